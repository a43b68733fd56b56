/- Rows that were written in their midst: rules for their cells, and how they are read from now on. Names no program. Conditions: as each law states them. -/
import Derived.Test.YtomfladifefomaaSo
namespace Go.Proofs.Ytomfladifefomaa
open Go.RowKit
theorem putCs_none : ∀ (l : List SC) (m : Nat), putCs l m [] = l
  | [], _ => rfl
  | _ :: _, 0 => rfl
  | x :: r, m + 1 => by simp only [putCs, putCs_none r m]
@[go_sem] theorem putCs_map1 : ∀ (L : List Value) (m : Nat) (u : Value), putCs (L.map .v) m [.v u] = (L.set m u).map .v
  | [], _, _ => rfl
  | x :: r, 0, u => by simp only [List.map_cons, putCs, putCs_none, List.set_cons_zero]
  | x :: r, m + 1, u => by simp only [List.map_cons, putCs, List.set_cons_succ, putCs_map1 r m u]
@[go_sem] theorem putCs_map2 : ∀ (L : List Value) (m : Nat) (u v : Value), putCs (L.map .v) m [.v u, .v v] = ((L.set m u).set (m + 1) v).map .v
  | [], _, _, _ => rfl
  | x :: r, 0, u, v => by
    simp only [List.map_cons, putCs, List.set_cons_zero, List.set_cons_succ]
    rw [putCs_map1]
  | x :: r, m + 1, u, v => by simp only [List.map_cons, putCs, List.set_cons_succ, putCs_map2 r m u v]
@[go_sem] theorem putCs_map3 : ∀ (L : List Value) (m : Nat) (u v x : Value), putCs (L.map .v) m [.v u, .v v, .v x] = (((L.set m u).set (m + 1) v).set (m + 2) x).map .v
  | [], _, _, _, _ => rfl
  | y :: r, 0, u, v, x => by
    simp only [List.map_cons, putCs, List.set_cons_zero, List.set_cons_succ]
    rw [putCs_map2]
  | y :: r, m + 1, u, v, x => by simp only [List.map_cons, putCs, List.set_cons_succ, putCs_map3 r m u v x]
@[go_sem] theorem map_den_v (L : List Value) : (L.map SC.v).map SC.den = L := by
  rw [List.map_map]; exact List.map_id L
section
variable {E : Env} {σ : St}
/-- a block of the call's own that is only read from now on -/
theorem blkRead_ok {Φ : Act → World → Prop} {B1 B2 : List Bl} {b : Bl} (hB : σ.blks = B1 ++ b :: B2) (k n cap : Nat) (hn : n ≤ cap) (hc : cap ≤ maxLen) (hl : b.cs.length = cap * k)
    (hA : ¬ E.A b.g) (h : ∀ G : GW, (∀ s ∈ σ.snaps, s.Le G) → Sl G b.t k n (.slice (some ⟨b.g, 0, none⟩) n cap) ((b.cs.map SC.den).take (n * k)) → Ok E (St.seen { σ with blks := B1 ++ B2 } G) Φ) : Ok E σ Φ := by
  intro a w hr
  have hbm : b ∈ σ.blks := by rw [hB]; simp
  have hsub : ∀ q ∈ B1 ++ B2, q ∈ σ.blks := by
    intro q hq
    rw [hB]
    rcases List.mem_append.1 hq with hq | hq
    · exact List.mem_append_left _ hq
    · exact List.mem_append_right _ (List.mem_cons_of_mem _ hq)
  have hnd := hr.nodup
  rw [hB, List.pairwise_append, List.pairwise_cons] at hnd
  obtain ⟨p1, ⟨p2, p3⟩, p4⟩ := hnd
  have hM : ∀ k, St.M E { σ with blks := B1 ++ B2 } k → σ.M E k := by
    intro k hk
    rcases hk with q | ⟨q, hq, e⟩ | q
    · exact .inl q
    · exact .inr (.inl ⟨q, hsub q hq, e⟩)
    · exact .inr (.inr q)
  have hr2 : Rel E { σ with blks := B1 ++ B2 } a w := ⟨hr.tmps, hr.size, hr.defers, fun q hq => hr.blks q (hsub q hq), List.pairwise_append.2 ⟨p1, p3, fun q hq q' hq' => p4 q hq q' (List.mem_cons_of_mem _ hq')⟩,
    fun q hq => hr.own q (hsub q hq), hr.rows, fun r hr' q hq => hr.apart r hr' q (hsub q hq), hr.rapart,
    fun v hv => let ⟨h1, h2, h3⟩ := hr.views v hv; ⟨h1, fun q => h2 (hM _ q), h3⟩, hr.chg,
    fun s hs => ⟨(hr.snaps s hs).size, fun k hk hm => ⟨((hr.snaps s hs).keep k hk hm).1, fun q => ((hr.snaps s hs).keep k hk hm).2 (hM k q)⟩⟩, hr.mem⟩
  refine h ⟨St.M E { σ with blks := B1 ++ B2 }, w⟩ hr2.snaps ?_ a w (hr2.called (Chg.refl _ _))
  refine ⟨_, cap, rfl, hn, hc, ?_, fun _ => ⟨b.g, 0, dens b.cs, (0, 0), rfl, fun q => ?_, hr.blks b hbm, fun j u hu => ?_⟩⟩
  · rw [List.length_take, List.length_map, hl]
    exact Nat.min_eq_left (Nat.mul_le_mul_right k hn)
  · have hWs := hr.chg.size
    rcases q with q | ⟨q, hq, e⟩ | ⟨r, hr', e⟩
    · rcases hr.own b hbm with o | o
      · exact hA o
      · have := hr.mem b.g q; omega
    · rcases List.mem_append.1 hq with hq | hq
      · exact p4 q hq b List.mem_cons_self e
      · exact p2 q hq e.symm
    · exact hr.apart r hr' b hbm e
  · rw [List.getElem?_take] at hu
    split at hu
    · simpa [dens] using hu
    · cases hu
end
/-- cells of rows of one cell each, place by place -/
def PW {α : Type} (R : GW → α → List Value → Prop) (G : GW) (S : List Value) (l : List α) : Prop := ∀ (j : Nat) (x : α), l[j]? = some x → ∃ u, S[j]? = some u ∧ R G x [u]
section
variable {α : Type} {R : GW → α → List Value → Prop} {G G' : GW} {S : List Value} {l : List α}
theorem PW.mono (h : PW R G S l) (hR : MonoR R) (hl : G.Le G') : PW R G' S l := fun j x hx => let ⟨u, h1, h2⟩ := h j x hx; ⟨u, h1, hR _ _ _ _ hl h2⟩
theorem PW.set_ (h : PW R G S l) {m : Nat} {u : Value} {x : α} (hm : m < S.length) (hr : R G x [u]) : PW R G (S.set m u) (l.set m x) := by
  intro j y hy
  by_cases e : m = j
  · subst e
    have hml : m < l.length := by
      have := (List.getElem?_eq_some_iff.1 hy).1
      simpa using this
    rw [List.getElem?_set_self hml] at hy
    cases hy
    exact ⟨u, List.getElem?_set_self hm, hr⟩
  · rw [List.getElem?_set_ne e] at hy
    rw [List.getElem?_set_ne e]
    exact h j y hy
theorem PW.of {css : List (List Value)} {cur : List Value} (h : ElG R 1 G css l) (hc : cur.take (l.length * 1) = css.flatten) : PW R G cur l := by
  intro j x hx
  obtain ⟨cs, h1, h2, h3⟩ := h.at_ hx
  obtain ⟨u, rfl⟩ : ∃ u, cs = [u] := by
    match cs, h2 with
    | [u], _ => exact ⟨u, rfl⟩
  refine ⟨u, ?_, h3⟩
  have hj : j < l.length := (List.getElem?_eq_some_iff.1 hx).1
  have := flatten_at css h.2.1 j 0 [u] h1 (by omega)
  rw [← hc, Nat.mul_one, Nat.mul_one, Nat.add_zero, List.getElem?_take_of_lt hj] at this
  exact this
theorem PW.sq {t n : Nat} {v : Value} (h : PW R G S l) (hn : n = l.length) (hl : n ≤ S.length) (hs : Sl G t 1 n v (S.take (n * 1))) : Sq R t 1 G v l := by
  subst hn
  refine ⟨(S.take l.length).map fun u => [u], ⟨by simp; omega, ?_, fun i cs x h1 h2 => ?_⟩, ?_⟩
  · intro cs hcs
    obtain ⟨u, _, rfl⟩ := List.mem_map.1 hcs
    rfl
  · obtain ⟨u, hu, hr⟩ := h i x h2
    have hi : i < l.length := (List.getElem?_eq_some_iff.1 h2).1
    rw [List.getElem?_map, List.getElem?_take_of_lt hi, hu] at h1
    cases h1
    exact hr
  · have : ((S.take l.length).map fun u => [u]).flatten = S.take l.length := by
      generalize S.take l.length = T
      induction T with
      | nil => rfl
      | cons a r ih => simp [ih]
    rw [this]
    rw [Nat.mul_one] at hs
    exact hs
end
end Go.Proofs.Ytomfladifefomaa
