/- A literal slice that is appended to at once, and only read from then on. Names no program. Conditions: as each law states them. -/
import Derived.Test.YtomfladifefomaaP2
namespace Go.Proofs.Ytomfladifefomaa
open Go.RowKit
section
variable {P : Program} {E : Env} {σ : St} {o : Oper}
/-- a block of the call's own as a row -/
theorem blkRow_ok {Φ : Act → World → Prop} {B1 B2 : List Bl} {b : Bl} (hB : σ.blks = B1 ++ b :: B2) (hA : ¬ E.A b.g) (k n : Nat) (hl : b.cs.length = n * k) (hn : n ≤ maxLen)
    (h : Ok E { σ with blks := B1 ++ B2, rows := ⟨.slice (some ⟨b.g, 0, none⟩) n n, b.t, k, n, b.cs.map SC.den⟩ :: σ.rows } Φ) : Ok E σ Φ := by
  intro a w hr
  have hbm : b ∈ σ.blks := by rw [hB]; simp
  have hsub : ∀ q ∈ B1 ++ B2, q ∈ σ.blks := by
    intro q hq
    rw [hB]
    rcases List.mem_append.1 hq with hq | hq
    · exact List.mem_append_left _ hq
    · exact List.mem_append_right _ (List.mem_cons_of_mem _ hq)
  have hnd := hr.nodup
  rw [hB, List.pairwise_append, List.pairwise_cons] at hnd
  obtain ⟨p1, ⟨p2, p3⟩, p4⟩ := hnd
  have hne : ∀ q ∈ B1 ++ B2, q.g ≠ b.g := by
    intro q hq e
    rcases List.mem_append.1 hq with hq | hq
    · exact p4 q hq b List.mem_cons_self e
    · exact p2 q hq e.symm
  have hM : ∀ j, St.M E { σ with blks := B1 ++ B2, rows := ⟨.slice (some ⟨b.g, 0, none⟩) n n, b.t, k, n, b.cs.map SC.den⟩ :: σ.rows } j → σ.M E j := by
    intro j hj
    rcases hj with q | ⟨q, hq, rfl⟩ | ⟨r, hr', e⟩
    · exact .inl q
    · exact .inr (.inl ⟨q, hsub q hq, rfl⟩)
    · rcases List.mem_cons.1 hr' with rfl | hr'
      · have e' : some b.g = some j := e
        cases e'
        exact .inr (.inl ⟨b, hbm, rfl⟩)
      · exact .inr (.inr ⟨r, hr', e⟩)
  have hbk : w.heap[b.g]? = some (.cells (dens b.cs) b.t (0, 0)) := hr.blks b hbm
  refine h a w ⟨hr.tmps, hr.size, hr.defers, fun q hq => hr.blks q (hsub q hq), List.pairwise_append.2 ⟨p1, p3, fun q hq q' hq' => p4 q hq q' (List.mem_cons_of_mem _ hq')⟩,
    fun q hq => hr.own q (hsub q hq), ?_, ?_, List.Pairwise.cons (fun r hr' j e e' => ?_) hr.rapart, fun v hv => ?_, hr.chg, fun s hs => ⟨(hr.snaps s hs).size, fun j hj hm => ⟨((hr.snaps s hs).keep j hj hm).1, fun q => ((hr.snaps s hs).keep j hj hm).2 (hM j q)⟩⟩, hr.mem⟩
  · intro r hr'
    rcases List.mem_cons.1 hr' with rfl | hr'
    · refine ⟨by simpa using hl, .inr ⟨b.g, n, dens b.cs, rfl, ?_, hbk, Nat.le_refl _, hn, by simpa [dens] using hl, ?_⟩⟩
      · rcases hr.own b hbm with q | q
        · exact absurd q hA
        · exact q
      · simp only [dens, List.toList_toArray]
        rw [← hl]
        exact List.take_of_length_le (by simp)
    · exact hr.rows r hr'
  · intro r hr' q hq
    rcases List.mem_cons.1 hr' with rfl | hr'
    · intro e
      have e' : some b.g = some q.g := e
      exact hne q hq (Option.some.inj e').symm
    · exact hr.apart r hr' q (hsub q hq)
  · have e1 : some b.g = some j := e
    cases e1
    exact hr.apart r hr' b hbm e'
  · obtain ⟨a1, a2, a3⟩ := hr.views v hv
    exact ⟨a1, fun q => a2 (hM _ q), a3⟩
/-- 'append' onto a literal that nobody else has, whose outcome nobody writes -/
theorem lit_append_does {s x : Operand} {t e by_ m cx n : Nat} {Ax : Option Addr} {news : List Value} {B1 B2 : List Bl} {b : Bl} (ho : o.op = .call ⟨.builtin .append, #[s, x], #[t, t]⟩) (ht : tSlice P t = some e) (ha : tApp P e = some (1, by_))
    (hB : σ.blks = B1 ++ b :: B2) (hA : ¬ E.A b.g) (hbt : b.t = e) (hbl : b.cs.length = n) (hs : ev σ s = some (.c (.s b.id b.g 0 n n))) {xv : SV} (hx : ev σ x = some xv) (hxv : xv.den = .slice Ax m cx) (hd : dOk E o.dst) (h1 : ∀ u ∈ news, u.oneCell' = true)
    (h63 : n + m ≤ maxLen) (hb : (n + m) * by_ ≤ 140737488355328) (hn : ∀ G : GW, (∀ s ∈ σ.snaps, s.Le G) → TSl G.w e 1 m (.slice Ax m cx) news) :
    Does P E σ o (fun σ' => ∃ A c G, Sl G e 1 (n + m) (.slice A (n + m) c) (b.cs.map SC.den ++ news) ∧ (∀ s ∈ σ.snaps, s.Le G) ∧ σ' = (St.seen { σ with blks := B1 ++ B2 } G).put o.dst (.c (.v (.slice A (n + m) c)))) := by
  intro a w Q next hr hnx
  have hs' : a.eval s = .slice (some ⟨b.g, 0, none⟩) n n := ev_den hr.see hs
  have hx' : a.eval x = .slice Ax m cx := (ev_den hr.see hx).trans hxv
  refine blkRow_ok (Φ := fun a' w' => a' = a → w' = w → o.wp P a w next Q) hB hA 1 n (by rw [hbl, Nat.mul_one]) (by omega) ?_ a w hr rfl rfl
  rintro a' w' hr2 rfl rfl
  obtain ⟨i, z, hi, hz, hk, hby, hzs, h0⟩ := tApp_spec ha
  have hrow := hr2.rows _ List.mem_cons_self
  rw [hbt] at hrow
  refine wp_append_tsl w' s x t ho E.W.heap.size e i z 1 by_ (tSlice_spec ht) hi hz hk hby hzs h0 _ n _ hs' hrow Ax m cx news hx' (hn _ hr2.snaps) h1 h63 hb hr2.chg.size ?_
  intro A' c' w2 hown hg hat
  have hr3 := hr2.grow (R1 := []) (r' := ⟨.slice A' (n + m) c', e, 1, n + m, b.cs.map SC.den ++ news⟩) rfl hg hown hat
  refine read_ok (Φ := fun a3 w3 => a3 = a' → w3 = w2 → next (a'.put o.dst (.slice A' (n + m) c')) w2) (R1 := []) rfl (fun G hle hsl => ?_) a' w2 hr3 rfl rfl
  rintro a3 w3 hr4 rfl rfl
  exact hnx _ _ _ ⟨A', c', G, hsl, hle, rfl⟩ (hr4.put o.dst (.c (.v (.slice A' (n + m) c'))) (dOk_lt hd))
end
end Go.Proofs.Ytomfladifefomaa
