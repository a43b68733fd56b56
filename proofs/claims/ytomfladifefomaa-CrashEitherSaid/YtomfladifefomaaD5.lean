/- What spend hands over when a volume's bytes are to be written: a row more. Conditions: as each law states them. -/
import Derived.Test.YtomfladifefomaaD4
namespace Go.Proofs.Ytomfladifefomaa
open Go.RowKit
set_option linter.unusedSimpArgs false
def OwnV (d : Dev) (k : Nat) (x : Vol) (u : Value) (R : List Rw) (G : GW) : Prop := ∃ (A1 : Option Addr) (k1 : Nat) (A2 : Option Addr) (k2 : Nat) (A3 : Option Addr) (k3 : Nat) (A4 : Option Addr) (k4 : Nat) (c1 c2 c3 : List (List Value)), u = .agg #[.slice A1 d.safe.length k1, .slice A2 d.cache.length k2, .slice A3 d.vols.length k3, .int .i64 d.fuel] ∧
  R = [⟨.slice A1 d.safe.length k1, 23, 1, d.safe.length, c1.flatten⟩, ⟨.slice A2 d.cache.length k2, 61, 2, d.cache.length, c2.flatten⟩, ⟨.slice A3 d.vols.length k3, 104, 3, d.vols.length, c3.flatten⟩, ⟨.slice A4 x.data.length k4, 5, 1, x.data.length, x.data.map enc8⟩] ∧
  ElG RowG 1 G c1 d.safe ∧ ElG WrG 2 G c2 d.cache ∧ c3.length = d.vols.length ∧ (∀ cs ∈ c3, List.length cs = 3) ∧ c3[k]? = some [.slice A4 x.data.length k4, .int .i64 x.synced, .bool x.gone] ∧ ∀ j cs y, j ≠ k → c3[j]? = some cs → d.vols[j]? = some y → VolG G y cs
theorem own_rowsV {G : GW} {w' : World} {dv : Value} {d : Dev} {k : Nat} {x : Vol} (hx : d.vols[k]? = some x) (h : OwnDev G.w.heap.size w' dv d) (hT : Tid bX G) (hW : G.Wf) (hc : Chg Non G.w w') :
    ∃ R, (∀ r ∈ R, w'.ownsRow G.w.heap.size r.t r.k r.v r.n r.xs) ∧ RApart R ∧ OwnV d k x dv R ⟨fun k => G.M k ∨ ∃ r ∈ R, r.v.ownBlock = some k, w'⟩ := by
  obtain ⟨s, c, v, V, css, rfl, ⟨c1, e1, o1⟩, ⟨c2, e2, o2⟩, hk, hb, e3, o3, hp⟩ := h
  obtain ⟨A1, k1, rfl, _⟩ := ownsRow_form o1
  obtain ⟨A2, k2, rfl, _⟩ := ownsRow_form o2
  obtain ⟨A3, k3, rfl, _⟩ := ownsRow_form o3
  obtain ⟨cs, hcs, hcl, u, rfl, o4⟩ := e3.at_ hx
  obtain ⟨A4, k4, rfl, _⟩ := ownsRow_form o4
  have o1' := ownsRow_keep o1 hk rfl
  have o2' := ownsRow_keep o2 hk rfl
  have o4' := ownsRow_base o4 hb
  obtain ⟨R, hR⟩ : ∃ R : List Rw, R = [⟨.slice A1 d.safe.length k1, 23, 1, d.safe.length, c1.flatten⟩, ⟨.slice A2 d.cache.length k2, 61, 2, d.cache.length, c2.flatten⟩, ⟨.slice A3 d.vols.length k3, 104, 3, d.vols.length, css.flatten⟩, ⟨.slice A4 x.data.length k4, 5, 1, x.data.length, x.data.map enc8⟩] := ⟨_, rfl⟩
  have hown : ∀ r ∈ R, w'.ownsRow G.w.heap.size r.t r.k r.v r.n r.xs := by
    rw [hR]
    simp only [List.forall_mem_cons]
    exact ⟨o1', o2', o3, o4', fun _ h => by cases h⟩
  have hTG := tid_chg hT hW hc
  have hno : ∀ g cur fr, w'.heap[g]? = some (.cells cur 5 fr) → (Value.slice A4 x.data.length k4).ownBlock ≠ some g → ¬ (G.M g ∨ ∃ r ∈ R, r.v.ownBlock = some g) := by
    intro g cur fr hg hne hm
    rcases hm with hm | ⟨r, hr, e⟩
    · have := hTG g hm cur _ fr hg
      exact absurd this (by decide)
    · rw [hR] at hr
      simp only [List.mem_cons, List.not_mem_nil, or_false] at hr
      rcases hr with rfl | rfl | rfl | rfl
      · obtain ⟨cur', h'⟩ := owns_type o1' e
        rw [h'] at hg; cases hg
      · obtain ⟨cur', h'⟩ := owns_type o2' e
        rw [h'] at hg; cases hg
      · obtain ⟨cur', h'⟩ := owns_type o3 e
        rw [h'] at hg; cases hg
      · exact hne e
  have hbyV : ∀ u bs, BytesR V u bs → ByG ⟨fun k => G.M k ∨ ∃ r ∈ R, r.v.ownBlock = some k, w'⟩ u bs := by
    rintro u bs ⟨A, c, rfl, q1, q2, q3, q4⟩
    refine ⟨A, c, rfl, q1, q2, q3, fun hn => ?_⟩
    obtain ⟨g, o, cur, fr, rfl, hb', hc'⟩ := q4 hn
    have hg := hk.2 g cur _ fr hb' rfl
    refine ⟨g, o, cur, fr, rfl, hno g cur fr hg fun e => ?_, hg, hc'⟩
    have := (ownsRow_lt o4 e).1
    have := lt_of_block hb'
    omega
  refine ⟨R, hown, ?_, A1, k1, A2, k2, A3, k3, A4, k4, c1, c2, css, rfl, hR, ?_, ?_, e3.1, e3.2.1, hcs, ?_⟩
  · rw [hR]
    refine List.Pairwise.cons (fun r hr => ?_) (List.Pairwise.cons (fun r hr => ?_) (List.Pairwise.cons (fun r hr => ?_) (List.pairwise_singleton _ _)))
    · simp only [List.mem_cons, List.not_mem_nil, or_false] at hr
      rcases hr with rfl | rfl | rfl
      · exact owns_apart o1' o2' (by decide)
      · exact owns_apart o1' o3 (by decide)
      · exact owns_apart o1' o4' (by decide)
    · simp only [List.mem_cons, List.not_mem_nil, or_false] at hr
      rcases hr with rfl | rfl
      · exact owns_apart o2' o3 (by decide)
      · exact owns_apart o2' o4' (by decide)
    · simp only [List.mem_cons, List.not_mem_nil, or_false] at hr
      subst hr
      exact owns_apart o3 o4' (by decide)
  · exact ⟨e1.1, e1.2.1, fun i cs x h1 h2 => let ⟨u, e, h⟩ := e1.2.2 i cs x h1 h2; ⟨u, e, hbyV _ _ h⟩⟩
  · exact ⟨e2.1, e2.2.1, fun i cs x h1 h2 => let ⟨u, e, h⟩ := e2.2.2 i cs x h1 h2; ⟨u, e, hbyV _ _ h⟩⟩
  · intro j cs y hj h1 h2
    obtain ⟨u, rfl, h⟩ := e3.2.2 j cs y h1 h2
    refine ⟨u, rfl, ?_⟩
    obtain ⟨A, c, rfl, q1, q2, q3, q4⟩ := TSl.of_own h
    refine ⟨A, c, rfl, q1, q2, q3, fun hn => ?_⟩
    obtain ⟨g, o, cur, fr, rfl, hb', hc'⟩ := q4 hn
    refine ⟨g, o, cur, fr, rfl, hno g cur fr hb' fun e => ?_, hb', hc'⟩
    have ho : (Value.slice (some ⟨g, o, none⟩) y.data.length c).ownBlock = some g := by
      rcases h.2 with ⟨e', _⟩ | ⟨g', cap, cur', e', _⟩
      · cases e'
      · cases e'; rfl
    exact hp k j _ _ g (Ne.symm hj) hcs h1 e ho
theorem spendV_does (g : Geo) (hg : GoodGeo g) (d : Dev) (hd : GoodDev g d) (hf : d.fuel ≠ 0) {k : Nat} {x : Vol} (hx : d.vols[k]? = some x) (dv : Value) (G : GW) (h : DevG G dv d) (hT : Tid bX G) (hW : G.Wf) :
    Calls Try.prog 60 #[geoV g, dv] G.w (RetO G fun v R G' => ∃ u, v = .tuple #[u, .int .i64 0] ∧ OwnV (spent d) k x u R G') := by
  refine (spend_ok g hg d hd hf dv G.w h.r).mono ?_
  rintro e w' ⟨dv', rfl, ho, hb⟩
  obtain ⟨R, h1, h2, h3⟩ := own_rowsV (d := spent d) (x := x) hx ho hT hW (Chg.of_below hb)
  exact ⟨_, R, rfl, h1, h2, ⟨dv', rfl, h3⟩, Chg.of_below hb⟩
/-- an element whose own part was open is whole again -/
theorem PWk.fill {α : Type} {R : GW → α → List Value → Prop} {G : GW} {S : List Value} {l : List α} {k m i : Nat} {u : Value} {y : α} {cs0 : List Value}
    (h : ∀ (j : Nat) (x : α), j ≠ m → l[j]? = some x → ∃ cs : List Value, cs.length = k ∧ R G x cs ∧ ∀ (i : Nat) (u : Value), cs[i]? = some u → S[j * k + i]? = some u) (hm : m < l.length)
    (h0 : ∀ (i : Nat) (u : Value), cs0[i]? = some u → S[m * k + i]? = some u) (hl : cs0.length = k) (hi : i < k) (hr : R G y (cs0.set i u)) : PWk R k G (S.set (m * k + i) u) (l.set m y) := by
  intro j z hz
  by_cases e : m = j
  · subst e
    rw [List.getElem?_set_self hm] at hz
    cases hz
    refine ⟨cs0.set i u, by simpa using hl, hr, fun i' u' hu => ?_⟩
    by_cases e' : i = i'
    · subst e'
      rw [List.getElem?_set_self (by omega)] at hu
      cases hu
      have hS : m * k + i < S.length := by
        have := h0 i cs0[i] (List.getElem?_eq_getElem (by omega))
        exact (List.getElem?_eq_some_iff.1 this).1
      exact List.getElem?_set_self hS
    · rw [List.getElem?_set_ne e'] at hu
      rw [List.getElem?_set_ne (by omega)]
      exact h0 i' u' hu
  · rw [List.getElem?_set_ne e] at hz
    obtain ⟨cs, h1, h2, h3⟩ := h j z (fun q => e q.symm) hz
    refine ⟨cs, h1, h2, fun i' u' hu => ?_⟩
    have hi' : i' < k := by rw [← h1]; exact (List.getElem?_eq_some_iff.1 hu).1
    rw [List.getElem?_set_ne (fun q => e ?_)]
    · exact h3 i' u' hu
    · have q1 : (m * k + i) / k = m := by rw [Nat.mul_comm, Nat.mul_add_div (by omega), Nat.div_eq_of_lt hi, Nat.add_zero]
      have q2 : (j * k + i') / k = j := by rw [Nat.mul_comm, Nat.mul_add_div (by omega), Nat.div_eq_of_lt hi', Nat.add_zero]
      rw [← q1, ← q2, q]
end Go.Proofs.Ytomfladifefomaa
