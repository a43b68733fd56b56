/- dev.Arm, dev.Fetch, over devices that may be: total contracts; clones. Conditions: as each law states them. -/
import Derived.Test.YtomfladifefomaaD2
import Derived.Test.YtomfladifefomaaSc
namespace Go.Proofs.Ytomfladifefomaa
open Go.RowKit
set_option linter.unusedSimpArgs false
theorem sl_own {G : GW} {w' : World} {t k n : Nat} {v : Value} {xs : List Value} (hW : G.Wf) (h : w'.ownsRow G.w.heap.size t k v n xs) : Sl ⟨G.M, w'⟩ t k n v xs := by
  obtain ⟨h1, h2⟩ := h
  rcases h2 with ⟨rfl, rfl⟩ | ⟨g, cap, cur, rfl, hb, hg, q1, q2, q3, q4⟩
  · exact ⟨none, 0, rfl, Nat.le_refl _, Nat.zero_le _, h1, fun h => absurd h (by omega)⟩
  · refine ⟨_, cap, rfl, q1, q2, h1, fun _ => ⟨g, 0, cur, (0, 0), rfl, fun hm => ?_, hg, fun j u hu => ?_⟩⟩
    · have : g < G.w.heap.size := hW g hm
      omega
    · rw [← q4, List.getElem?_take] at hu
      split at hu
      · simpa using hu
      · cases hu
theorem clone_ret {G : GW} (hW : G.Wf) {v : Value} {bs : List UInt8} (h : ByG G v bs) (hn : bs.length ≤ 1000000000) :
    Calls Try.prog 61 #[v] G.w (Ret G fun u G' => ∃ A c, u = .slice A bs.length c ∧ ByG G' u bs) :=
  ret_of (clone_any v bs G.w h.r hn) fun _ _ ⟨A, c, he, ho, hb⟩ => ⟨_, he, ⟨A, c, rfl, sl_own hW ho⟩, hb⟩
theorem byG_cut {G : GW} {A : Option Addr} {c l n : Nat} {bs : List UInt8} (h : Sl G 5 1 n (.slice A n c) (((bs.map enc8).drop (l * 1)).take (n * 1))) (hl : l + n ≤ bs.length) : ByG G (.slice A n c) ((bs.drop l).take n) := by
  show Sl G _ 1 ((bs.drop l).take n).length _ (((bs.drop l).take n).map enc8)
  have e : ((bs.drop l).take n).length = n := by rw [List.length_take, List.length_drop]; omega
  rw [e, List.map_take, List.map_drop]
  simpa using h
/-- bytes, or an error -/
def BytE (G : GW) (v : Value) (err : Int) (bs : List UInt8) : Prop := ∃ u, v = .tuple #[u, .int .i64 err] ∧ (err = 0 → ByG G u bs) ∧ (err ≠ 0 → u = .slice none 0 0)
theorem byt_err {G : GW} (bs : List UInt8) (err : Int) (h : err ≠ 0) : BytE G (.tuple #[.slice none 0 0, .int .i64 err]) err bs := ⟨_, rfl, fun e => absurd e h, fun _ => rfl⟩
theorem byt_ok {G : GW} {v : Value} {bs : List UInt8} {err : Int} (he : err = 0) (h : ∃ u, v = .tuple #[u, .int .i64 0] ∧ ByG G u bs) : BytE G v err bs := by
  subst he
  obtain ⟨dv, e, h⟩ := h
  exact ⟨dv, e, fun _ => h, fun e => absurd rfl e⟩
theorem vol_ret {G : GW} {dv : Value} {d : Dev} (h : DevG G dv d) (v : Int) : Calls Try.prog 59 #[dv, .int .i64 v] G.w (Ret G fun u _ => u = .bool (volOk d v)) := by
  cases hv : volOk d v with
  | false => exact ret_of (volume_no dv d v G.w h.r hv) fun _ _ ⟨he, hb⟩ => ⟨_, he, rfl, hb⟩
  | true =>
    obtain ⟨k, x, rfl, hx, hg⟩ := volOk_in hv
    exact ret_of (volume_in dv d k x G.w h.r hx) fun _ _ ⟨he, hb⟩ => ⟨_, he, by rw [hg]; rfl, hb⟩
theorem volcells {G : GW} {x : Vol} {cs : List Value} (h : VolG G x cs) : ∃ A c, cs = [.slice A x.data.length c, .int .i64 x.synced, .bool x.gone] ∧ ByG G (.slice A x.data.length c) x.data := by
  obtain ⟨u, rfl, h⟩ := h
  obtain ⟨A, c, rfl, _⟩ := h.form
  exact ⟨A, c, rfl, h⟩
def armErr (f : Int) : Int := if f < 0 ∨ 1048576 < f then 2 else 0
set_option maxRecDepth 100000 in
set_option maxHeartbeats 4000000 in
theorem arm_does {g : Geo} (hg : GoodGeo g) {d : Dev} (hd : GoodDev g d) {dv : Value} {f : Int} {G0 : GW} (hW : G0.Wf) (hT : Tid bX G0) (h : DevG G0 dv d) :
    Calls Try.prog 48 #[geoV g, dv, .int .i64 f] G0.w (Ret G0 fun v G => DevE G v (armErr f) { d with fuel := f }) := by
  obtain ⟨A1, k1, A2, k2, A3, k3, rfl, hs, hc, hv⟩ := h.form
  refine enter (G := G0) (n := 29) 3000 hW Try.func48 rfl Try.ntmps48 (by simp) ?_
  simp only [go_sem, Nat.reduceAdd, Nat.reduceSub, Nat.reduceMul, Nat.reduceEqDiff, Nat.reduceLT, Nat.reduceLeDiff, Nat.reduceBEq, Nat.reduceBNe, Int.reduceLT, Int.reduceLE, Int.reduceEq, Int.reduceAdd, Int.reduceSub, Int.reduceNeg, decide_true, decide_false, Bool.not_true, Bool.not_false, cond_true, cond_false, beq_self_eq_true, and_self, ne_eq, not_true_eq_false, not_false_eq_true, reduceCtorEq, Bool.true_beq, Bool.false_beq, geoV]
  intro g1 g2 g3
  refine plain_ok (N := 3000) (call_does (fun v G => v = .int .i64 0) rfl rfl (by kernel_rfl) rfl (by simp only [dOk_some, dOk_none, Nat.reduceLT]) (fun G hG => chk hg hd (h.mono (hG.le G0 (by simp))))) (QOk_body _ _ _) (.inl rfl) ?_
  rintro _ ⟨v, G1, rfl, hn1, rfl⟩
  clear hn1
  by_cases e1 : f < 0
  · have he : armErr f = 2 := by unfold armErr; rw [if_pos (.inl e1)]
    have q1 : decide (f < 0) = true := by simpa using e1
    simp only [go_sem, Nat.reduceAdd, Nat.reduceSub, Nat.reduceMul, Nat.reduceEqDiff, Nat.reduceLT, Nat.reduceLeDiff, Nat.reduceBEq, Nat.reduceBNe, Int.reduceLT, Int.reduceLE, Int.reduceEq, Int.reduceAdd, Int.reduceSub, Int.reduceNeg, decide_true, decide_false, Bool.not_true, Bool.not_false, cond_true, cond_false, beq_self_eq_true, and_self, ne_eq, not_true_eq_false, not_false_eq_true, reduceCtorEq, Bool.true_beq, Bool.false_beq, q1]
    refine fin_ret (G := G0) Try.results48 ?_
    simp only [go_sem, Nat.reduceAdd, Nat.reduceSub, Nat.reduceMul, Nat.reduceEqDiff, Nat.reduceLT, Nat.reduceLeDiff, Nat.reduceBEq, Nat.reduceBNe, Int.reduceLT, Int.reduceLE, Int.reduceEq, Int.reduceAdd, Int.reduceSub, Int.reduceNeg, decide_true, decide_false, Bool.not_true, Bool.not_false, cond_true, cond_false, beq_self_eq_true, and_self, ne_eq, not_true_eq_false, not_false_eq_true, reduceCtorEq, Bool.true_beq, Bool.false_beq]
    intro a w' _ _
    exact he.symm ▸ dev_err _ _ (by decide)
  have q1 : decide (f < 0) = false := by simpa using e1
  by_cases e2 : 1048576 < f
  · have he : armErr f = 2 := by unfold armErr; rw [if_pos (.inr e2)]
    have q2 : decide (1048576 < f) = true := by simpa using e2
    simp only [go_sem, Nat.reduceAdd, Nat.reduceSub, Nat.reduceMul, Nat.reduceEqDiff, Nat.reduceLT, Nat.reduceLeDiff, Nat.reduceBEq, Nat.reduceBNe, Int.reduceLT, Int.reduceLE, Int.reduceEq, Int.reduceAdd, Int.reduceSub, Int.reduceNeg, decide_true, decide_false, Bool.not_true, Bool.not_false, cond_true, cond_false, beq_self_eq_true, and_self, ne_eq, not_true_eq_false, not_false_eq_true, reduceCtorEq, Bool.true_beq, Bool.false_beq, q1, q2]
    refine fin_ret (G := G0) Try.results48 ?_
    simp only [go_sem, Nat.reduceAdd, Nat.reduceSub, Nat.reduceMul, Nat.reduceEqDiff, Nat.reduceLT, Nat.reduceLeDiff, Nat.reduceBEq, Nat.reduceBNe, Int.reduceLT, Int.reduceLE, Int.reduceEq, Int.reduceAdd, Int.reduceSub, Int.reduceNeg, decide_true, decide_false, Bool.not_true, Bool.not_false, cond_true, cond_false, beq_self_eq_true, and_self, ne_eq, not_true_eq_false, not_false_eq_true, reduceCtorEq, Bool.true_beq, Bool.false_beq]
    intro a w' _ _
    exact he.symm ▸ dev_err _ _ (by decide)
  have q2 : decide (1048576 < f) = false := by simpa using e2
  have he : armErr f = 0 := by unfold armErr; rw [if_neg (by omega)]
  simp only [go_sem, Nat.reduceAdd, Nat.reduceSub, Nat.reduceMul, Nat.reduceEqDiff, Nat.reduceLT, Nat.reduceLeDiff, Nat.reduceBEq, Nat.reduceBNe, Int.reduceLT, Int.reduceLE, Int.reduceEq, Int.reduceAdd, Int.reduceSub, Int.reduceNeg, decide_true, decide_false, Bool.not_true, Bool.not_false, cond_true, cond_false, beq_self_eq_true, and_self, ne_eq, not_true_eq_false, not_false_eq_true, reduceCtorEq, Bool.true_beq, Bool.false_beq, q1, q2]
  refine plain_ok (N := 3000) (callO_does (OwnT d) rfl rfl (by kernel_rfl) rfl (by simp only [dOk_some, dOk_none, Nat.reduceLT]) (fun G hG => own_does d _ G (h.mono (hG.le G0 (by simp))) (tidB hG (fun _ h => h) hT hW rfl rfl (by simp) (by simp; decide)) hG.wf hg hd)) (QOk_body _ _ _) (.inl rfl) ?_
  rintro _ ⟨v, R, G2, ⟨A4, c4, A5, c5, A6, c6, C1, C2, C3, rfl, rfl, E1, E2, E3⟩, hn2, rfl⟩
  clear hn2
  simp only [List.cons_append, List.nil_append]
  simp only [go_sem, Nat.reduceAdd, Nat.reduceSub, Nat.reduceMul, Nat.reduceEqDiff, Nat.reduceLT, Nat.reduceLeDiff, Nat.reduceBEq, Nat.reduceBNe, Int.reduceLT, Int.reduceLE, Int.reduceEq, Int.reduceAdd, Int.reduceSub, Int.reduceNeg, decide_true, decide_false, Bool.not_true, Bool.not_false, cond_true, cond_false, beq_self_eq_true, and_self, ne_eq, not_true_eq_false, not_false_eq_true, reduceCtorEq, Bool.true_beq, Bool.false_beq]
  intro g4
  refine read_ok (R1 := []) rfl fun G4 _ hs4 => ?_
  simp only [go_sem, Nat.reduceAdd, Nat.reduceSub, Nat.reduceMul, Nat.reduceEqDiff, Nat.reduceLT, Nat.reduceLeDiff, Nat.reduceBEq, Nat.reduceBNe, Int.reduceLT, Int.reduceLE, Int.reduceEq, Int.reduceAdd, Int.reduceSub, Int.reduceNeg, decide_true, decide_false, Bool.not_true, Bool.not_false, cond_true, cond_false, beq_self_eq_true, and_self, ne_eq, not_true_eq_false, not_false_eq_true, reduceCtorEq, Bool.true_beq, Bool.false_beq]
  refine read_ok (R1 := []) rfl fun G5 _ hs5 => ?_
  simp only [go_sem, Nat.reduceAdd, Nat.reduceSub, Nat.reduceMul, Nat.reduceEqDiff, Nat.reduceLT, Nat.reduceLeDiff, Nat.reduceBEq, Nat.reduceBNe, Int.reduceLT, Int.reduceLE, Int.reduceEq, Int.reduceAdd, Int.reduceSub, Int.reduceNeg, decide_true, decide_false, Bool.not_true, Bool.not_false, cond_true, cond_false, beq_self_eq_true, and_self, ne_eq, not_true_eq_false, not_false_eq_true, reduceCtorEq, Bool.true_beq, Bool.false_beq]
  refine read_ok (R1 := []) rfl fun G6 _ hs6 => ?_
  simp only [go_sem, Nat.reduceAdd, Nat.reduceSub, Nat.reduceMul, Nat.reduceEqDiff, Nat.reduceLT, Nat.reduceLeDiff, Nat.reduceBEq, Nat.reduceBNe, Int.reduceLT, Int.reduceLE, Int.reduceEq, Int.reduceAdd, Int.reduceSub, Int.reduceNeg, decide_true, decide_false, Bool.not_true, Bool.not_false, cond_true, cond_false, beq_self_eq_true, and_self, ne_eq, not_true_eq_false, not_false_eq_true, reduceCtorEq, Bool.true_beq, Bool.false_beq]
  refine fin_ret (G := G0) Try.results48 ?_
  simp only [go_sem, Nat.reduceAdd, Nat.reduceSub, Nat.reduceMul, Nat.reduceEqDiff, Nat.reduceLT, Nat.reduceLeDiff, Nat.reduceBEq, Nat.reduceBNe, Int.reduceLT, Int.reduceLE, Int.reduceEq, Int.reduceAdd, Int.reduceSub, Int.reduceNeg, decide_true, decide_false, Bool.not_true, Bool.not_false, cond_true, cond_false, beq_self_eq_true, and_self, ne_eq, not_true_eq_false, not_false_eq_true, reduceCtorEq, Bool.true_beq, Bool.false_beq]
  intro a w' _ hl
  exact dev_ok he ⟨_, rfl, _, _, _, rfl, sq_row E1 rowG_mono (hl G2 (by simp)) rfl (hs4.mono (hl G4 (by simp))), sq_row E2 wrG_mono (hl G2 (by simp)) rfl (hs5.mono (hl G5 (by simp))), sq_row E3 volG_mono (hl G2 (by simp)) rfl (hs6.mono (hl G6 (by simp)))⟩
set_option maxRecDepth 100000 in
set_option maxHeartbeats 4000000 in
theorem fetch_does {g : Geo} (hg : GoodGeo g) {d : Dev} (hd : GoodDev g d) {dv : Value} {v a n : Int} (ha : a ≤ 9223372036854775807) {G0 : GW} (hW : G0.Wf) (h : DevG G0 dv d) :
    Calls Try.prog 31 #[geoV g, dv, .int .i64 v, .int .i64 a, .int .i64 n] G0.w (Ret G0 fun u G => BytE G u (fetErr d v a n) (fetBytes d v a n)) := by
  obtain ⟨A1, k1, A2, k2, A3, k3, rfl, hs, hc, hv⟩ := h.form
  refine enter (G := G0) (n := 57) 3000 hW Try.func31 rfl Try.ntmps31 (by simp) ?_
  simp only [go_sem, Nat.reduceAdd, Nat.reduceSub, Nat.reduceMul, Nat.reduceEqDiff, Nat.reduceLT, Nat.reduceLeDiff, Nat.reduceBEq, Nat.reduceBNe, Int.reduceLT, Int.reduceLE, Int.reduceEq, Int.reduceAdd, Int.reduceSub, Int.reduceNeg, decide_true, decide_false, Bool.not_true, Bool.not_false, cond_true, cond_false, beq_self_eq_true, and_self, ne_eq, not_true_eq_false, not_false_eq_true, reduceCtorEq, Bool.true_beq, Bool.false_beq, geoV]
  intro g1 g2
  refine plain_ok (N := 3000) (call_does (fun v G => v = .int .i64 0) rfl rfl (by kernel_rfl) rfl (by simp only [dOk_some, dOk_none, Nat.reduceLT]) (fun G hG => chk hg hd (h.mono (hG.le G0 (by simp))))) (QOk_body _ _ _) (.inl rfl) ?_
  rintro _ ⟨_, G1, rfl, hn1, rfl⟩
  clear hn1
  simp only [go_sem, Nat.reduceAdd, Nat.reduceSub, Nat.reduceMul, Nat.reduceEqDiff, Nat.reduceLT, Nat.reduceLeDiff, Nat.reduceBEq, Nat.reduceBNe, Int.reduceLT, Int.reduceLE, Int.reduceEq, Int.reduceAdd, Int.reduceSub, Int.reduceNeg, decide_true, decide_false, Bool.not_true, Bool.not_false, cond_true, cond_false, beq_self_eq_true, and_self, ne_eq, not_true_eq_false, not_false_eq_true, reduceCtorEq, Bool.true_beq, Bool.false_beq]
  refine plain_ok (N := 3000) (call_does (fun u G => u = .bool (volOk d v)) rfl rfl (by kernel_rfl) rfl (by simp only [dOk_some, dOk_none, Nat.reduceLT]) (fun G hG => vol_ret (h.mono (hG.le G0 (by simp))) v)) (QOk_body _ _ _) (.inl rfl) ?_
  rintro _ ⟨_, G2, rfl, hn2, rfl⟩
  clear hn2
  cases hvo : volOk d v with
  | false =>
    have he : fetErr d v a n = 6 := by unfold fetErr; rw [if_pos hvo]
    simp only [go_sem, Nat.reduceAdd, Nat.reduceSub, Nat.reduceMul, Nat.reduceEqDiff, Nat.reduceLT, Nat.reduceLeDiff, Nat.reduceBEq, Nat.reduceBNe, Int.reduceLT, Int.reduceLE, Int.reduceEq, Int.reduceAdd, Int.reduceSub, Int.reduceNeg, decide_true, decide_false, Bool.not_true, Bool.not_false, cond_true, cond_false, beq_self_eq_true, and_self, ne_eq, not_true_eq_false, not_false_eq_true, reduceCtorEq, Bool.true_beq, Bool.false_beq]
    refine fin_ret (G := G0) Try.results31 ?_
    simp only [go_sem, Nat.reduceAdd, Nat.reduceSub, Nat.reduceMul, Nat.reduceEqDiff, Nat.reduceLT, Nat.reduceLeDiff, Nat.reduceBEq, Nat.reduceBNe, Int.reduceLT, Int.reduceLE, Int.reduceEq, Int.reduceAdd, Int.reduceSub, Int.reduceNeg, decide_true, decide_false, Bool.not_true, Bool.not_false, cond_true, cond_false, beq_self_eq_true, and_self, ne_eq, not_true_eq_false, not_false_eq_true, reduceCtorEq, Bool.true_beq, Bool.false_beq]
    intro a w' _ _
    exact he.symm ▸ byt_err _ _ (by decide)
  | true =>
    obtain ⟨k, x, rfl, hx, hgo⟩ := volOk_in hvo
    obtain ⟨m1, m2, m3, _⟩ := hd.vol hx
    have m4 := hg.v2
    have hvl : volLen d (k : Int) = x.data.length := by simp [volLen, hx]
    have hvb : fetBytes d (k : Int) a n = (x.data.drop a.toNat).take n.toNat := by simp [fetBytes, hx]
    simp only [go_sem, Nat.reduceAdd, Nat.reduceSub, Nat.reduceMul, Nat.reduceEqDiff, Nat.reduceLT, Nat.reduceLeDiff, Nat.reduceBEq, Nat.reduceBNe, Int.reduceLT, Int.reduceLE, Int.reduceEq, Int.reduceAdd, Int.reduceSub, Int.reduceNeg, decide_true, decide_false, Bool.not_true, Bool.not_false, cond_true, cond_false, beq_self_eq_true, and_self, ne_eq, not_true_eq_false, not_false_eq_true, reduceCtorEq, Bool.true_beq, Bool.false_beq]
    refine plain_ok (N := 3000) (elemC_does (R := VolG) (l := d.vols) (m := k) rfl tySlice35 tySize104 rfl rfl (by simp only [dOk_some, dOk_none, Nat.reduceLT]) rfl hx (fun G hG => (Sq.mono hv volG_mono (hG.le G0 (by simp))).sc)) (QOk_body _ _ _) (.inl rfl) ?_
    rintro _ ⟨gw, ow, cs, G4, hcl, hcR, hn4, rfl⟩
    obtain ⟨A7, c7, rfl, hb7⟩ := volcells hcR
    clear hn4 hcl hcR
    have hE : ∀ e, fetErr d (k : Int) a n = e ↔ (if a < 0 ∨ n < 0 ∨ (x.data.length : Int) < a + n then (2 : Int) else 0) = e := by
      intro e; unfold fetErr; rw [if_neg (by rw [hvo]; decide), hvl]
    by_cases e1 : a < 0
    · have he : fetErr d (k : Int) a n = 2 := by rw [hE, if_pos (.inl e1)]
      have q1 : decide (a < 0) = true := by simpa using e1
      simp only [go_sem, Nat.reduceAdd, Nat.reduceSub, Nat.reduceMul, Nat.reduceEqDiff, Nat.reduceLT, Nat.reduceLeDiff, Nat.reduceBEq, Nat.reduceBNe, Int.reduceLT, Int.reduceLE, Int.reduceEq, Int.reduceAdd, Int.reduceSub, Int.reduceNeg, decide_true, decide_false, Bool.not_true, Bool.not_false, cond_true, cond_false, beq_self_eq_true, and_self, ne_eq, not_true_eq_false, not_false_eq_true, reduceCtorEq, Bool.true_beq, Bool.false_beq, q1]
      refine fin_ret (G := G0) Try.results31 ?_
      simp only [go_sem, Nat.reduceAdd, Nat.reduceSub, Nat.reduceMul, Nat.reduceEqDiff, Nat.reduceLT, Nat.reduceLeDiff, Nat.reduceBEq, Nat.reduceBNe, Int.reduceLT, Int.reduceLE, Int.reduceEq, Int.reduceAdd, Int.reduceSub, Int.reduceNeg, decide_true, decide_false, Bool.not_true, Bool.not_false, cond_true, cond_false, beq_self_eq_true, and_self, ne_eq, not_true_eq_false, not_false_eq_true, reduceCtorEq, Bool.true_beq, Bool.false_beq]
      intro a w' _ _
      exact he.symm ▸ byt_err _ _ (by decide)
    have q1 : decide (a < 0) = false := by simpa using e1
    by_cases e2 : n < 0
    · have he : fetErr d (k : Int) a n = 2 := by rw [hE, if_pos (.inr (.inl e2))]
      have q2 : decide (n < 0) = true := by simpa using e2
      simp only [go_sem, Nat.reduceAdd, Nat.reduceSub, Nat.reduceMul, Nat.reduceEqDiff, Nat.reduceLT, Nat.reduceLeDiff, Nat.reduceBEq, Nat.reduceBNe, Int.reduceLT, Int.reduceLE, Int.reduceEq, Int.reduceAdd, Int.reduceSub, Int.reduceNeg, decide_true, decide_false, Bool.not_true, Bool.not_false, cond_true, cond_false, beq_self_eq_true, and_self, ne_eq, not_true_eq_false, not_false_eq_true, reduceCtorEq, Bool.true_beq, Bool.false_beq, q1, q2]
      refine fin_ret (G := G0) Try.results31 ?_
      simp only [go_sem, Nat.reduceAdd, Nat.reduceSub, Nat.reduceMul, Nat.reduceEqDiff, Nat.reduceLT, Nat.reduceLeDiff, Nat.reduceBEq, Nat.reduceBNe, Int.reduceLT, Int.reduceLE, Int.reduceEq, Int.reduceAdd, Int.reduceSub, Int.reduceNeg, decide_true, decide_false, Bool.not_true, Bool.not_false, cond_true, cond_false, beq_self_eq_true, and_self, ne_eq, not_true_eq_false, not_false_eq_true, reduceCtorEq, Bool.true_beq, Bool.false_beq]
      intro a w' _ _
      exact he.symm ▸ byt_err _ _ (by decide)
    have q2 : decide (n < 0) = false := by simpa using e2
    by_cases e3 : (x.data.length : Int) < a
    · have he : fetErr d (k : Int) a n = 2 := by rw [hE, if_pos (.inr (.inr (by omega)))]
      have q3 : decide ((x.data.length : Int) < a) = true := by simpa using e3
      simp only [go_sem, Nat.reduceAdd, Nat.reduceSub, Nat.reduceMul, Nat.reduceEqDiff, Nat.reduceLT, Nat.reduceLeDiff, Nat.reduceBEq, Nat.reduceBNe, Int.reduceLT, Int.reduceLE, Int.reduceEq, Int.reduceAdd, Int.reduceSub, Int.reduceNeg, decide_true, decide_false, Bool.not_true, Bool.not_false, cond_true, cond_false, beq_self_eq_true, and_self, ne_eq, not_true_eq_false, not_false_eq_true, reduceCtorEq, Bool.true_beq, Bool.false_beq, q1, q2, q3]
      refine fin_ret (G := G0) Try.results31 ?_
      simp only [go_sem, Nat.reduceAdd, Nat.reduceSub, Nat.reduceMul, Nat.reduceEqDiff, Nat.reduceLT, Nat.reduceLeDiff, Nat.reduceBEq, Nat.reduceBNe, Int.reduceLT, Int.reduceLE, Int.reduceEq, Int.reduceAdd, Int.reduceSub, Int.reduceNeg, decide_true, decide_false, Bool.not_true, Bool.not_false, cond_true, cond_false, beq_self_eq_true, and_self, ne_eq, not_true_eq_false, not_false_eq_true, reduceCtorEq, Bool.true_beq, Bool.false_beq]
      intro a w' _ _
      exact he.symm ▸ byt_err _ _ (by decide)
    have q3 : decide ((x.data.length : Int) < a) = false := by simpa using e3
    by_cases e4 : (x.data.length : Int) - a < n
    · have he : fetErr d (k : Int) a n = 2 := by rw [hE, if_pos (.inr (.inr (by omega)))]
      have q4 : decide ((x.data.length : Int) - a < n) = true := by simpa using e4
      simp only [go_sem, Nat.reduceAdd, Nat.reduceSub, Nat.reduceMul, Nat.reduceEqDiff, Nat.reduceLT, Nat.reduceLeDiff, Nat.reduceBEq, Nat.reduceBNe, Int.reduceLT, Int.reduceLE, Int.reduceEq, Int.reduceAdd, Int.reduceSub, Int.reduceNeg, decide_true, decide_false, Bool.not_true, Bool.not_false, cond_true, cond_false, beq_self_eq_true, and_self, ne_eq, not_true_eq_false, not_false_eq_true, reduceCtorEq, Bool.true_beq, Bool.false_beq, q1, q2, q3, q4]
      refine ⟨by omega, ?_⟩
      refine fin_ret (G := G0) Try.results31 ?_
      simp only [go_sem, Nat.reduceAdd, Nat.reduceSub, Nat.reduceMul, Nat.reduceEqDiff, Nat.reduceLT, Nat.reduceLeDiff, Nat.reduceBEq, Nat.reduceBNe, Int.reduceLT, Int.reduceLE, Int.reduceEq, Int.reduceAdd, Int.reduceSub, Int.reduceNeg, decide_true, decide_false, Bool.not_true, Bool.not_false, cond_true, cond_false, beq_self_eq_true, and_self, ne_eq, not_true_eq_false, not_false_eq_true, reduceCtorEq, Bool.true_beq, Bool.false_beq]
      intro a w' _ _
      exact he.symm ▸ byt_err _ _ (by decide)
    have q4 : decide ((x.data.length : Int) - a < n) = false := by simpa using e4
    have he : fetErr d (k : Int) a n = 0 := by rw [hE, if_neg (by omega)]
    simp only [go_sem, Nat.reduceAdd, Nat.reduceSub, Nat.reduceMul, Nat.reduceEqDiff, Nat.reduceLT, Nat.reduceLeDiff, Nat.reduceBEq, Nat.reduceBNe, Int.reduceLT, Int.reduceLE, Int.reduceEq, Int.reduceAdd, Int.reduceSub, Int.reduceNeg, decide_true, decide_false, Bool.not_true, Bool.not_false, cond_true, cond_false, beq_self_eq_true, and_self, ne_eq, not_true_eq_false, not_false_eq_true, reduceCtorEq, Bool.true_beq, Bool.false_beq, q1, q2, q3, q4]
    refine ⟨by omega, by omega, ?_⟩
    obtain ⟨l, rfl⟩ := Int.eq_ofNat_of_zero_le (by omega : 0 ≤ a)
    obtain ⟨m, rfl⟩ := Int.eq_ofNat_of_zero_le (by omega : 0 ≤ n)
    have hcc : x.data.length ≤ c7 := by obtain ⟨_, _, e, q, _⟩ := hb7.form; cases e; exact q
    refine plain_ok (N := 3000) (cut_does l m (c7 - l) rfl tySlice23 tySize5 rfl ⟨_, _, rfl, rfl⟩ ⟨_, _, rfl, by omega⟩ (show l + (c7 - l) = c7 from by omega) (by simp) (by simp only [dOk_some, dOk_none, Nat.reduceLT]) (by omega) (by omega) (by omega) (fun G hG => (hb7.mono (hG.le G4 (by simp)) : Sl _ _ _ _ _ _))) (QOk_body _ _ _) (.inl rfl) ?_
    rintro _ ⟨A9, G5, hs9, hn5, rfl⟩
    clear hn5
    have hb9 := byG_cut hs9 (by omega)
    simp only [go_sem, Nat.reduceAdd, Nat.reduceSub, Nat.reduceMul, Nat.reduceEqDiff, Nat.reduceLT, Nat.reduceLeDiff, Nat.reduceBEq, Nat.reduceBNe, Int.reduceLT, Int.reduceLE, Int.reduceEq, Int.reduceAdd, Int.reduceSub, Int.reduceNeg, decide_true, decide_false, Bool.not_true, Bool.not_false, cond_true, cond_false, beq_self_eq_true, and_self, ne_eq, not_true_eq_false, not_false_eq_true, reduceCtorEq, Bool.true_beq, Bool.false_beq]
    refine plain_ok (N := 3000) (call_does (fun u G => ∃ A c, u = .slice A ((x.data.drop l).take m).length c ∧ ByG G u ((x.data.drop l).take m)) rfl rfl (by kernel_rfl) rfl (by simp only [dOk_some, dOk_none, Nat.reduceLT]) (fun G hG => clone_ret hG.wf (hb9.mono (hG.le G5 (by simp))) (by simp; omega))) (QOk_body _ _ _) (.inl rfl) ?_
    rintro _ ⟨_, G6, ⟨A10, c10, rfl, hb10⟩, hn6, rfl⟩
    clear hn6
    simp only [go_sem, Nat.reduceAdd, Nat.reduceSub, Nat.reduceMul, Nat.reduceEqDiff, Nat.reduceLT, Nat.reduceLeDiff, Nat.reduceBEq, Nat.reduceBNe, Int.reduceLT, Int.reduceLE, Int.reduceEq, Int.reduceAdd, Int.reduceSub, Int.reduceNeg, decide_true, decide_false, Bool.not_true, Bool.not_false, cond_true, cond_false, beq_self_eq_true, and_self, ne_eq, not_true_eq_false, not_false_eq_true, reduceCtorEq, Bool.true_beq, Bool.false_beq]
    refine fin_ret (G := G0) Try.results31 ?_
    simp only [go_sem, Nat.reduceAdd, Nat.reduceSub, Nat.reduceMul, Nat.reduceEqDiff, Nat.reduceLT, Nat.reduceLeDiff, Nat.reduceBEq, Nat.reduceBNe, Int.reduceLT, Int.reduceLE, Int.reduceEq, Int.reduceAdd, Int.reduceSub, Int.reduceNeg, decide_true, decide_false, Bool.not_true, Bool.not_false, cond_true, cond_false, beq_self_eq_true, and_self, ne_eq, not_true_eq_false, not_false_eq_true, reduceCtorEq, Bool.true_beq, Bool.false_beq]
    intro a w' _ hl
    refine byt_ok he ⟨_, rfl, ?_⟩
    rw [hvb]
    exact hb10.mono (hl G6 (by simp))
end Go.Proofs.Ytomfladifefomaa
