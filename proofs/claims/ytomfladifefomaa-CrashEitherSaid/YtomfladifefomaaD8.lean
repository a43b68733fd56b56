/- dev.Get, over devices that may be: a total contract. Conditions: as each law states them. -/
import Derived.Test.YtomfladifefomaaD7
import Derived.Test.YtomfladifefomaaG2
namespace Go.Proofs.Ytomfladifefomaa
open Go.RowKit
set_option linter.unusedSimpArgs false
def getErr (d : Dev) (n : Int) : Int := if n < 0 ∨ (d.safe.length : Int) ≤ n then 2 else 0
set_option maxRecDepth 100000 in
set_option maxHeartbeats 4000000 in
theorem get_does {g : Geo} (hg : GoodGeo g) {d : Dev} (hd : GoodDev g d) {dv : Value} {n : Int} {G0 : GW} (hW : G0.Wf) (h : DevG G0 dv d) :
    Calls Try.prog 37 #[geoV g, dv, .int .i64 n] G0.w (Ret G0 fun u G => BytE G u (getErr d n) (content d n.toNat)) := by
  by_cases e1 : 0 ≤ n ∧ n < (d.safe.length : Int)
  · obtain ⟨k, rfl⟩ := Int.eq_ofNat_of_zero_le e1.1
    have hk : k < d.safe.length := by omega
    have he : getErr d (k : Int) = 0 := by unfold getErr; rw [if_neg (by omega)]
    refine ret_of (get_in hg hd hk G0.w h.r) fun e w' ⟨A, c, hr, ho, hb⟩ => ⟨_, hr, byt_ok he ⟨_, rfl, ?_⟩, hb⟩
    have hl : (content d k).length = 64 := val_len hd all_ k hk _
    show Sl _ _ 1 (content d (k : Int).toNat).length _ _
    rw [Int.toNat_natCast, hl]
    exact sl_own hW ho
  · have he : getErr d n = 2 := by unfold getErr; rw [if_pos (by omega)]
    obtain ⟨A1, k1, A2, k2, A3, k3, rfl, hs, hc, hv⟩ := h.form
    refine enter (G := G0) (n := 44) 3000 hW Try.func37 rfl Try.ntmps37 (by simp) ?_
    simp only [go_sem, Nat.reduceAdd, Nat.reduceSub, Nat.reduceMul, Nat.reduceEqDiff, Nat.reduceLT, Nat.reduceLeDiff, Nat.reduceBEq, Nat.reduceBNe, Int.reduceLT, Int.reduceLE, Int.reduceEq, Int.reduceAdd, Int.reduceSub, Int.reduceNeg, decide_true, decide_false, Bool.not_true, Bool.not_false, cond_true, cond_false, beq_self_eq_true, and_self, ne_eq, not_true_eq_false, not_false_eq_true, reduceCtorEq, Bool.true_beq, Bool.false_beq, geoV]
    intro g1 g2 g3 g4 g5
    refine plain_ok (N := 3000) (call_does (fun v G => v = .int .i64 0) rfl rfl (by kernel_rfl) rfl (by simp only [dOk_some, dOk_none, Nat.reduceLT]) (fun G hG => chk hg hd (h.mono (hG.le G0 (by simp))))) (QOk_body _ _ _) (by first | exact .inl rfl | exact .inr ⟨_, _, rfl, rfl⟩) ?_
    rintro _ ⟨_, G1, rfl, hn1, rfl⟩
    clear hn1
    by_cases e2 : n < 0
    · have q1 : decide (n < 0) = true := decide_eq_true e2
      simp only [go_sem, Nat.reduceAdd, Nat.reduceSub, Nat.reduceMul, Nat.reduceEqDiff, Nat.reduceLT, Nat.reduceLeDiff, Nat.reduceBEq, Nat.reduceBNe, Int.reduceLT, Int.reduceLE, Int.reduceEq, Int.reduceAdd, Int.reduceSub, Int.reduceNeg, decide_true, decide_false, Bool.not_true, Bool.not_false, cond_true, cond_false, beq_self_eq_true, and_self, ne_eq, not_true_eq_false, not_false_eq_true, reduceCtorEq, Bool.true_beq, Bool.false_beq, q1]
      refine fin_ret (G := G0) Try.results37 ?_
      simp only [go_sem, Nat.reduceAdd, Nat.reduceSub, Nat.reduceMul, Nat.reduceEqDiff, Nat.reduceLT, Nat.reduceLeDiff, Nat.reduceBEq, Nat.reduceBNe, Int.reduceLT, Int.reduceLE, Int.reduceEq, Int.reduceAdd, Int.reduceSub, Int.reduceNeg, decide_true, decide_false, Bool.not_true, Bool.not_false, cond_true, cond_false, beq_self_eq_true, and_self, ne_eq, not_true_eq_false, not_false_eq_true, reduceCtorEq, Bool.true_beq, Bool.false_beq]
      intro a w' _ _
      exact he.symm ▸ byt_err _ _ (by decide)
    · have q1 : decide (n < 0) = false := decide_eq_false e2
      have q2 : decide ((d.safe.length : Int) ≤ n) = true := decide_eq_true (by omega)
      simp only [go_sem, Nat.reduceAdd, Nat.reduceSub, Nat.reduceMul, Nat.reduceEqDiff, Nat.reduceLT, Nat.reduceLeDiff, Nat.reduceBEq, Nat.reduceBNe, Int.reduceLT, Int.reduceLE, Int.reduceEq, Int.reduceAdd, Int.reduceSub, Int.reduceNeg, decide_true, decide_false, Bool.not_true, Bool.not_false, cond_true, cond_false, beq_self_eq_true, and_self, ne_eq, not_true_eq_false, not_false_eq_true, reduceCtorEq, Bool.true_beq, Bool.false_beq, q1, q2]
      refine fin_ret (G := G0) Try.results37 ?_
      simp only [go_sem, Nat.reduceAdd, Nat.reduceSub, Nat.reduceMul, Nat.reduceEqDiff, Nat.reduceLT, Nat.reduceLeDiff, Nat.reduceBEq, Nat.reduceBNe, Int.reduceLT, Int.reduceLE, Int.reduceEq, Int.reduceAdd, Int.reduceSub, Int.reduceNeg, decide_true, decide_false, Bool.not_true, Bool.not_false, cond_true, cond_false, beq_self_eq_true, and_self, ne_eq, not_true_eq_false, not_false_eq_true, reduceCtorEq, Bool.true_beq, Bool.false_beq]
      intro a w' _ _
      exact he.symm ▸ byt_err _ _ (by decide)
theorem get_ok {g : Geo} (hg : GoodGeo g) {d : Dev} (hd : GoodDev g d) {dv : Value} {k : Nat} (hk : k < d.safe.length) {G0 : GW} (hW : G0.Wf) (h : DevG G0 dv d) :
    Calls Try.prog 37 #[geoV g, dv, .int .i64 (k : Int)] G0.w (Ret G0 fun v G => ∃ A c, v = .tuple #[.slice A 64 c, .int .i64 0] ∧ ByG G (.slice A 64 c) (content d k)) := by
  refine ret_of (get_in hg hd hk G0.w h.r) fun e w' ⟨A, c, hr, ho, hb⟩ => ⟨_, hr, ⟨A, c, rfl, ?_⟩, hb⟩
  have hl : (content d k).length = 64 := val_len hd all_ k hk _
  show Sl _ _ 1 (content d k).length _ _
  rw [hl]
  exact sl_own hW ho
end Go.Proofs.Ytomfladifefomaa
