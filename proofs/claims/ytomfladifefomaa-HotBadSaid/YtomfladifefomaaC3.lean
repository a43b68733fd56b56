/- Crash, Get, devices from raw things, CheckGeometry at zero. Conditions: as each law states them. -/
import Derived.Test.YtomfladifefomaaC2
import Derived.Test.YtomfladifefomaaB1
import Derived.RangeFuncNested
import Derived.RangeFuncBound
import Derived.RangeFuncCalls
import Derived.RangeFuncLeaves
import Derived.Shelf.Abstract
import Derived.OwnWalkIn
import Derived.TacticsInMore
import Derived.LoopNIn
import Derived.LoopIn
import Derived.Test.YtomfladifefomaaB3
import Derived.Test.YtomfladifefomaaC1
import Derived.Test.YtomfladifefomaaA3
-- D7: dev.Crash, over devices that may be: a total contract. Conditions: as each law states them.
namespace Go.Proofs.Ytomfladifefomaa
open Go.RowKit
set_option linter.unusedSimpArgs false
def BoolG (_ : GW) (b : Bool) (cs : List Value) : Prop := cs = [.bool b]
theorem boolG_mono : MonoR BoolG := fun _ _ _ _ _ h => h
def BoolsG (G : GW) (v : Value) (l : List Bool) : Prop := ScR BoolG 1 G v l
def crashErr (t : Int) : Int := if t < 0 then 2 else 0
set_option maxRecDepth 100000 in
set_option maxHeartbeats 4000000 in
theorem crash_does {g : Geo} (hg : GoodGeo g) {d : Dev} (hd : GoodDev g d) {dv kv : Value} {keep : List Bool} {t : Int} (ht : t ≤ 9223372036854775807) {G0 : GW} (hW : G0.Wf) (hT : Tid bX G0) (h : DevG G0 dv d) (hk : BoolsG G0 kv keep) :
    Calls Try.prog 33 #[geoV g, dv, kv, .int .i64 t] G0.w (Ret G0 fun v G => DevE G v (crashErr t) (crashDev d keep t)) := by
  obtain ⟨A, c, rfl, _, _⟩ := ScR.form hk
  obtain ⟨A1, k1, A2, k2, A3, k3, rfl, hs, hc, hv⟩ := h.form
  have hmost := hd.most
  have hmany := hd.many
  have hn2 := hg.n2
  refine enter (G := G0) (n := 94) 3000 hW Try.func33 rfl Try.ntmps33 (by simp) ?_
  simp only [go_sem, Nat.reduceAdd, Nat.reduceSub, Nat.reduceMul, Nat.reduceEqDiff, Nat.reduceLT, Nat.reduceLeDiff, Nat.reduceBEq, Nat.reduceBNe, Int.reduceLT, Int.reduceLE, Int.reduceEq, Int.reduceAdd, Int.reduceSub, Int.reduceNeg, decide_true, decide_false, Bool.not_true, Bool.not_false, cond_true, cond_false, beq_self_eq_true, and_self, ne_eq, not_true_eq_false, not_false_eq_true, reduceCtorEq, Bool.true_beq, Bool.false_beq, geoV]
  intro g1 g2 g3
  refine plain_ok (N := 3000) (call_does (fun v G => v = .int .i64 0) rfl rfl (by kernel_rfl) rfl (by simp only [dOk_some, dOk_none, Nat.reduceLT]) (fun G hG => chk hg hd (h.mono (hG.le G0 (by simp))))) (QOk_body _ _ _) (by first | exact .inl rfl | exact .inr ⟨_, _, rfl, rfl⟩) ?_
  rintro _ ⟨_, G1, rfl, hn1, rfl⟩
  clear hn1
  by_cases e1 : t < 0
  · have he : crashErr t = 2 := by unfold crashErr; rw [if_pos e1]
    have q1 : decide (t < 0) = true := by simpa using e1
    simp only [go_sem, Nat.reduceAdd, Nat.reduceSub, Nat.reduceMul, Nat.reduceEqDiff, Nat.reduceLT, Nat.reduceLeDiff, Nat.reduceBEq, Nat.reduceBNe, Int.reduceLT, Int.reduceLE, Int.reduceEq, Int.reduceAdd, Int.reduceSub, Int.reduceNeg, decide_true, decide_false, Bool.not_true, Bool.not_false, cond_true, cond_false, beq_self_eq_true, and_self, ne_eq, not_true_eq_false, not_false_eq_true, reduceCtorEq, Bool.true_beq, Bool.false_beq, q1]
    refine fin_ret (G := G0) Try.results33 ?_
    simp only [go_sem, Nat.reduceAdd, Nat.reduceSub, Nat.reduceMul, Nat.reduceEqDiff, Nat.reduceLT, Nat.reduceLeDiff, Nat.reduceBEq, Nat.reduceBNe, Int.reduceLT, Int.reduceLE, Int.reduceEq, Int.reduceAdd, Int.reduceSub, Int.reduceNeg, decide_true, decide_false, Bool.not_true, Bool.not_false, cond_true, cond_false, beq_self_eq_true, and_self, ne_eq, not_true_eq_false, not_false_eq_true, reduceCtorEq, Bool.true_beq, Bool.false_beq]
    intro a w' _ _
    exact he.symm ▸ dev_err _ _ (by decide)
  have q1 : decide (t < 0) = false := by simpa using e1
  have he : crashErr t = 0 := by unfold crashErr; rw [if_neg e1]
  simp only [go_sem, Nat.reduceAdd, Nat.reduceSub, Nat.reduceMul, Nat.reduceEqDiff, Nat.reduceLT, Nat.reduceLeDiff, Nat.reduceBEq, Nat.reduceBNe, Int.reduceLT, Int.reduceLE, Int.reduceEq, Int.reduceAdd, Int.reduceSub, Int.reduceNeg, decide_true, decide_false, Bool.not_true, Bool.not_false, cond_true, cond_false, beq_self_eq_true, and_self, ne_eq, not_true_eq_false, not_false_eq_true, reduceCtorEq, Bool.true_beq, Bool.false_beq, q1]
  refine plain_ok (N := 3000) (callO_does (OwnT d) rfl rfl (by kernel_rfl) rfl (by simp only [dOk_some, dOk_none, Nat.reduceLT]) (fun G hG => own_does d _ G (h.mono (hG.le G0 (by simp))) (tidB hG (fun _ h => h) hT hW rfl rfl (by simp) (by simp; decide)) hG.wf hg hd)) (QOk_body _ _ _) (by first | exact .inl rfl | exact .inr ⟨_, _, rfl, rfl⟩) ?_
  rintro _ ⟨_, R, G2, ⟨A4, c4, A5, c5, A6, c6, C1, C2, C3, rfl, rfl, E1, E2, E3⟩, hn2', rfl⟩
  have hl02 : G0.Le G2 := hn2'.le G0 (by simp [St.rowsTo])
  clear hn2'
  simp only [List.cons_append, List.nil_append]
  have hn0 : 0 < d.safe.length := by
    have := hd.safe
    unfold sectorsOf at this
    have := hg.r1; have := hg.a1; have := hg.h1; omega
  simp only [go_sem, Nat.reduceAdd, Nat.reduceSub, Nat.reduceMul, Nat.reduceEqDiff, Nat.reduceLT, Nat.reduceLeDiff, Nat.reduceBEq, Nat.reduceBNe, Int.reduceLT, Int.reduceLE, Int.reduceEq, Int.reduceAdd, Int.reduceSub, Int.reduceNeg, decide_true, decide_false, Bool.not_true, Bool.not_false, cond_true, cond_false, beq_self_eq_true, and_self, ne_eq, not_true_eq_false, not_false_eq_true, reduceCtorEq, Bool.true_beq, Bool.false_beq]
  intro g4
  refine rowBlk_ok (R1 := []) (r := ⟨.slice A4 d.safe.length c4, 23, 1, d.safe.length, C1.flatten⟩) rfl hn0 fun gs cap S hAs hcap hmax hSl hS => ?_
  cases hAs
  refine read_ok (R1 := []) rfl fun G3 hle3 hs3 => ?_
  have hl23 : G2.Le G3 := hle3 G2 (by simp)
  clear hle3
  have hP0 : PW RowG G3 S (putsTo (fun i => keep.getD i false) d 0) := (PW.of (l := d.safe) E1 hS).mono rowG_mono hl23
  have hC0 : CacG G3 (.slice A5 d.cache.length c5) d.cache := sq_row (E2.mono wrG_mono hl23) wrG_mono (GW.Le.refl _) rfl hs3
  have hV0 : ElG VolG 3 G3 C3 d.vols := E3.mono volG_mono hl23
  have hk0 : BoolsG G3 (.slice A keep.length c) keep := ScR.mono hk boolG_mono (hl02.trans hl23)
  have hS0 : S.length = c4 := by simpa using hSl
  have hcap' : d.safe.length ≤ c4 := hcap
  clear hS hSl hcap hs3 E1 E2 E3
  simp only [go_sem, Nat.reduceAdd, Nat.reduceSub, Nat.reduceMul, Nat.reduceEqDiff, Nat.reduceLT, Nat.reduceLeDiff, Nat.reduceBEq, Nat.reduceBNe, Int.reduceLT, Int.reduceLE, Int.reduceEq, Int.reduceAdd, Int.reduceSub, Int.reduceNeg, decide_true, decide_false, Bool.not_true, Bool.not_false, cond_true, cond_false, beq_self_eq_true, and_self, ne_eq, not_true_eq_false, not_false_eq_true, reduceCtorEq, Bool.true_beq, Bool.false_beq]
  refine loop_ok (N := 3000) (ι := Nat × List Value × GW)
    (fun i => match i with | (v, S, G) => ⟨[(2, .c (.v (.slice A keep.length c))), (3, .c (.v (.int .i64 t))), (8, .c (.p 2 g3 0)), (11, .c (.p 3 g4 0)), (30, .c (.v (.slice A5 d.cache.length c5))), (31, .c (.v (.int .i64 (d.cache.length : Int)))), (32, .c (.v (.int .i64 (v : Int))))],
      [⟨4, gs, 23, S.map .v⟩, ⟨3, g4, 37, [.v (.slice (some ⟨gs, 0, none⟩) d.safe.length c4), .v (.slice A5 d.cache.length c5), .v (.slice A6 d.vols.length c6), .v (.int .i64 d.fuel)]⟩, ⟨2, g3, 37, [.v (.slice none 0 0), .v (.slice none 0 0), .v (.slice none 0 0), .v (.int .i64 0)]⟩],
      [⟨.slice A6 d.vols.length c6, 104, 3, d.vols.length, C3.flatten⟩], [], [G], 5⟩)
    (fun i => match i with | (v, S, G) => v ≤ d.cache.length ∧ S.length = c4 ∧ PW RowG G S (putsTo (fun i => keep.getD i false) d v) ∧ CacG G (.slice A5 d.cache.length c5) d.cache ∧ ElG VolG 3 G C3 d.vols ∧ BoolsG G (.slice A keep.length c) keep)
    (fun i => d.cache.length - i.1) (QOk_body _ _ _) (0, S, G3) ⟨by omega, hS0, hP0, hC0, hV0, hk0⟩ (by simp only [go_sem, Nat.reduceAdd, Nat.reduceSub, Nat.reduceMul, Nat.reduceEqDiff, Nat.reduceLT, Nat.reduceLeDiff, Nat.reduceBEq, Nat.reduceBNe, Int.reduceLT, Int.reduceLE, Int.reduceEq, Int.reduceAdd, Int.reduceSub, Int.reduceNeg, decide_true, decide_false, Bool.not_true, Bool.not_false, cond_true, cond_false, beq_self_eq_true, and_self, ne_eq, not_true_eq_false, not_false_eq_true, reduceCtorEq, Bool.true_beq, Bool.false_beq]; simp) ?_
  clear hS0 hP0 hC0 hV0 hk0 hl23 S G3
  rintro ⟨v, S, G3⟩ ⟨hv, hS0, hP0, hC0, hV0, hk0⟩
  simp only
  simp only [go_sem, Nat.reduceAdd, Nat.reduceSub, Nat.reduceMul, Nat.reduceEqDiff, Nat.reduceLT, Nat.reduceLeDiff, Nat.reduceBEq, Nat.reduceBNe, Int.reduceLT, Int.reduceLE, Int.reduceEq, Int.reduceAdd, Int.reduceSub, Int.reduceNeg, decide_true, decide_false, Bool.not_true, Bool.not_false, cond_true, cond_false, beq_self_eq_true, and_self, ne_eq, not_true_eq_false, not_false_eq_true, reduceCtorEq, Bool.true_beq, Bool.false_beq]
  refine Wb_mk (fun hlt => ?_) (fun hge => ?_)
  · have hlt' : v < d.cache.length := by simpa using hlt
    obtain ⟨x, hx⟩ : ∃ x, d.cache[v]? = some x := ⟨_, List.getElem?_eq_getElem hlt'⟩
    obtain ⟨x1, x2, x3⟩ := hd.wr hx
    refine plain_ok (N := 3000) (elemC_does (R := WrG) (l := d.cache) (m := v) rfl tySlice34 tySize61 rfl rfl (by simp only [dOk_some, dOk_none, Nat.reduceLT]) rfl hx (fun G hG => (Sq.mono hC0 wrG_mono (hG.le G3 (by simp))).sc)) (QOk_body _ _ _) (by first | exact .inl rfl | exact .inr ⟨_, _, rfl, rfl⟩) ?_
    rintro _ ⟨gw, ow, cs, G4, hcl, hcR, hn4, rfl⟩
    obtain ⟨A7, c7, rfl, hb7⟩ := wrcells hcR
    have hl34 : G3.Le G4 := hn4.le G3 (by simp)
    clear hn4 hcl
    have hpn : keep.getD v false = false → PW RowG G3 S (putsTo (fun i => keep.getD i false) d (v + 1)) := by
      intro hkp
      have := puts_succ (fun i => keep.getD i false) hx
      simp only [hkp, Bool.false_eq_true, if_false] at this
      rw [this]; exact hP0
    by_cases ek : v < keep.length
    · have qk : decide ((v : Int) < (keep.length : Int)) = true := by simpa using ek
      obtain ⟨b, hb⟩ : ∃ b, keep[v]? = some b := ⟨_, List.getElem?_eq_getElem ek⟩
      have hkp : keep.getD v false = b := by rw [List.getD_eq_getElem?_getD, hb]; rfl
      simp only [go_sem, Nat.reduceAdd, Nat.reduceSub, Nat.reduceMul, Nat.reduceEqDiff, Nat.reduceLT, Nat.reduceLeDiff, Nat.reduceBEq, Nat.reduceBNe, Int.reduceLT, Int.reduceLE, Int.reduceEq, Int.reduceAdd, Int.reduceSub, Int.reduceNeg, decide_true, decide_false, Bool.not_true, Bool.not_false, cond_true, cond_false, beq_self_eq_true, and_self, ne_eq, not_true_eq_false, not_false_eq_true, reduceCtorEq, Bool.true_beq, Bool.false_beq, qk]
      intro g9
      refine plain_ok (N := 3000) (elemC_does (R := BoolG) (l := keep) (m := v) rfl tySlice51 tySize4 rfl rfl (by simp only [dOk_some, dOk_none, Nat.reduceLT]) rfl hb (fun G hG => ScR.mono hk0 boolG_mono (hG.le G3 (by simp)))) (QOk_body _ _ _) (by first | exact .inl rfl | exact .inr ⟨_, _, rfl, rfl⟩) ?_
      rintro _ ⟨gw2, ow2, cs, G5, hcl, rfl, hn5, rfl⟩
      have hl45 : G4.Le G5 := hn5.le G4 (by simp)
      have hlG : G3.Le G5 := hl34.trans hl45
      clear hn5 hcl
      cases b with
      | false =>
        simp only [go_sem, Nat.reduceAdd, Nat.reduceSub, Nat.reduceMul, Nat.reduceEqDiff, Nat.reduceLT, Nat.reduceLeDiff, Nat.reduceBEq, Nat.reduceBNe, Int.reduceLT, Int.reduceLE, Int.reduceEq, Int.reduceAdd, Int.reduceSub, Int.reduceNeg, decide_true, decide_false, Bool.not_true, Bool.not_false, cond_true, cond_false, beq_self_eq_true, and_self, ne_eq, not_true_eq_false, not_false_eq_true, reduceCtorEq, Bool.true_beq, Bool.false_beq]
        exact ⟨by omega, again_ok (v + 1, S, G5) ⟨by omega, hS0, (hpn hkp).mono rowG_mono hlG, Sq.mono hC0 wrG_mono hlG, hV0.mono volG_mono hlG, ScR.mono hk0 boolG_mono hlG⟩ (by simp only; omega) (by simp only [go_sem, Nat.reduceAdd, Nat.reduceSub, Nat.reduceMul, Nat.reduceEqDiff, Nat.reduceLT, Nat.reduceLeDiff, Nat.reduceBEq, Nat.reduceBNe, Int.reduceLT, Int.reduceLE, Int.reduceEq, Int.reduceAdd, Int.reduceSub, Int.reduceNeg, decide_true, decide_false, Bool.not_true, Bool.not_false, cond_true, cond_false, beq_self_eq_true, and_self, ne_eq, not_true_eq_false, not_false_eq_true, reduceCtorEq, Bool.true_beq, Bool.false_beq]; simp)⟩
      | true =>
        simp only [go_sem, Nat.reduceAdd, Nat.reduceSub, Nat.reduceMul, Nat.reduceEqDiff, Nat.reduceLT, Nat.reduceLeDiff, Nat.reduceBEq, Nat.reduceBNe, Int.reduceLT, Int.reduceLE, Int.reduceEq, Int.reduceAdd, Int.reduceSub, Int.reduceNeg, decide_true, decide_false, Bool.not_true, Bool.not_false, cond_true, cond_false, beq_self_eq_true, and_self, ne_eq, not_true_eq_false, not_false_eq_true, reduceCtorEq, Bool.true_beq, Bool.false_beq]
        refine plain_ok (N := 3000) (own_elem_does (id := 4) (m := x.at_.toNat) rfl tySlice29 tySize23 rfl rfl (by simp only [dOk_some, dOk_none, Nat.reduceLT]) (by omega) (by omega)) (QOk_body _ _ _) (by first | exact .inl rfl | exact .inr ⟨_, _, rfl, rfl⟩) ?_
        rintro _ rfl
        have hoff : x.at_.toNat + 1 ≤ S.length := by omega
        simp only [go_sem, Nat.reduceAdd, Nat.reduceSub, Nat.reduceMul, Nat.reduceEqDiff, Nat.reduceLT, Nat.reduceLeDiff, Nat.reduceBEq, Nat.reduceBNe, Int.reduceLT, Int.reduceLE, Int.reduceEq, Int.reduceAdd, Int.reduceSub, Int.reduceNeg, decide_true, decide_false, Bool.not_true, Bool.not_false, cond_true, cond_false, beq_self_eq_true, and_self, ne_eq, not_true_eq_false, not_false_eq_true, reduceCtorEq, Bool.true_beq, Bool.false_beq, List.length_map, List.map_cons, List.map_nil, Nat.mul_one, Nat.add_zero, hoff]
        refine ⟨by omega, again_ok (v + 1, S.set x.at_.toNat (.slice A7 x.data.length c7), G5) ⟨by omega, by simpa using hS0, ?_, Sq.mono hC0 wrG_mono hlG, hV0.mono volG_mono hlG, ScR.mono hk0 boolG_mono hlG⟩ (by simp only; omega) (by simp only [go_sem, Nat.reduceAdd, Nat.reduceSub, Nat.reduceMul, Nat.reduceEqDiff, Nat.reduceLT, Nat.reduceLeDiff, Nat.reduceBEq, Nat.reduceBNe, Int.reduceLT, Int.reduceLE, Int.reduceEq, Int.reduceAdd, Int.reduceSub, Int.reduceNeg, decide_true, decide_false, Bool.not_true, Bool.not_false, cond_true, cond_false, beq_self_eq_true, and_self, ne_eq, not_true_eq_false, not_false_eq_true, reduceCtorEq, Bool.true_beq, Bool.false_beq]; simp)⟩
        have := puts_succ (fun i => keep.getD i false) hx
        simp only [hkp, if_true] at this
        rw [this]
        exact (hP0.mono rowG_mono hlG).set_ (by omega) ⟨_, rfl, hb7.mono hl45⟩
    · have qk : decide ((v : Int) < (keep.length : Int)) = false := by simp; omega
      have hkp : keep.getD v false = false := by rw [List.getD_eq_getElem?_getD, List.getElem?_eq_none (by omega)]; rfl
      simp only [go_sem, Nat.reduceAdd, Nat.reduceSub, Nat.reduceMul, Nat.reduceEqDiff, Nat.reduceLT, Nat.reduceLeDiff, Nat.reduceBEq, Nat.reduceBNe, Int.reduceLT, Int.reduceLE, Int.reduceEq, Int.reduceAdd, Int.reduceSub, Int.reduceNeg, decide_true, decide_false, Bool.not_true, Bool.not_false, cond_true, cond_false, beq_self_eq_true, and_self, ne_eq, not_true_eq_false, not_false_eq_true, reduceCtorEq, Bool.true_beq, Bool.false_beq, qk]
      intro g9
      exact ⟨by omega, again_ok (v + 1, S, G4) ⟨by omega, hS0, (hpn hkp).mono rowG_mono hl34, Sq.mono hC0 wrG_mono hl34, hV0.mono volG_mono hl34, ScR.mono hk0 boolG_mono hl34⟩ (by simp only; omega) (by simp only [go_sem, Nat.reduceAdd, Nat.reduceSub, Nat.reduceMul, Nat.reduceEqDiff, Nat.reduceLT, Nat.reduceLeDiff, Nat.reduceBEq, Nat.reduceBNe, Int.reduceLT, Int.reduceLE, Int.reduceEq, Int.reduceAdd, Int.reduceSub, Int.reduceNeg, decide_true, decide_false, Bool.not_true, Bool.not_false, cond_true, cond_false, beq_self_eq_true, and_self, ne_eq, not_true_eq_false, not_false_eq_true, reduceCtorEq, Bool.true_beq, Bool.false_beq]; simp)⟩
  · have hv2 : v = d.cache.length := by simp at hge; omega
    subst hv2
    clear hC0 hk0 hge hv
    refine blkRead_ok (B1 := []) rfl 1 d.safe.length c4 hcap' hmax (by simpa using hS0) id fun G5 hle5 hs5 => ?_
    have hl35 : G3.Le G5 := hle5 G3 (by simp)
    clear hle5
    simp only [map_den_v] at hs5
    have hSf : SafG G5 (.slice (some ⟨gs, 0, none⟩) d.safe.length c4) (putsTo (fun i => keep.getD i false) d d.cache.length) := (hP0.mono rowG_mono hl35).sq (t := 23) (n := d.safe.length) (by rw [puts_len]) (by omega) hs5
    have hV5 := hV0.mono volG_mono hl35
    clear hP0 hs5 hV0 hS0 hl35
    simp only [go_sem, Nat.reduceAdd, Nat.reduceSub, Nat.reduceMul, Nat.reduceEqDiff, Nat.reduceLT, Nat.reduceLeDiff, Nat.reduceBEq, Nat.reduceBNe, Int.reduceLT, Int.reduceLE, Int.reduceEq, Int.reduceAdd, Int.reduceSub, Int.reduceNeg, decide_true, decide_false, Bool.not_true, Bool.not_false, cond_true, cond_false, beq_self_eq_true, and_self, ne_eq, not_true_eq_false, not_false_eq_true, reduceCtorEq, Bool.true_beq, Bool.false_beq]
    by_cases hv0 : 0 < d.vols.length
    · refine rowBlk_ok (R1 := []) (r := ⟨.slice A6 d.vols.length c6, 104, 3, d.vols.length, C3.flatten⟩) rfl hv0 fun gv cap S hAs hcap2 hmax2 hSl hS => ?_
      cases hAs
      have hP0 : PWk VolG 3 G5 S (setTo (volCut t) d.vols 0) := PWk.of (l := d.vols) hV5 hS
      have hS0 : S.length = c6 * 3 := hSl
      have hcap2' : d.vols.length ≤ c6 := hcap2
      clear hS hSl hcap2 hV5
      simp only [List.nil_append]
      simp only [go_sem, Nat.reduceAdd, Nat.reduceSub, Nat.reduceMul, Nat.reduceEqDiff, Nat.reduceLT, Nat.reduceLeDiff, Nat.reduceBEq, Nat.reduceBNe, Int.reduceLT, Int.reduceLE, Int.reduceEq, Int.reduceAdd, Int.reduceSub, Int.reduceNeg, decide_true, decide_false, Bool.not_true, Bool.not_false, cond_true, cond_false, beq_self_eq_true, and_self, ne_eq, not_true_eq_false, not_false_eq_true, reduceCtorEq, Bool.true_beq, Bool.false_beq]
      refine loop_ok (N := 3000) (ι := Nat × List Value × GW)
        (fun i => match i with | (v, S, G) => ⟨[(3, .c (.v (.int .i64 t))), (8, .c (.p 2 g3 0)), (11, .c (.p 3 g4 0)), (58, .c (.v (.slice (some ⟨gv, 0, none⟩) d.vols.length c6))), (59, .c (.v (.int .i64 (d.vols.length : Int)))), (60, .c (.v (.int .i64 (v : Int))))],
          [⟨5, gv, 104, S.map .v⟩, ⟨3, g4, 37, [.v (.slice (some ⟨gs, 0, none⟩) d.safe.length c4), .v (.slice none 0 0), .v (.slice (some ⟨gv, 0, none⟩) d.vols.length c6), .v (.int .i64 (-1))]⟩, ⟨2, g3, 37, [.v (.slice none 0 0), .v (.slice none 0 0), .v (.slice none 0 0), .v (.int .i64 0)]⟩],
          [], [], [G], 6⟩)
        (fun i => match i with | (v, S, G) => v ≤ d.vols.length ∧ S.length = c6 * 3 ∧ PWk VolG 3 G S (setTo (volCut t) d.vols v) ∧ SafG G (.slice (some ⟨gs, 0, none⟩) d.safe.length c4) (putsTo (fun i => keep.getD i false) d d.cache.length))
        (fun i => d.vols.length - i.1) (QOk_body _ _ _) (0, S, G5) ⟨by omega, hS0, hP0, hSf⟩ (by simp only [go_sem, Nat.reduceAdd, Nat.reduceSub, Nat.reduceMul, Nat.reduceEqDiff, Nat.reduceLT, Nat.reduceLeDiff, Nat.reduceBEq, Nat.reduceBNe, Int.reduceLT, Int.reduceLE, Int.reduceEq, Int.reduceAdd, Int.reduceSub, Int.reduceNeg, decide_true, decide_false, Bool.not_true, Bool.not_false, cond_true, cond_false, beq_self_eq_true, and_self, ne_eq, not_true_eq_false, not_false_eq_true, reduceCtorEq, Bool.true_beq, Bool.false_beq]; simp) ?_
      clear hS0 hP0 hSf S G5
      rintro ⟨v, S, G5⟩ ⟨hv, hS0, hP0, hSf⟩
      simp only
      simp only [go_sem, Nat.reduceAdd, Nat.reduceSub, Nat.reduceMul, Nat.reduceEqDiff, Nat.reduceLT, Nat.reduceLeDiff, Nat.reduceBEq, Nat.reduceBNe, Int.reduceLT, Int.reduceLE, Int.reduceEq, Int.reduceAdd, Int.reduceSub, Int.reduceNeg, decide_true, decide_false, Bool.not_true, Bool.not_false, cond_true, cond_false, beq_self_eq_true, and_self, ne_eq, not_true_eq_false, not_false_eq_true, reduceCtorEq, Bool.true_beq, Bool.false_beq]
      refine Wb_mk (fun hlt => ?_) (fun hge => ?_)
      · have hlt' : v < d.vols.length := by simpa using hlt
        obtain ⟨x, hx⟩ : ∃ x, d.vols[v]? = some x := ⟨_, List.getElem?_eq_getElem hlt'⟩
        have hx' : (setTo (volCut t) d.vols v)[v]? = some x := by rw [setTo_here]; exact hx
        obtain ⟨A7, c7, p0, p1, p2, hb⟩ := volk hP0 hx'
        have hl := volk_len hP0 hx'
        obtain ⟨m1, m2, m3, _⟩ := hd.vol hx
        have hv4 := hg.v2
        have hrow := row3 p0 p1 p2
        refine plain_ok (N := 3000) (own_elem_does (id := 5) (m := v) rfl tySlice35 tySize104 rfl rfl (by simp only [dOk_some, dOk_none, Nat.reduceLT]) rfl hlt') (QOk_body _ _ _) (by first | exact .inl rfl | exact .inr ⟨_, _, rfl, rfl⟩) ?_
        rintro _ rfl
        simp only [go_sem, Nat.reduceAdd, Nat.reduceSub, Nat.reduceMul, Nat.reduceEqDiff, Nat.reduceLT, Nat.reduceLeDiff, Nat.reduceBEq, Nat.reduceBNe, Int.reduceLT, Int.reduceLE, Int.reduceEq, Int.reduceAdd, Int.reduceSub, Int.reduceNeg, decide_true, decide_false, Bool.not_true, Bool.not_false, cond_true, cond_false, beq_self_eq_true, and_self, ne_eq, not_true_eq_false, not_false_eq_true, reduceCtorEq, Bool.true_beq, Bool.false_beq, List.length_map, hl, hrow]
        intro g9
        obtain ⟨m, hm⟩ := Int.eq_ofNat_of_zero_le (show 0 ≤ x.synced + min t ((x.data.length : Int) - x.synced) by omega)
        have hml : m ≤ x.data.length := by omega
        have hvc : volCut t x = ⟨x.data.take m, (m : Int), x.gone⟩ := by simp [volCut, hm]
        have hcc : x.data.length ≤ c7 := by obtain ⟨_, _, e, q, _⟩ := hb.form; cases e; exact q
        rw [hm]
        refine ⟨by omega, by omega, ?_⟩
        refine draw_ok (N := 3000) (.take 0 (.take 1 (.take 2 (.take 3 (.take 4 (.take 5 (.take 6 (.take 7 (.take 8 (.take 9 (.take 11 (.alt 10 (.alt 12 (.take 13 (.alt 14 (.alt 15 (.take 16 (.alt 17 .done .last)) .last) .last)) .last) .last)))))))))))) [5] (QOk_body _ _ _) follows_mixed (by kernel_rfl) (by kernel_rfl) ?_
        simp only [go_sem, Nat.reduceAdd, Nat.reduceSub, Nat.reduceMul, Nat.reduceEqDiff, Nat.reduceLT, Nat.reduceLeDiff, Nat.reduceBEq, Nat.reduceBNe, Int.reduceLT, Int.reduceLE, Int.reduceEq, Int.reduceAdd, Int.reduceSub, Int.reduceNeg, decide_true, decide_false, Bool.not_true, Bool.not_false, cond_true, cond_false, beq_self_eq_true, and_self, ne_eq, not_true_eq_false, not_false_eq_true, reduceCtorEq, Bool.true_beq, Bool.false_beq]
        refine any_ok2 (N := 3000) (cut_does 0 m m rfl tySlice23 tySize5 rfl rfl ⟨_, _, rfl, by omega⟩ ⟨_, _, rfl, by omega⟩ (by simp) (by simp only [dOk_some, dOk_none, Nat.reduceLT]) (by omega) (by omega) (by omega) (fun G hG => (hb.mono (hG.le G5 (by simp)) : Sl _ _ _ _ _ _))) (QOk_body _ _ _) rfl (by first | exact .inl rfl | exact .inr ⟨_, _, rfl, rfl⟩) (by intro _ hK; first | (obtain ⟨_, _, _, _, rfl⟩ := hK; exact ⟨rfl, fun _ h => h⟩) | (obtain ⟨_, _, rfl⟩ := hK; exact ⟨rfl, fun _ h => h⟩) | (obtain ⟨_, _, _, _, _, _, rfl⟩ := hK; exact ⟨rfl, fun _ h => List.mem_cons_of_mem _ h⟩) | (obtain ⟨_, _, _, _, _, _, _, rfl⟩ := hK; exact ⟨rfl, fun _ h => List.mem_cons_of_mem _ h⟩) | (obtain rfl := hK; exact ⟨rfl, fun _ h => h⟩)) ?_
        rintro _ ⟨A9, G6, hs9, hn6, rfl⟩
        have hl56 : G5.Le G6 := hn6.le G5 (by simp)
        clear hn6
        have hb9 : ByG G6 (.slice A9 m m) (x.data.take m) := by
          have := byG_cut hs9 (by omega)
          simpa using this
        simp only [go_sem, Nat.reduceAdd, Nat.reduceSub, Nat.reduceMul, Nat.reduceEqDiff, Nat.reduceLT, Nat.reduceLeDiff, Nat.reduceBEq, Nat.reduceBNe, Int.reduceLT, Int.reduceLE, Int.reduceEq, Int.reduceAdd, Int.reduceSub, Int.reduceNeg, decide_true, decide_false, Bool.not_true, Bool.not_false, cond_true, cond_false, beq_self_eq_true, and_self, ne_eq, not_true_eq_false, not_false_eq_true, reduceCtorEq, Bool.true_beq, Bool.false_beq]
        refine any_ok2 (N := 3000) (own_elem_does (id := 5) (m := v) rfl tySlice35 tySize104 rfl rfl (by simp only [dOk_some, dOk_none, Nat.reduceLT]) rfl hlt') (QOk_body _ _ _) rfl (by first | exact .inl rfl | exact .inr ⟨_, _, rfl, rfl⟩) (by intro _ hK; first | (obtain ⟨_, _, _, _, rfl⟩ := hK; exact ⟨rfl, fun _ h => h⟩) | (obtain ⟨_, _, rfl⟩ := hK; exact ⟨rfl, fun _ h => h⟩) | (obtain ⟨_, _, _, _, _, _, rfl⟩ := hK; exact ⟨rfl, fun _ h => List.mem_cons_of_mem _ h⟩) | (obtain ⟨_, _, _, _, _, _, _, rfl⟩ := hK; exact ⟨rfl, fun _ h => List.mem_cons_of_mem _ h⟩) | (obtain rfl := hK; exact ⟨rfl, fun _ h => h⟩)) ?_
        rintro _ rfl
        have hl1 : v * 3 + 1 ≤ S.length := by omega
        have hl2 : v * 3 + 1 + 1 ≤ S.length := by omega
        simp only [go_sem, Nat.reduceAdd, Nat.reduceSub, Nat.reduceMul, Nat.reduceEqDiff, Nat.reduceLT, Nat.reduceLeDiff, Nat.reduceBEq, Nat.reduceBNe, Int.reduceLT, Int.reduceLE, Int.reduceEq, Int.reduceAdd, Int.reduceSub, Int.reduceNeg, decide_true, decide_false, Bool.not_true, Bool.not_false, cond_true, cond_false, beq_self_eq_true, and_self, ne_eq, not_true_eq_false, not_false_eq_true, reduceCtorEq, Bool.true_beq, Bool.false_beq, List.length_map, Nat.add_zero, hl1]
        refine any_ok2 (N := 3000) (own_elem_does (id := 5) (m := v) rfl tySlice35 tySize104 rfl rfl (by simp only [dOk_some, dOk_none, Nat.reduceLT]) rfl hlt') (QOk_body _ _ _) rfl (by first | exact .inl rfl | exact .inr ⟨_, _, rfl, rfl⟩) (by intro _ hK; first | (obtain ⟨_, _, _, _, rfl⟩ := hK; exact ⟨rfl, fun _ h => h⟩) | (obtain ⟨_, _, rfl⟩ := hK; exact ⟨rfl, fun _ h => h⟩) | (obtain ⟨_, _, _, _, _, _, rfl⟩ := hK; exact ⟨rfl, fun _ h => List.mem_cons_of_mem _ h⟩) | (obtain ⟨_, _, _, _, _, _, _, rfl⟩ := hK; exact ⟨rfl, fun _ h => List.mem_cons_of_mem _ h⟩) | (obtain rfl := hK; exact ⟨rfl, fun _ h => h⟩)) ?_
        rintro _ rfl
        simp only [go_sem, Nat.reduceAdd, Nat.reduceSub, Nat.reduceMul, Nat.reduceEqDiff, Nat.reduceLT, Nat.reduceLeDiff, Nat.reduceBEq, Nat.reduceBNe, Int.reduceLT, Int.reduceLE, Int.reduceEq, Int.reduceAdd, Int.reduceSub, Int.reduceNeg, decide_true, decide_false, Bool.not_true, Bool.not_false, cond_true, cond_false, beq_self_eq_true, and_self, ne_eq, not_true_eq_false, not_false_eq_true, reduceCtorEq, Bool.true_beq, Bool.false_beq, List.length_map, List.length_set, hl2]
        refine ⟨by omega, again_ok (v + 1, (S.set (v * 3) (.slice A9 m m)).set (v * 3 + 1) (.int .i64 (m : Int)), G6) ⟨by omega, by simpa using hS0, ?_, Sq.mono hSf rowG_mono hl56⟩ (by simp only; omega) (by simp only [go_sem, Nat.reduceAdd, Nat.reduceSub, Nat.reduceMul, Nat.reduceEqDiff, Nat.reduceLT, Nat.reduceLeDiff, Nat.reduceBEq, Nat.reduceBNe, Int.reduceLT, Int.reduceLE, Int.reduceEq, Int.reduceAdd, Int.reduceSub, Int.reduceNeg, decide_true, decide_false, Bool.not_true, Bool.not_false, cond_true, cond_false, beq_self_eq_true, and_self, ne_eq, not_true_eq_false, not_false_eq_true, reduceCtorEq, Bool.true_beq, Bool.false_beq]; simp)⟩
        rw [setTo_succ _ hx, hvc]
        have q := volk_data (hP0.mono volG_mono hl56) hx' hb9
        have q2 := volk_sync (j := v) q (List.getElem?_set_self (by rw [setTo_len]; exact hlt')) (m : Int)
        rw [List.set_set] at q2
        exact q2
      · have hv2 : v = d.vols.length := by simp at hge; omega
        subst hv2
        rw [setTo_all] at hP0
        refine blkRead_ok (B1 := []) rfl 3 d.vols.length c6 hcap2' hmax2 (by simpa using hS0) id fun G7 hle7 hs7 => ?_
        clear hle7
        simp only [go_sem, Nat.reduceAdd, Nat.reduceSub, Nat.reduceMul, Nat.reduceEqDiff, Nat.reduceLT, Nat.reduceLeDiff, Nat.reduceBEq, Nat.reduceBNe, Int.reduceLT, Int.reduceLE, Int.reduceEq, Int.reduceAdd, Int.reduceSub, Int.reduceNeg, decide_true, decide_false, Bool.not_true, Bool.not_false, cond_true, cond_false, beq_self_eq_true, and_self, ne_eq, not_true_eq_false, not_false_eq_true, reduceCtorEq, Bool.true_beq, Bool.false_beq]
        refine fin_ret (G := G0) Try.results33 ?_
        simp only [go_sem, Nat.reduceAdd, Nat.reduceSub, Nat.reduceMul, Nat.reduceEqDiff, Nat.reduceLT, Nat.reduceLeDiff, Nat.reduceBEq, Nat.reduceBNe, Int.reduceLT, Int.reduceLE, Int.reduceEq, Int.reduceAdd, Int.reduceSub, Int.reduceNeg, decide_true, decide_false, Bool.not_true, Bool.not_false, cond_true, cond_false, beq_self_eq_true, and_self, ne_eq, not_true_eq_false, not_false_eq_true, reduceCtorEq, Bool.true_beq, Bool.false_beq]
        intro a w' _ hl
        simp only [map_den_v] at hs7
        exact dev_ok he ⟨_, rfl, _, _, _, rfl, Sq.mono hSf rowG_mono (hl G5 (by simp)), Sq.nil, (hP0.mono volG_mono (hl G5 (by simp))).sq (t := 104) (n := d.vols.length) (by omega) (by simp) (hs7.mono (hl G7 (by simp)))⟩
    · have hlen : d.vols.length = 0 := by omega
      have hn1 : d.vols = [] := List.eq_nil_of_length_eq_zero hlen
      refine loop_ok (N := 3000) (ι := Unit)
        (fun _ => ⟨[(8, .c (.p 2 g3 0)), (11, .c (.p 3 g4 0)), (59, .c (.v (.int .i64 (d.vols.length : Int)))), (60, .c (.v (.int .i64 0)))],
          [⟨3, g4, 37, [.v (.slice (some ⟨gs, 0, none⟩) d.safe.length c4), .v (.slice none 0 0), .v (.slice A6 d.vols.length c6), .v (.int .i64 (-1))]⟩, ⟨2, g3, 37, [.v (.slice none 0 0), .v (.slice none 0 0), .v (.slice none 0 0), .v (.int .i64 0)]⟩],
          [⟨.slice A6 d.vols.length c6, 104, 3, d.vols.length, C3.flatten⟩], [], [G5], 6⟩)
        (fun _ => True) (fun _ => 0) (QOk_body _ _ _) () trivial (by simp only [go_sem, Nat.reduceAdd, Nat.reduceSub, Nat.reduceMul, Nat.reduceEqDiff, Nat.reduceLT, Nat.reduceLeDiff, Nat.reduceBEq, Nat.reduceBNe, Int.reduceLT, Int.reduceLE, Int.reduceEq, Int.reduceAdd, Int.reduceSub, Int.reduceNeg, decide_true, decide_false, Bool.not_true, Bool.not_false, cond_true, cond_false, beq_self_eq_true, and_self, ne_eq, not_true_eq_false, not_false_eq_true, reduceCtorEq, Bool.true_beq, Bool.false_beq]; simp) ?_
      rintro _ _
      have q : decide ((0 : Int) < (d.vols.length : Int)) = false := by simp; omega
      simp only [go_sem, Nat.reduceAdd, Nat.reduceSub, Nat.reduceMul, Nat.reduceEqDiff, Nat.reduceLT, Nat.reduceLeDiff, Nat.reduceBEq, Nat.reduceBNe, Int.reduceLT, Int.reduceLE, Int.reduceEq, Int.reduceAdd, Int.reduceSub, Int.reduceNeg, decide_true, decide_false, Bool.not_true, Bool.not_false, cond_true, cond_false, beq_self_eq_true, and_self, ne_eq, not_true_eq_false, not_false_eq_true, reduceCtorEq, Bool.true_beq, Bool.false_beq, q]
      refine read_ok (R1 := []) rfl fun G7 _ hs7 => ?_
      simp only [go_sem, Nat.reduceAdd, Nat.reduceSub, Nat.reduceMul, Nat.reduceEqDiff, Nat.reduceLT, Nat.reduceLeDiff, Nat.reduceBEq, Nat.reduceBNe, Int.reduceLT, Int.reduceLE, Int.reduceEq, Int.reduceAdd, Int.reduceSub, Int.reduceNeg, decide_true, decide_false, Bool.not_true, Bool.not_false, cond_true, cond_false, beq_self_eq_true, and_self, ne_eq, not_true_eq_false, not_false_eq_true, reduceCtorEq, Bool.true_beq, Bool.false_beq]
      refine fin_ret (G := G0) Try.results33 ?_
      simp only [go_sem, Nat.reduceAdd, Nat.reduceSub, Nat.reduceMul, Nat.reduceEqDiff, Nat.reduceLT, Nat.reduceLeDiff, Nat.reduceBEq, Nat.reduceBNe, Int.reduceLT, Int.reduceLE, Int.reduceEq, Int.reduceAdd, Int.reduceSub, Int.reduceNeg, decide_true, decide_false, Bool.not_true, Bool.not_false, cond_true, cond_false, beq_self_eq_true, and_self, ne_eq, not_true_eq_false, not_false_eq_true, reduceCtorEq, Bool.true_beq, Bool.false_beq]
      intro a w' _ hl
      have hm0 : (crashDev d keep t).vols = d.vols := by simp [crashDev, hn1]
      refine dev_ok he ⟨_, rfl, _, _, _, rfl, Sq.mono hSf rowG_mono (hl G5 (by simp)), Sq.nil, ?_⟩
      rw [hm0]
      exact sq_row hV5 volG_mono (hl G5 (by simp)) rfl (hs7.mono (hl G7 (by simp)))
end Go.Proofs.Ytomfladifefomaa
-- L0: What the laws' walks share: new devices, picked, outcomes turned. Conditions: as each law states them.
namespace Go.Proofs.Ytomfladifefomaa
open Go.RowKit
set_option linter.unusedSimpArgs false
theorem ret_mono {P : Program} {f : FuncId} {args : Array Value} {G : GW} {T T' : Value → GW → Prop} (h : Calls P f args G.w (Ret G T)) (k : ∀ v G', G.Le G' → T v G' → T' v G') : Calls P f args G.w (Ret G T') :=
  h.mono fun _ _ ⟨v, he, hT, hc⟩ => ⟨v, he, k v _ ⟨hc.size, fun i hi hm => ⟨hc.block i hi id, hm⟩⟩ hT, hc⟩
theorem wf_nonL (w : World) : GW.Wf ⟨Non, w⟩ := fun _ h => h.elim
theorem tidL {X : TypeId → Bool} {w : World} {n : Nat} {σ : St} {G : GW} (hn : Now ⟨w, Non, Non, n⟩ σ G) (hr : ∀ r ∈ σ.rows, X r.t = false) (hb : ∀ b ∈ σ.blks, X b.t = false) : Tid X G :=
  tid_now hn (fun _ h => h) (fun _ h => h.elim) (fun _ h => h.elim) hr hb
theorem tidM {X : TypeId → Bool} {E : Env} {σ : St} {G0 G : GW} (hn : Now E σ G) (hA : ∀ k, ¬ E.A k) (h0 : Tid X G0) (hW : G0.Wf) (e1 : E.M = G0.M) (e2 : E.W = G0.w) (hr : ∀ r ∈ σ.rows, X r.t = false) (hb : ∀ b ∈ σ.blks, X b.t = false) : Tid X G := by
  obtain ⟨M, w⟩ := G0
  subst e1; subst e2
  exact tid_now hn hA h0 (fun k hk => hW k hk) hr hb
theorem dev_get {G : GW} {v : Value} {err : Int} {d : Dev} (h : DevE G v err d) (he : err = 0) : ∃ dv, v = .tuple #[dv, .int .i64 0] ∧ DevG G dv d := by
  subst he
  obtain ⟨dv, e, h1, _⟩ := h
  exact ⟨dv, e, h1 rfl⟩
theorem dev_bad {G : GW} {v : Value} {err e : Int} {d : Dev} (h : DevE G v err d) (he : err = e) (h0 : e ≠ 0) : v = .tuple #[zeroDev, .int .i64 e] := by
  subst he
  obtain ⟨dv, rfl, _, h2⟩ := h
  rw [h2 h0]
theorem byt_get {G : GW} {v : Value} {err : Int} {bs : List UInt8} (h : BytE G v err bs) (he : err = 0) : ∃ u, v = .tuple #[u, .int .i64 0] ∧ ByG G u bs := by
  subst he
  obtain ⟨dv, e, h1, _⟩ := h
  exact ⟨dv, e, h1 rfl⟩
theorem byt_bad {G : GW} {v : Value} {err e : Int} {bs : List UInt8} (h : BytE G v err bs) (he : err = e) (h0 : e ≠ 0) : v = .tuple #[.slice none 0 0, .int .i64 e] := by
  subst he
  obtain ⟨dv, rfl, _, h2⟩ := h
  rw [h2 h0]
theorem new_does {g : Geo} (hg : GoodGeo g) {G : GW} (hW : G.Wf) (hT : Tid devX G) : Calls Try.prog 28 #[geoV g] G.w (Ret G fun v G' => ∃ dv, v = .tuple #[dv, .int .i64 0] ∧ DevG G' dv (newDev g)) :=
  ret_of (new_any g hg G.w) fun _ _ ⟨dv, he, hd, hb⟩ => ⟨_, he, ⟨dv, rfl, DevG.of hd (tid_chg hT hW (Chg.of_below hb))⟩, hb⟩
theorem small_does (G : GW) : Calls Try.prog 27 #[] G.w (Ret G fun v _ => v = .agg #[.int .i64 6, .int .i64 2, .int .i64 6, .int .i64 300, .int .i64 3]) :=
  ret_of (small_any G.w) fun _ _ ⟨he, hb⟩ => ⟨_, he, rfl, hb⟩
theorem picked_does {n m : Int} {G : GW} (h1 : -9223372036854775808 ≤ n) (h2 : n ≤ 9223372036854775807) (h3 : 0 < m) (h4 : m ≤ 1000000000) : Calls Try.prog 25 #[.int .i64 n, .int .i64 m] G.w (Ret G fun v _ => ∃ k : Nat, (k : Int) = pick n m ∧ k < m ∧ v = .int .i64 (k : Int)) := by
  refine ret_of (picked_any n m G.w h1 h2 h3 h4) fun e w' ⟨he, hw⟩ => ?_
  subst hw
  obtain ⟨p1, p2⟩ := pick_bd n m h3
  obtain ⟨k, hk⟩ := Int.eq_ofNat_of_zero_le p1
  exact ⟨_, he, ⟨k, hk.symm, by omega, by rw [hk]⟩, Below.refl _ _⟩
end Go.Proofs.Ytomfladifefomaa
-- G1: dev.Get: a range over slices.Backward: the walk inside a fence; what it reads. Conditions: as each law states them.
namespace Go.Proofs.Ytomfladifefomaa
open Go.RowKit Go.Shelf
attribute [local go_sem] Oper.semAt_some
/-- what a round is handed -/
structure WE where
  i : Nat
  a : Int
  A : Option Addr
  m : Nat
  c : Nat
instance : Inhabited WE := ⟨⟨0, 0, none, 0, 0⟩⟩
def WE.enc (x : WE) : Array Value := #[.int .i64 (x.i : Int), .agg #[.int .i64 x.a, .slice x.A x.m x.c]]
def upto {α : Type} (f : Nat → α) (k : Nat) : List α := (List.range k).map f
theorem upto_succ {α : Type} (f : Nat → α) (k : Nat) : upto f (k + 1) = upto f k ++ [f k] := by simp [upto, List.range_succ]
theorem upto_length {α : Type} (f : Nat → α) (k : Nat) : (upto f k).length = k := by simp [upto]
/-- what a round gets, the k-th one: the element of this index, as it lies in block b -/
def BackR {p : WE → Prop} (W : World) (b off len : Nat) (f : Nat → {x : WE // p x}) : Prop := ∀ k, k < len → (f k).1.i = len - 1 - k ∧ W.cell? ⟨b, off + (len - 1 - k) * 2, none⟩ = some (.int .i64 (f k).1.a) ∧ W.cell? ⟨b, off + (len - 1 - k) * 2 + 1, none⟩ = some (.slice (f k).1.A (f k).1.m (f k).1.c)
set_option maxRecDepth 100000 in
set_option maxHeartbeats 2000000 in
theorem back1_in {p : WE → Prop} (F : Fence) (n : Nat) (h87 : F.fn 87) (hro : F.round = none) (hn : 1 ≤ n) (l Bs n₀ b off len cap : Nat) (f : Nat → {x : WE // p x}) (hlen : len ≤ 100000) (hb : b < n₀) (hBn : Bs < n₀) (J Jx : List {x : WE // p x} → World → Prop)
    (hY : ∀ pre x W, J pre W → pre.length < len → YieldAt F (n - 1) Try.prog l (WE.enc x.1) W fun e W' =>
      (e = .returned (.bool true) ∧ J (pre ++ [x]) W' ∧ Below n₀ W W') ∨ (e = .returned (.bool false) ∧ Jx (pre ++ [x]) W'))
    (W : World) (hBs : W.cell? ⟨Bs, 0, none⟩ = some (.slice (some ⟨b, off, none⟩) len cap)) (hc : BackR W b off len f) (h0 : J [] W) :
    CallsIn F n Try.prog 87 #[.func (.yield l) #[] #[], .pointer (some ⟨Bs, 0, none⟩)] W fun e W' => (∃ v, e = .returned v) ∧
      ((∃ ys, ys = upto f len ∧ J ys W') ∨ (∃ pre, (∃ k, k ≤ len ∧ pre = upto f k) ∧ Jx pre W')) := by
  refine callsIn_of_wp Try.func87 rfl h87 ?_ hro
  simp only [Try.ntmps87, List.size_toArray, List.length_cons, List.length_nil, Nat.reduceAdd, Nat.reduceSub, Array.replicate_succ, Array.replicate_zero, List.push_toArray, List.append_toArray, List.nil_append, List.cons_append]
  gi_wp2
  gi_loopw [3] (fun i wr => ∃ k : Nat, k ≤ len ∧ i = .int .i64 ((len : Int) - 1 - (k : Int)) ∧ J (upto f k) wr ∧ Below n₀ W wr)
    (fun i _ => (intOf i + 1).toNat)
  case atStart => exact ⟨0, Nat.zero_le _, by simp, h0, Below.refl _ _⟩
  case round =>
    obtain ⟨k, hk, rfl, hJs, hnx⟩ := hrel
    have hBr : wr.cell? ⟨Bs, 0, none⟩ = some (.slice (some ⟨b, off, none⟩) len cap) := (hnx.cell (p := ⟨Bs, 0, none⟩) hBn).trans hBs
    by_cases hlt : k < len
    · obtain ⟨q1, q2, q3⟩ := hc k hlt
      obtain ⟨j, hj⟩ : ∃ j, j = len - 1 - k := ⟨_, rfl⟩
      rw [← hj] at q1 q2 q3
      have hji : (len : Int) - 1 - (k : Int) = (j : Int) := by omega
      rw [hji]
      have hjl : j < len := by omega
      have r2 : wr.cell? ⟨b, off + j * 2, none⟩ = some (.int .i64 (f k).1.a) := (hnx.cell (p := ⟨b, off + j * 2, none⟩) hb).trans q2
      have r3 : wr.cell? ⟨b, off + j * 2 + 1, none⟩ = some (.slice (f k).1.A (f k).1.m (f k).1.c) := (hnx.cell (p := ⟨b, off + j * 2 + 1, none⟩) hb).trans q3
      obtain ⟨fn, tmps, assign, body, hy, hR⟩ := hY _ (f k) wr hJs (by rw [upto_length]; exact hlt)
      unfold WE.enc at hy
      rw [q1] at hy
      clear hj
      gi_wp2
      refine hR.mono ?_
      rintro e W3 (⟨rfl, hJ3, hk3⟩ | ⟨rfl, hJx3⟩)
      · gi_wp2
        go_roundw
        case rel => exact ⟨k + 1, by omega, by congr 1; omega, by rw [upto_succ]; exact hJ3, hnx.trans hk3⟩
        case measure => simp [intOf]
      · gi_wp2
        refine bodyPost_ret (results_none rfl _ _ _) rfl ?_
        exact ⟨⟨_, rfl⟩, .inr ⟨_, ⟨k + 1, by omega, (upto_succ _ _).symm⟩, hJx3⟩⟩
    · obtain rfl : k = len := by omega
      have hji : (k : Int) - 1 - (k : Int) = -1 := by omega
      rw [hji]
      gi_wp2
      go_end0
      exact ⟨⟨_, rfl⟩, .inl ⟨_, rfl, hJs⟩⟩
set_option maxRecDepth 100000 in
set_option maxHeartbeats 1000000 in
theorem back0_in {p : WE → Prop} (F : Fence) (n : Nat) (h87 : F.fn 87) (hro : F.round = none) (l Bs c : Nat) (A : Option Addr) (J : List {x : WE // p x} → World → Prop) (W : World) (hBs : W.cell? ⟨Bs, 0, none⟩ = some (.slice A 0 c)) (h0 : J [] W) :
    CallsIn F n Try.prog 87 #[.func (.yield l) #[] #[], .pointer (some ⟨Bs, 0, none⟩)] W fun e W' => (∃ v, e = .returned v) ∧ J [] W' := by
  refine callsIn_of_wp Try.func87 rfl h87 ?_ hro
  simp only [Try.ntmps87, List.size_toArray, List.length_cons, List.length_nil, Nat.reduceAdd, Nat.reduceSub, Array.replicate_succ, Array.replicate_zero, List.push_toArray, List.append_toArray, List.nil_append, List.cons_append]
  gi_wp2
  gi_loopw [3] (fun i wr => i = .int .i64 (-1) ∧ J [] wr) (fun _ _ => 0)
  case atStart => exact ⟨rfl, h0⟩
  case round =>
    obtain ⟨rfl, hJs⟩ := hrel
    gi_wp2
    go_end0
    exact ⟨⟨_, rfl⟩, hJs⟩
set_option maxHeartbeats 1000000 in
theorem back_in (F : Fence) (n : Nat) (h69 : F.fn 69) (hro : F.round = none) (a : Option Addr) (len cap : Nat) (w : World) :
    CallsIn F n Try.prog 69 #[.slice a len cap] w fun e w' => e = .returned (.func (.func 87) #[] #[.pointer (some ⟨w.heap.size, 0, none⟩)]) ∧ w' = w.alloc (.cells #[.slice a len cap] 34) := by
  refine callsIn_of_wp Try.func69 rfl h69 ?_ hro
  simp only [Try.ntmps69, List.size_toArray, List.length_cons, List.length_nil, Nat.reduceAdd, Nat.reduceSub, Array.replicate_succ, Array.replicate_zero, List.push_toArray, List.append_toArray, List.nil_append, List.cons_append]
  gi_wp2
  go_ret
  exact ⟨rfl, rfl⟩
theorem back_stops {p : WE → Prop} (F : Fence) (n : Nat) (h87 : F.fn 87) (hro : F.round = none) (hn : 1 ≤ n) (Bs n₀ len cap : Nat) (A : Option Addr) (f : Nat → {x : WE // p x}) (hlen : len ≤ 100000) (w : World) (hBs : Bs < w.heap.size) (hBn : Bs < n₀) (hn₀ : n₀ ≤ w.heap.size)
    (hc : w.cell? ⟨Bs, 0, none⟩ = some (.slice A len cap)) (hI : 0 < len → ∃ b off, A = some ⟨b, off, none⟩ ∧ b < n₀ ∧ BackR w b off len f) :
    SeqStopsK F n Try.prog 87 #[.pointer (some ⟨Bs, 0, none⟩)] (fun x : {x : WE // p x} => WE.enc x.1) (Below n₀) (fun ys => ys = upto f len) (fun pre => ∃ k, k ≤ len ∧ pre = upto f k) len w := fun l J Jx W hW _ _ hY h0 => by
  have hc' := (hW.cell (p := ⟨Bs, 0, none⟩) hBs).trans hc
  by_cases h : 0 < len
  · obtain ⟨b, off, rfl, hb, hB⟩ := hI h
    have hbw : b < w.heap.size := Nat.lt_of_lt_of_le hb hn₀
    refine back1_in F n h87 hro hn l Bs n₀ b off len cap f hlen hb hBn J Jx hY W hc' (fun k hk => ?_) h0
    obtain ⟨q1, q2, q3⟩ := hB k hk
    exact ⟨q1, (hW.cell (p := ⟨b, off + (len - 1 - k) * 2, none⟩) hbw).trans q2, (hW.cell (p := ⟨b, off + (len - 1 - k) * 2 + 1, none⟩) hbw).trans q3⟩
  · obtain rfl : len = 0 := by omega
    exact (back0_in F n h87 hro l Bs cap A J W hc' h0).mono fun e W' ⟨he, hj⟩ => ⟨he, .inl ⟨_, rfl, hj⟩⟩
end Go.Proofs.Ytomfladifefomaa
-- G2: dev.Get, where there is such a sector: what was put there last, in a row of its own. Conditions: as each law states them.
namespace Go.Proofs.Ytomfladifefomaa
open Go.RowKit Go.Shelf
attribute [local go_sem] Oper.semAt_some
theorem keepX_own {W W' : World} {row : Option Nat} (hg : W.grownBy W' row) (hr : ∀ r, row = some r → ∃ o : Obj, W.heap[r]? = some o ∧ o.isCells = false) : KeepX (fun _ => true) W W' :=
  ⟨hg.size, fun g cur t fr hb _ => (hg.block g (lt_of_block hb) (fun e => by obtain ⟨o, ho, hc⟩ := hr g e.symm; rw [ho] at hb; cases hb; cases hc)).trans hb⟩
/-- what the backward walk stops at -/
theorem content_stop {d : Dev} {n j : Nat} {x : Wr} (hx : d.cache[j]? = some x) (hn : x.at_ = (n : Int)) : ∀ i, j < i → i ≤ d.cache.length → (∀ m y, j < m → m < i → d.cache[m]? = some y → y.at_ ≠ (n : Int)) → valTo all_ d n i = x.data
  | 0, h, _, _ => absurd h (by omega)
  | i + 1, h, hl, hall => by
    unfold valTo
    by_cases e : i = j
    · subst e
      rw [hx]
      simp [all_, hn]
    · have hil : i < d.cache.length := by omega
      have hy : d.cache[i]? = some d.cache[i] := List.getElem?_eq_getElem hil
      rw [hy]
      have hne := hall i _ (by omega) (by omega) hy
      simp only [all_, Bool.true_and, hne, decide_false, Bool.false_eq_true, if_false]
      exact content_stop hx hn i (by omega) (by omega) (fun m y h1 h2 h3 => hall m y h1 (by omega) h3)
theorem content_none {d : Dev} {n : Nat} : ∀ i, i ≤ d.cache.length → (∀ m y, m < i → d.cache[m]? = some y → y.at_ ≠ (n : Int)) → valTo all_ d n i = d.safe.getD n []
  | 0, _, _ => rfl
  | i + 1, hl, hall => by
    unfold valTo
    have hil : i < d.cache.length := by omega
    have hy : d.cache[i]? = some d.cache[i] := List.getElem?_eq_getElem hil
    rw [hy]
    have hne := hall i _ (by omega) hy
    simp only [all_, Bool.true_and, hne, decide_false, Bool.false_eq_true, if_false]
    exact content_none i (by omega) (fun m y h1 h2 => hall m y (by omega) h2)
theorem enc8_inj {a b : UInt8} (h : enc8 a = enc8 b) : a = b := by
  unfold enc8 at h
  injection h with _ h
  exact UInt8.toNat_inj.1 (by omega)
theorem bytesR_eq {w : World} {v : Value} {a b : List UInt8} (h1 : BytesR w v a) (h2 : BytesR w v b) : a = b := by
  obtain ⟨A, c, rfl, p1, p2, p3, p4⟩ := h1
  obtain ⟨A', c', e, q1, q2, q3, q4⟩ := h2
  injection e with e1 hl e3
  subst e1; subst e3
  apply List.ext_getElem hl
  intro i h1 h2
  obtain ⟨g, o, cur, fr, rfl, hb, hc⟩ := p4 (by omega)
  obtain ⟨g', o', cur', fr', e', hb', hc'⟩ := q4 (by omega)
  cases e'
  rw [hb] at hb'
  cases hb'
  have r1 := hc i (enc8 a[i]) (by rw [List.getElem?_map, List.getElem?_eq_getElem h1]; rfl)
  have r2 := hc' i (enc8 b[i]) (by rw [List.getElem?_map, List.getElem?_eq_getElem h2]; rfl)
  rw [r1] at r2
  exact enc8_inj (by injection r2)
/-- the end of the call -/
theorem get_end {F : Fence} {w V : World} {D b6 b7 : Nat} {A' : Option Addr} {c' : Nat} {bs : List UInt8} {cont : List UInt8} (hK : V.heap[D]? = some (.deferred (some []))) (u6 : Blk V b6 23 #[.slice A' 64 c']) (u7 : Blk V b7 25 #[.int .i64 0])
    (ho : V.ownsRow w.heap.size 5 1 (.slice A' 64 c') 64 (bs.map enc8)) (hB : Below w.heap.size w V) (hD : w.heap.size ≤ D) (he : bs = cont) {a : Act} (h6 : a.tmps[6]? = some (.pointer (some ⟨b6, 0, none⟩))) (h7 : a.tmps[7]? = some (.pointer (some ⟨b7, 0, none⟩))) (hdf : a.defers = [{ target := .collected D, args := #[] }]) :
    bodyPostM F 5 Try.prog Try.f37 (fun e w' => ∃ A c, e = .returned (.tuple #[.slice A 64 c, .int .i64 0]) ∧ w'.ownsRow w.heap.size 5 1 (.slice A 64 c) 64 (cont.map enc8) ∧ Below w.heap.size w w') .ret a V := by
  subst he
  obtain ⟨tmps, defers⟩ := a
  simp only at h6 h7 hdf
  subst hdf
  refine ⟨by simp, .inl ⟨_, _, rfl, run_takeDeferred hK, ?_⟩⟩
  have q := keepX_own (grownBy_putObj' V D (.deferred none)) (fun r e => by cases e; exact ⟨_, hK, rfl⟩)
  have k6 := (u6.keep q rfl).cell 0
  have k7 := (u7.keep q rfl).cell 0
  refine ⟨.tuple #[.slice A' 64 c', .int .i64 0], ?_, A', c', rfl, ownsRow_keep ho q rfl, hB.trans (belowK_b (w := w) (Nat.le_refl _) V D _ _ hD hK rfl rfl)⟩
  simp [results, Try.results37, go_sem, k6, k7, h6, h7]
/-- what a round may be handed: a sector's bytes -/
def GoodE (w : World) (x : WE) : Prop := ∃ bs : List UInt8, bs.length = x.m ∧ x.m ≤ 64 ∧ BytesR w (.slice x.A x.m x.c) bs
set_option maxRecDepth 100000 in
set_option maxHeartbeats 4000000 in
theorem get_in {g : Geo} (hg : GoodGeo g) {d : Dev} (hd : GoodDev g d) {dv : Value} {k : Nat} (hk : k < d.safe.length) (w : World) (h : DevR w dv d) :
    Calls Try.prog 37 #[geoV g, dv, .int .i64 (k : Int)] w fun e w' => ∃ A c, e = .returned (.tuple #[.slice A 64 c, .int .i64 0]) ∧ w'.ownsRow w.heap.size 5 1 (.slice A 64 c) 64 ((content d k).map enc8) ∧ Below w.heap.size w w' := by
  have hchk := fun W (hb : Below w.heap.size w W) => check_good g hg d hd dv W (h.below hb)
  have hsl : d.safe.length ≤ 1000 := by
    have := hd.safe
    unfold sectorsOf at this
    have := hg.r2; have := hg.a2; have := hg.h2; omega
  have hmost := hd.most
  obtain ⟨s, c, v, rfl, hs, hc, hv⟩ := h
  obtain ⟨A1, c1, rfl, hs1, hs2⟩ := SeqR.form hs
  obtain ⟨A2, c2, rfl, hc1, hc2⟩ := SeqR.form hc
  obtain ⟨A3, c3, rfl, hv1, hv2⟩ := SeqR.form hv
  obtain ⟨sk, hsk⟩ : ∃ sk, d.safe[k]? = some sk := ⟨_, List.getElem?_eq_getElem hk⟩
  obtain ⟨g0, o0, cs, rfl, hg0, hl0, ⟨u, rfl, hu⟩, hcell0⟩ := SeqR.at_ hs hsk
  obtain ⟨A4, c4, rfl, _⟩ := bytesR_len hu
  have hcell := hcell0 0 _ rfl
  have inst : Inhabited {x : WE // GoodE w x} := ⟨⟨⟨0, 0, none, 0, 0⟩, [], rfl, by decide, TSl.nil w _ 1⟩⟩
  obtain ⟨f, hf⟩ : ∃ f : Nat → {x : WE // GoodE w x}, ∀ j, j < d.cache.length → ∃ y, d.cache[d.cache.length - 1 - j]? = some y ∧ (f j).1.i = d.cache.length - 1 - j ∧ (f j).1.a = y.at_ ∧ (f j).1.m = y.data.length ∧ BytesR w (.slice (f j).1.A (f j).1.m (f j).1.c) y.data ∧
      ∃ b off, A2 = some ⟨b, off, none⟩ ∧ b < w.heap.size ∧ w.cell? ⟨b, off + (d.cache.length - 1 - j) * 2, none⟩ = some (.int .i64 (f j).1.a) ∧ w.cell? ⟨b, off + (d.cache.length - 1 - j) * 2 + 1, none⟩ = some (.slice (f j).1.A (f j).1.m (f j).1.c) := by
    refine Go.Deep.choose_lt (α := {x : WE // GoodE w x}) (n := d.cache.length) (p := fun j (x : {x : WE // GoodE w x}) => ∃ y, d.cache[d.cache.length - 1 - j]? = some y ∧ x.1.i = d.cache.length - 1 - j ∧ x.1.a = y.at_ ∧ x.1.m = y.data.length ∧ BytesR w (.slice x.1.A x.1.m x.1.c) y.data ∧
      ∃ b off, A2 = some ⟨b, off, none⟩ ∧ b < w.heap.size ∧ w.cell? ⟨b, off + (d.cache.length - 1 - j) * 2, none⟩ = some (.int .i64 x.1.a) ∧ w.cell? ⟨b, off + (d.cache.length - 1 - j) * 2 + 1, none⟩ = some (.slice x.1.A x.1.m x.1.c)) fun j hj => ?_
    have hjl : d.cache.length - 1 - j < d.cache.length := by omega
    have hjy : d.cache[d.cache.length - 1 - j]? = some d.cache[d.cache.length - 1 - j] := List.getElem?_eq_getElem hjl
    obtain ⟨b, off, cs, rfl, hb, _, ⟨u, rfl, hu⟩, hcl⟩ := SeqR.at_ hc hjy
    obtain ⟨A5, c5, rfl, _⟩ := bytesR_len hu
    have h64 := (hd.wr hjy).2.2
    exact ⟨⟨⟨_, _, A5, _, c5⟩, _, rfl, Nat.le_of_eq h64, hu⟩, _, hjy, rfl, rfl, rfl, hu, b, off, rfl, hb, hcl 0 _ rfl, hcl 1 _ rfl⟩
  clear hs hc hv hcell0 hl0
  have Hchk := Lib.hid hchk
  have Hf := Lib.hid hf
  have Hu := Lib.hid hu
  have Hd := Lib.hid hd
  have Hk := Lib.hid hk
  have Hsk := Lib.hid hsk
  have hku : sk.length = 64 := hd.rows _ (List.mem_of_getElem? hsk)
  have Hcon : Hid (∀ (j : Nat) (x : Wr), d.cache[j]? = some x → x.data.length = 64) := Lib.hid fun j x hx => (hd.wr hx).2.2
  have Hku := Lib.hid hku
  rw [hku] at hcell Hu
  have hkl : (k : Int) < (d.safe.length : Int) := by omega
  simp only [Nat.mul_one, Nat.add_zero] at hcell
  have hc100 : d.cache.length ≤ 100000 := by omega
  clear hchk hf hu hd hsk hs1 hs2 hc1 hc2 hv1 hv2 hku hmost
  refine (callsIn_wide (n := 5)).1 ?_
  refine callsIn_of_wp_marks Try.func37 rfl trivial ?_ rfl
  obtain ⟨ga, gb, gc, ge, gf⟩ := g
  unfold geoV at *
  simp only at *
  simp only [Try.ntmps37, List.size_toArray, List.length_cons, List.length_nil, Nat.reduceAdd, Nat.reduceSub, Array.replicate_succ, Array.replicate_zero, List.push_toArray, List.append_toArray, List.nil_append, List.cons_append]
  have hB0 : Below w.heap.size w (((((w.alloc (.cells #[.int .i64 ga, .int .i64 gb, .int .i64 gc, .int .i64 ge, .int .i64 gf] 32)).alloc (.cells #[.slice (some ⟨g0, o0, none⟩) d.safe.length c1, .slice A2 d.cache.length c2, .slice A3 d.vols.length c3, .int .i64 d.fuel] 37)).alloc (.cells #[.int .i64 (k : Int)] 3)).alloc (.cells #[.slice none 0 0] 23)).alloc (.cells #[.int .i64 0] 25)) := by
    repeat (first | exact Below.refl _ _ | refine below_al ?_ _)
  gi_wp2_with (refine ⟨trivial, ?_⟩; gi_at_call 35; refine (callsIn_wide.2 (Hchk.out _ hB0)).mono ?_; rintro e w1 ⟨rfl, hb1⟩; have b4 := Blk.below ((((Blk.new_at (w := w.alloc (.cells #[.int .i64 ga, .int .i64 gb, .int .i64 gc, .int .i64 ge, .int .i64 gf] 32)) (g := w.heap.size + 1) (by simp) 37 #[.slice (some ⟨g0, o0, none⟩) d.safe.length c1, .slice A2 d.cache.length c2, .slice A3 d.vols.length c3, .int .i64 d.fuel]).alloc (.cells #[.int .i64 (k : Int)] 3)).alloc (.cells #[.slice none 0 0] 23)).alloc (.cells #[.int .i64 0] 25)) hb1; have b5 := Blk.below (((Blk.new_at (g := w.heap.size + 1 + 1) (by simp) 3 #[.int .i64 (k : Int)]).alloc (.cells #[.slice none 0 0] 23)).alloc (.cells #[.int .i64 0] 25)) hb1; have b6 := Blk.below ((Blk.new_at (g := w.heap.size + 1 + 1 + 1) (by simp) 23 #[.slice none 0 0]).alloc (.cells #[.int .i64 0] 25)) hb1; have b7 := Blk.below (Blk.new_at (g := w.heap.size + 1 + 1 + 1 + 1) (by simp) 25 #[.int .i64 0]) hb1; have c40 := b4.cell 0; have c41 := b4.cell 1; have c42 := b4.cell 2; have c43 := b4.cell 3; have c50 := b5.cell 0; have hB1 := hB0.trans (hb1.mono hB0.size); have Hb4 := Lib.hid b4; have Hb5 := Lib.hid b5; have Hb6 := Lib.hid b6; have Hb7 := Lib.hid b7; have HB1 := Lib.hid hB1; clear b4 b5 b6 b7 hB1 hb1)
  refine ⟨trivial, ?_⟩
  refine (back_in Fence.wide 4 trivial rfl _ _ _ _).mono ?_
  rintro e w2 ⟨rfl, rfl⟩
  gi_wp2
  clear c40 c41 c42 c43 c50
  obtain ⟨W0, hW0⟩ : ∃ W0, w1.alloc (.cells #[.slice A2 d.cache.length c2] 34) = W0 := ⟨_, rfl⟩
  have hB01 : Below w1.heap.size w1 W0 := by rw [← hW0]; exact (Below.refl _ _).alloc (Nat.le_refl _) _
  have hz0 : W0.heap.size = w1.heap.size + 1 := by rw [← hW0]; simp
  have hz1 := Hb7.out.lt
  have b4 := Hb4.out.below hB01
  have b5 := Hb5.out.below hB01
  have b6 := Hb6.out.below hB01
  have b7 := Hb7.out.below hB01
  have bS : Blk W0 w1.heap.size 34 #[.slice A2 d.cache.length c2] := by rw [← hW0]; exact Blk.new _ _ _
  have hBw : Below w.heap.size w W0 := HB1.out.trans (hB01.mono (by omega))
  rw [hW0]
  clear hW0 Hb4 Hb5 Hb6 Hb7 HB1 hB0 hB01 Hchk
  generalize Value.agg #[.int .i64 ga, .int .i64 gb, .int .i64 gc, .int .i64 ge, .int .i64 gf] = X1
  generalize Value.agg #[.slice (some ⟨g0, o0, none⟩) d.safe.length c1, .slice A2 d.cache.length c2, .slice A3 d.vols.length c3, .int .i64 d.fuel] = X2
  generalize Value.bool (decide ((k : Int) < 0)) = X3
  have hI0 : 0 < d.cache.length → ∃ b off, A2 = some ⟨b, off, none⟩ ∧ b < W0.heap.size ∧ BackR W0 b off d.cache.length f := by
    intro h0
    obtain ⟨_, _, _, _, _, _, b, off, hA, hb, _, _⟩ := Hf.out 0 h0
    refine ⟨b, off, hA, by omega, fun j hj => ?_⟩
    obtain ⟨y, _, q1, q2, _, _, b', off', hA', _, q5, q6⟩ := Hf.out j hj
    rw [hA] at hA'
    cases hA'
    exact ⟨q1, (hBw.cell (p := ⟨b, off + (d.cache.length - 1 - j) * 2, none⟩) hb).trans q5, (hBw.cell (p := ⟨b, off + (d.cache.length - 1 - j) * 2 + 1, none⟩) hb).trans q6⟩
  refine wpIn_rangeFunc_ownH rfl (by omega) (gf := 87) (lb := #[.pointer (some ⟨w1.heap.size, 0, none⟩)]) rfl trivial (enters_of Try.func87 (by kernel_rfl) rfl)
    (back_stops (p := GoodE w) Fence.wide 4 trivial rfl (by omega) w1.heap.size W0.heap.size d.cache.length c2 A2 f hc100 W0 (by omega) (by omega) (Nat.le_refl _) (bS.cell 0) hI0) belowK_t (belowK_b (Nat.le_refl _)) (Below.refl _ _) (fun _ => rfl)
    (fun pre W => ((∀ x ∈ pre, x.1.a ≠ (k : Int)) ∧ W0.heap.size ≤ W.heap.size ∧ Blk W (w.heap.size + 1) 37 #[.slice (some ⟨g0, o0, none⟩) d.safe.length c1, .slice A2 d.cache.length c2, .slice A3 d.vols.length c3, .int .i64 d.fuel] ∧ Blk W (w.heap.size + 1 + 1) 3 #[.int .i64 (k : Int)] ∧ Blk W (w.heap.size + 1 + 1 + 1) 23 #[.slice none 0 0] ∧ Blk W (w.heap.size + 1 + 1 + 1 + 1) 25 #[.int .i64 0]) ∧ Below w.heap.size w W)
    (fun c pre W => (c = .ret ∧ ∃ ini last A' c' bs, pre = ini ++ [last] ∧ (∀ x ∈ ini, x.1.a ≠ (k : Int)) ∧ last.1.a = (k : Int) ∧ bs.length = last.1.m ∧ BytesR w (.slice last.1.A last.1.m last.1.c) bs ∧ Blk W (w.heap.size + 1 + 1 + 1) 23 #[.slice A' last.1.m c'] ∧ Blk W (w.heap.size + 1 + 1 + 1 + 1) 25 #[.int .i64 0] ∧ W.ownsRow w.heap.size 5 1 (.slice A' last.1.m c') last.1.m (bs.map enc8)) ∧ Below w.heap.size w W)
    (OwnFrom.and (Own.from (fun s A B row hs hg hr => have q := keepX_own hg hr; ⟨hs.1, Nat.le_trans hs.2.1 hg.size, hs.2.2.1.keep q rfl, hs.2.2.2.1.keep q rfl, hs.2.2.2.2.1.keep q rfl, hs.2.2.2.2.2.keep q rfl⟩) _) (ownFrom_below (Nat.le_refl _) (by omega)))
    (fun c => OwnFrom.and (Own.from (fun s A B row hs hg hr => have q := keepX_own hg hr; by
      obtain ⟨hc, ini, last, A', c', bs, e1, e2, e3, e4, e5, e6, e7, e8⟩ := hs
      exact ⟨hc, ini, last, A', c', bs, e1, e2, e3, e4, e5, e6.keep q rfl, e7.keep q rfl, ownsRow_keep e8 q rfl⟩) _) (ownFrom_below (Nat.le_refl _) (by omega)))
    ⟨⟨by simp, Nat.le_refl _, b4, b5, b6, b7⟩, hBw⟩
    (fun x a' W => ∃ Bx, W0.heap.size ≤ Bx ∧ Blk W Bx 61 #[.int .i64 x.1.a, .slice x.1.A x.1.m x.1.c] ∧ a' = { tmps := #[X1, X2, .int .i64 (k : Int), .pointer (some ⟨w.heap.size, 0, none⟩), .pointer (some ⟨w.heap.size + 1, 0, none⟩), .pointer (some ⟨w.heap.size + 1 + 1, 0, none⟩), .pointer (some ⟨w.heap.size + 1 + 1 + 1, 0, none⟩), .pointer (some ⟨w.heap.size + 1 + 1 + 1 + 1, 0, none⟩), .int .i64 0, undef, .pointer (some ⟨Bx, 0, none⟩), X1, X2, .int .i64 0, .int .i64 0, .bool false, undef, .int .i64 (k : Int), X3, X3, .int .i64 (k : Int), .pointer (some ⟨w.heap.size + 1, 0, none⟩), .slice (some ⟨g0, o0, none⟩) d.safe.length c1, .int .i64 (d.safe.length : Int), .bool false, X3, .pointer (some ⟨w.heap.size + 1, 1, none⟩), .slice A2 d.cache.length c2, .func (.func 87) #[] #[.pointer (some ⟨w1.heap.size, 0, none⟩)], .int .i64 (x.1.i : Int), .agg #[.int .i64 x.1.a, .slice x.1.A x.1.m x.1.c], undef, undef, undef, undef, undef, undef, undef, undef, undef, undef, undef, undef, undef], defers := [] })
    (fun x a' _ X Y row hs hg hr => by obtain ⟨Bx, h1, h2, h3⟩ := hs; exact ⟨Bx, h1, h2.keep (keepX_own hg (fun r e => (hr r e).2)) rfl, h3⟩)
    ?assign ?body ?done ?stop
  case assign =>
    rintro l pre x W K ⟨⟨hp, hsz, c4, c5, c6, c7⟩, hB⟩ hK
    unfold WE.enc
    gi_wp2
    exact hK _ _ ((KeepsOthers.alloc _ _).from _) ((Below.refl _ W).alloc hsz _) ⟨⟨hp, by simp; omega, c4.alloc _, c5.alloc _, c6.alloc _, c7.alloc _⟩, hB.alloc hB.size _⟩ ⟨W.heap.size, hsz, Blk.new W _ _, rfl⟩
  case body =>
    rintro l pre x a' W hl ⟨r, hr⟩ ⟨⟨hp, hsz, c4, c5, c6, c7⟩, hB⟩ ⟨Bx, hBx, bX, rfl⟩ hlt
    obtain ⟨bs, e1, e2, e3⟩ := x.2
    have hcl := clone_any _ bs W (e3.keep (X := fun _ => true) rfl (KeepX.of_below hB)) (by omega)
    rw [e1] at hcl
    have x0 := bX.cell 0
    have x1 := bX.cell 1
    have x5 := c5.cell 0
    by_cases hxa : x.1.a = (k : Int)
    · have Hcl := Lib.hid hcl
      clear hcl
      gi_wp2_with (refine ⟨trivial, ?_⟩; gi_at_call 61; refine (CallsIn.inRound l (callsIn_wide.2 Hcl.out)).mono ?_; rintro e W2 ⟨A', c', rfl, ho, hb2⟩; have d6 := c6.below hb2; have d7 := c7.below hb2; have y6 := d6.cell 0; have y7 := d7.cell 0; have z6 := d6.frozen 0; have z7 := d7.frozen 0; have Ho := Lib.hid ho; have Hb2 := Lib.hid hb2; clear ho hb2)
      have ho := Ho.out
      have hb2 := Hb2.out
      have hBs := hB.size
      have u6 : Blk (W2.setCell ⟨w.heap.size + 1 + 1 + 1, 0, none⟩ (.slice A' x.1.m c')) (w.heap.size + 1 + 1 + 1) 23 #[.slice A' x.1.m c'] := by simpa using d6.set_ 0 (.slice A' x.1.m c')
      have u7 := d7.far (p := ⟨w.heap.size + 1 + 1 + 1, 0, none⟩) (by simp) (.slice A' x.1.m c')
      refine ⟨?_, ⟨rfl, pre, x, A', c', bs, rfl, hp, hxa, e1, e3, u6.far (p := ⟨w.heap.size + 1 + 1 + 1 + 1, 0, none⟩) (by simp) _, by simpa using u7.set_ 0 (.int .i64 0), ?_⟩, ?_⟩
      · exact ((⟨hb2.size, fun i o _ hi _ => (hb2.block i (Array.getElem?_eq_some_iff.1 hi).1).trans hi⟩ : KeepsFrom _ W W2).trans ((KeepsOthers.setCell _ _ _).from _)).trans ((KeepsOthers.setCell _ _ _).from _)
      · exact ownsRow_base (ownsRow_keep (X := fun t => t == 5) ho (((KeepX.refl _ _).setCell (p := ⟨w.heap.size + 1 + 1 + 1, 0, none⟩) d6 rfl _).setCell (p := ⟨w.heap.size + 1 + 1 + 1 + 1, 0, none⟩) u7 rfl _) rfl) (by omega)
      · exact ((hB.trans (hb2.mono hBs)).setCell (p := ⟨w.heap.size + 1 + 1 + 1, 0, none⟩) (by show _ ≤ w.heap.size + 1 + 1 + 1; omega) _).setCell (p := ⟨w.heap.size + 1 + 1 + 1 + 1, 0, none⟩) (by show _ ≤ w.heap.size + 1 + 1 + 1 + 1; omega) _
    · clear hcl
      gi_wp2
      exact ⟨KeepsFrom.refl _ _, Below.refl _ _, ⟨fun y hy => (List.mem_append.1 hy).elim (hp y) (fun e => by simp at e; subst e; exact hxa), hsz, c4, c5, c6, c7⟩, hB⟩
  case done =>
    rintro D ys W hD rfl ⟨⟨hp, hsz, c4, c5, c6, c7⟩, hB⟩ hK
    have hcl := clone_any _ sk W (Hu.out.keep (X := fun _ => true) rfl (KeepX.of_below hB)) (by have := Hku.out; omega)
    rw [Hku.out] at hcl
    have c40 := c4.cell 0
    have c50 := c5.cell 0
    have hcW := (hB.cell (p := ⟨g0, o0 + k, none⟩) hg0).trans hcell
    have Hcl := Lib.hid hcl
    have HK := Lib.hid hK
    clear hcl hK
    gi_wp2_with (refine ⟨trivial, ?_⟩; gi_at_call 61; refine (callsIn_wide.2 Hcl.out).mono ?_; rintro e W2 ⟨A', c', rfl, ho, hb2⟩; have d6 := c6.below hb2; have d7 := c7.below hb2; have y6 := d6.cell 0; have y7 := d7.cell 0; have z6 := d6.frozen 0; have z7 := d7.frozen 0; have Ho := Lib.hid ho; have Hb2 := Lib.hid hb2; clear ho hb2)
    have ho := Ho.out
    have hb2 := Hb2.out
    have hK := HK.out
    have hBs := hB.size
    have u6 : Blk (W2.setCell ⟨w.heap.size + 1 + 1 + 1, 0, none⟩ (.slice A' 64 c')) (w.heap.size + 1 + 1 + 1) 23 #[.slice A' 64 c'] := by simpa using d6.set_ 0 (.slice A' 64 c')
    have u7 := d7.far (p := ⟨w.heap.size + 1 + 1 + 1, 0, none⟩) (by simp) (.slice A' 64 c')
    have v6 := u6.far (p := ⟨w.heap.size + 1 + 1 + 1 + 1, 0, none⟩) (by simp) (.int .i64 0)
    have v7 : Blk ((W2.setCell ⟨w.heap.size + 1 + 1 + 1, 0, none⟩ (.slice A' 64 c')).setCell ⟨w.heap.size + 1 + 1 + 1 + 1, 0, none⟩ (.int .i64 0)) (w.heap.size + 1 + 1 + 1 + 1) 25 #[.int .i64 0] := by simpa using u7.set_ 0 (.int .i64 0)
    have hK2 : W2.heap[D]? = some (.deferred (some [])) := (hb2.block D (Array.getElem?_eq_some_iff.1 hK).1).trans hK
    have hK' := (KeepsOthers.setCell (W2.setCell ⟨w.heap.size + 1 + 1 + 1, 0, none⟩ (.slice A' 64 c')) ⟨w.heap.size + 1 + 1 + 1 + 1, 0, none⟩ (.int .i64 0)).same D _ ((KeepsOthers.setCell W2 ⟨w.heap.size + 1 + 1 + 1, 0, none⟩ (.slice A' 64 c')).same D _ hK2 rfl) rfl
    have ho' := ownsRow_keep (X := fun t => t == 5) ho (((KeepX.refl _ _).setCell (p := ⟨w.heap.size + 1 + 1 + 1, 0, none⟩) d6 rfl (.slice A' 64 c')).setCell (p := ⟨w.heap.size + 1 + 1 + 1 + 1, 0, none⟩) u7 rfl (.int .i64 0)) rfl
    have hB' := ((hB.trans (hb2.mono hBs)).setCell (p := ⟨w.heap.size + 1 + 1 + 1, 0, none⟩) (by show _ ≤ w.heap.size + 1 + 1 + 1; omega) (.slice A' 64 c')).setCell (p := ⟨w.heap.size + 1 + 1 + 1 + 1, 0, none⟩) (by show _ ≤ w.heap.size + 1 + 1 + 1 + 1; omega) (.int .i64 0)
    refine get_end hK' v6 v7 (ownsRow_base ho' hBs) hB' (by omega) ?_ rfl rfl rfl
    show sk = content d k
    have hcn := content_none (d := d) (n := k) d.cache.length (Nat.le_refl _) fun m y hm hy => by
      obtain ⟨y', q1, _, q3, _⟩ := Hf.out (d.cache.length - 1 - m) (by omega)
      rw [show d.cache.length - 1 - (d.cache.length - 1 - m) = m by omega, hy] at q1
      cases q1
      rw [← q3]
      exact hp _ (by simp only [upto, List.mem_map, List.mem_range]; exact ⟨_, by omega, rfl⟩)
    unfold content
    rw [hcn, List.getD_eq_getElem?_getD, Hsk.out]
    rfl
  case stop =>
    rintro D c pre W hD ⟨k', hk', rfl⟩ ⟨⟨rfl, ini, last, A', c', bs, e1, e2, e3, e4, e5, u6, u7, ho⟩, hB⟩ hK
    gi_wp2
    have hBs := hB.size
    obtain ⟨j, rfl⟩ : ∃ j, k' = j + 1 := by
      cases k' with
      | zero => simp [upto] at e1
      | succ j => exact ⟨j, rfl⟩
    rw [upto_succ] at e1
    obtain ⟨rfl, el⟩ := List.append_inj' e1 rfl
    obtain rfl : f j = last := by simpa using el
    obtain ⟨y, q1, q2, q3, q4, q5, _⟩ := Hf.out j (by omega)
    have hm64 : (f j).1.m = 64 := by rw [q4]; exact Hcon.out _ _ q1
    have hbs : bs = y.data := bytesR_eq e5 q5
    rw [hm64] at u6 ho
    refine get_end hK u6 u7 ho hB (by omega) ?_ rfl rfl rfl
    rw [hbs]
    refine (content_stop q1 (by rw [← q3, e3]) d.cache.length (by omega) (Nat.le_refl _) fun m y2 h1 h2 hy2 => ?_).symm
    obtain ⟨y', r1, _, r3, _⟩ := Hf.out (d.cache.length - 1 - m) (by omega)
    rw [show d.cache.length - 1 - (d.cache.length - 1 - m) = m by omega, hy2] at r1
    cases r1
    rw [← r3]
    exact e2 _ (by simp only [upto, List.mem_map, List.mem_range]; exact ⟨_, by omega, rfl⟩)
end Go.Proofs.Ytomfladifefomaa
-- D8: dev.Get, over devices that may be: a total contract. Conditions: as each law states them.
namespace Go.Proofs.Ytomfladifefomaa
open Go.RowKit
set_option linter.unusedSimpArgs false
def getErr (d : Dev) (n : Int) : Int := if n < 0 ∨ (d.safe.length : Int) ≤ n then 2 else 0
set_option maxRecDepth 100000 in
set_option maxHeartbeats 4000000 in
theorem get_does {g : Geo} (hg : GoodGeo g) {d : Dev} (hd : GoodDev g d) {dv : Value} {n : Int} {G0 : GW} (hW : G0.Wf) (h : DevG G0 dv d) :
    Calls Try.prog 37 #[geoV g, dv, .int .i64 n] G0.w (Ret G0 fun u G => BytE G u (getErr d n) (content d n.toNat)) := by
  by_cases e1 : 0 ≤ n ∧ n < (d.safe.length : Int)
  · obtain ⟨k, rfl⟩ := Int.eq_ofNat_of_zero_le e1.1
    have hk : k < d.safe.length := by omega
    have he : getErr d (k : Int) = 0 := by unfold getErr; rw [if_neg (by omega)]
    refine ret_of (get_in hg hd hk G0.w h.r) fun e w' ⟨A, c, hr, ho, hb⟩ => ⟨_, hr, byt_ok he ⟨_, rfl, ?_⟩, hb⟩
    have hl : (content d k).length = 64 := val_len hd all_ k hk _
    show Sl _ _ 1 (content d (k : Int).toNat).length _ _
    rw [Int.toNat_natCast, hl]
    exact sl_own hW ho
  · have he : getErr d n = 2 := by unfold getErr; rw [if_pos (by omega)]
    obtain ⟨A1, k1, A2, k2, A3, k3, rfl, hs, hc, hv⟩ := h.form
    refine enter (G := G0) (n := 44) 3000 hW Try.func37 rfl Try.ntmps37 (by simp) ?_
    simp only [go_sem, Nat.reduceAdd, Nat.reduceSub, Nat.reduceMul, Nat.reduceEqDiff, Nat.reduceLT, Nat.reduceLeDiff, Nat.reduceBEq, Nat.reduceBNe, Int.reduceLT, Int.reduceLE, Int.reduceEq, Int.reduceAdd, Int.reduceSub, Int.reduceNeg, decide_true, decide_false, Bool.not_true, Bool.not_false, cond_true, cond_false, beq_self_eq_true, and_self, ne_eq, not_true_eq_false, not_false_eq_true, reduceCtorEq, Bool.true_beq, Bool.false_beq, geoV]
    intro g1 g2 g3 g4 g5
    refine plain_ok (N := 3000) (call_does (fun v G => v = .int .i64 0) rfl rfl (by kernel_rfl) rfl (by simp only [dOk_some, dOk_none, Nat.reduceLT]) (fun G hG => chk hg hd (h.mono (hG.le G0 (by simp))))) (QOk_body _ _ _) (by first | exact .inl rfl | exact .inr ⟨_, _, rfl, rfl⟩) ?_
    rintro _ ⟨_, G1, rfl, hn1, rfl⟩
    clear hn1
    by_cases e2 : n < 0
    · have q1 : decide (n < 0) = true := decide_eq_true e2
      simp only [go_sem, Nat.reduceAdd, Nat.reduceSub, Nat.reduceMul, Nat.reduceEqDiff, Nat.reduceLT, Nat.reduceLeDiff, Nat.reduceBEq, Nat.reduceBNe, Int.reduceLT, Int.reduceLE, Int.reduceEq, Int.reduceAdd, Int.reduceSub, Int.reduceNeg, decide_true, decide_false, Bool.not_true, Bool.not_false, cond_true, cond_false, beq_self_eq_true, and_self, ne_eq, not_true_eq_false, not_false_eq_true, reduceCtorEq, Bool.true_beq, Bool.false_beq, q1]
      refine fin_ret (G := G0) Try.results37 ?_
      simp only [go_sem, Nat.reduceAdd, Nat.reduceSub, Nat.reduceMul, Nat.reduceEqDiff, Nat.reduceLT, Nat.reduceLeDiff, Nat.reduceBEq, Nat.reduceBNe, Int.reduceLT, Int.reduceLE, Int.reduceEq, Int.reduceAdd, Int.reduceSub, Int.reduceNeg, decide_true, decide_false, Bool.not_true, Bool.not_false, cond_true, cond_false, beq_self_eq_true, and_self, ne_eq, not_true_eq_false, not_false_eq_true, reduceCtorEq, Bool.true_beq, Bool.false_beq]
      intro a w' _ _
      exact he.symm ▸ byt_err _ _ (by decide)
    · have q1 : decide (n < 0) = false := decide_eq_false e2
      have q2 : decide ((d.safe.length : Int) ≤ n) = true := decide_eq_true (by omega)
      simp only [go_sem, Nat.reduceAdd, Nat.reduceSub, Nat.reduceMul, Nat.reduceEqDiff, Nat.reduceLT, Nat.reduceLeDiff, Nat.reduceBEq, Nat.reduceBNe, Int.reduceLT, Int.reduceLE, Int.reduceEq, Int.reduceAdd, Int.reduceSub, Int.reduceNeg, decide_true, decide_false, Bool.not_true, Bool.not_false, cond_true, cond_false, beq_self_eq_true, and_self, ne_eq, not_true_eq_false, not_false_eq_true, reduceCtorEq, Bool.true_beq, Bool.false_beq, q1, q2]
      refine fin_ret (G := G0) Try.results37 ?_
      simp only [go_sem, Nat.reduceAdd, Nat.reduceSub, Nat.reduceMul, Nat.reduceEqDiff, Nat.reduceLT, Nat.reduceLeDiff, Nat.reduceBEq, Nat.reduceBNe, Int.reduceLT, Int.reduceLE, Int.reduceEq, Int.reduceAdd, Int.reduceSub, Int.reduceNeg, decide_true, decide_false, Bool.not_true, Bool.not_false, cond_true, cond_false, beq_self_eq_true, and_self, ne_eq, not_true_eq_false, not_false_eq_true, reduceCtorEq, Bool.true_beq, Bool.false_beq]
      intro a w' _ _
      exact he.symm ▸ byt_err _ _ (by decide)
theorem get_ok {g : Geo} (hg : GoodGeo g) {d : Dev} (hd : GoodDev g d) {dv : Value} {k : Nat} (hk : k < d.safe.length) {G0 : GW} (hW : G0.Wf) (h : DevG G0 dv d) :
    Calls Try.prog 37 #[geoV g, dv, .int .i64 (k : Int)] G0.w (Ret G0 fun v G => ∃ A c, v = .tuple #[.slice A 64 c, .int .i64 0] ∧ ByG G (.slice A 64 c) (content d k)) := by
  refine ret_of (get_in hg hd hk G0.w h.r) fun e w' ⟨A, c, hr, ho, hb⟩ => ⟨_, hr, ⟨A, c, rfl, ?_⟩, hb⟩
  have hl : (content d k).length = 64 := val_len hd all_ k hk _
  show Sl _ _ 1 (content d k).length _ _
  rw [hl]
  exact sl_own hW ho
end Go.Proofs.Ytomfladifefomaa
-- E1: icehousekeep.devices: whatever is done, the devices stay such that may be. Conditions: as each law states them.
namespace Go.Proofs.Ytomfladifefomaa
open Go.RowKit
set_option linter.unusedSimpArgs false
structure Raw where
  kind : Int
  a : Int
  b : Int
  c : Int
  d : Int
  text : ByteArray
def i64 (n : Int) : Prop := -9223372036854775808 ≤ n ∧ n ≤ 9223372036854775807
def RawG (_ : GW) (x : Raw) (cs : List Value) : Prop := cs = [.int .i64 x.kind, .int .i64 x.a, .int .i64 x.b, .int .i64 x.c, .int .i64 x.d, .string x.text] ∧ i64 x.kind ∧ i64 x.a ∧ i64 x.b ∧ i64 x.c ∧ i64 x.d ∧ x.text.size ≤ maxLen
theorem rawG_mono : MonoR RawG := fun _ _ _ _ _ h => h
def RawsG (G : GW) (v : Value) (l : List Raw) : Prop := ScR RawG 6 G v l
theorem cut_len (s : ByteArray) (n : Nat) : (s.extract 0 (min s.size n)).data.toList.length ≤ n := by
  rw [Array.length_toList]
  show (s.extract 0 (min s.size n)).size ≤ n
  simp; omega
theorem cut_is (s : ByteArray) (m : Int) (n : Nat) (h : m = (n : Int)) : (s.extract (Int.toNat 0) (min (s.size : Int) m).toNat).data.toList = (s.extract 0 (min s.size n)).data.toList := by
  subst h
  congr 3
  omega
theorem cut_sz (s : ByteArray) (m : Int) (h : m ≤ 1000000) : (s.extract (Int.toNat 0) (min (s.size : Int) m).toNat).size ≤ 1000000 := by simp; omega
theorem spent_fuel1 {d : Dev} (h : d.fuel = -1) : (spent d).fuel = -1 := by simp [spent, h]
theorem app_fuel {g : Geo} {d : Dev} {v : Int} {bs : List UInt8} (h : d.fuel = -1) : (appDev g d v bs).fuel = -1 := by
  unfold appDev
  split
  · exact spent_fuel1 h
  · exact spent_fuel1 h
theorem app_cache {g : Geo} {d : Dev} {v : Int} {bs : List UInt8} : (appDev g d v bs).cache = d.cache := by
  unfold appDev
  split <;> rfl
set_option maxRecDepth 100000 in
set_option maxHeartbeats 8000000 in
theorem devices_does {g : Geo} (hg : GoodGeo g) {rv : Value} {l : List Raw} {most : Int} (hm0 : 0 ≤ most) (hm : most ≤ 1000) {G0 : GW} (hW : G0.Wf) (hT : Tid devX G0) (hl : RawsG G0 rv l) :
    Calls Try.prog 34 #[geoV g, rv, .int .i64 most] G0.w (Ret G0 fun v G => ∃ dv d, v = .tuple #[dv, .bool true] ∧ DevG G dv d ∧ GoodDev g d ∧ d.fuel = -1 ∧ (d.cache.length : Int) ≤ most) := by
  obtain ⟨A, c, rfl, _, _⟩ := ScR.form hl
  have hTb : Tid bX G0 := hT.mono bX_devX
  refine enter (G := G0) (n := 113) 3000 hW Try.func34 rfl Try.ntmps34 (by simp) ?_
  simp only [go_sem, Nat.reduceAdd, Nat.reduceSub, Nat.reduceMul, Nat.reduceEqDiff, Nat.reduceLT, Nat.reduceLeDiff, Nat.reduceBEq, Nat.reduceBNe, Int.reduceLT, Int.reduceLE, Int.reduceEq, Int.reduceAdd, Int.reduceSub, Int.reduceNeg, decide_true, decide_false, Bool.not_true, Bool.not_false, cond_true, cond_false, beq_self_eq_true, and_self, ne_eq, not_true_eq_false, not_false_eq_true, reduceCtorEq, Bool.true_beq, Bool.false_beq, geoV]
  intro g1 g2
  refine plain_ok (N := 3000) (call_does (fun v G => ∃ dv, v = .tuple #[dv, .int .i64 0] ∧ DevG G dv (newDev g)) rfl rfl (by kernel_rfl) rfl (by simp only [dOk_some, dOk_none, Nat.reduceLT]) (fun G hG => new_does hg hG.wf (tidM hG (fun _ h => h) hT hW rfl rfl (by simp) (by simp; decide)))) (QOk_body _ _ _) (by first | exact .inl rfl | exact .inr ⟨_, _, rfl, rfl⟩) ?_
  rintro _ ⟨_, G1, ⟨dv, rfl, hd0⟩, hn1, rfl⟩
  have hl01 : G0.Le G1 := hn1.le G0 (by simp)
  clear hn1
  obtain ⟨d0, e0⟩ : ∃ d0, d0 = newDev g := ⟨_, rfl⟩
  rw [← e0] at hd0
  have hg0 : GoodDev g d0 := e0 ▸ newGood g hg
  have hf0 : d0.fuel = -1 := by rw [e0]; rfl
  have hc0 : d0.cache.length = 0 := by rw [e0]; rfl
  clear e0
  obtain ⟨A1, k1, A2, k2, A3, k3, rfl, hfo⟩ := hd0.form
  clear hfo
  have hpos : ∀ d, GoodDev g d → 0 < d.safe.length ∧ d.safe.length ≤ 1000 := by
    intro d hd
    have := hd.safe
    unfold sectorsOf at this
    have := hg.r1; have := hg.a1; have := hg.h1; have := hg.r2; have := hg.a2; have := hg.h2; omega
  have q0 : decide ((d0.safe.length : Int) = 0) = false := decide_eq_false (by have := (hpos d0 hg0).1; omega)
  simp only [go_sem, Nat.reduceAdd, Nat.reduceSub, Nat.reduceMul, Nat.reduceEqDiff, Nat.reduceLT, Nat.reduceLeDiff, Nat.reduceBEq, Nat.reduceBNe, Int.reduceLT, Int.reduceLE, Int.reduceEq, Int.reduceAdd, Int.reduceSub, Int.reduceNeg, decide_true, decide_false, Bool.not_true, Bool.not_false, cond_true, cond_false, beq_self_eq_true, and_self, ne_eq, not_true_eq_false, not_false_eq_true, reduceCtorEq, Bool.true_beq, Bool.false_beq, q0]
  intro g3
  have hl0 : RawsG G1 (.slice A l.length c) l := ScR.mono hl rawG_mono hl01
  refine loop_ok (N := 3000) (ι := Nat × Dev × (Option Addr × Nat) × (Option Addr × Nat) × (Option Addr × Nat) × GW)
    (fun i => match i with | (v, d, (B1, m1), (B2, m2), (B3, m3), G) => ⟨[(1, .c (.v (.slice A l.length c))), (2, .c (.v (.int .i64 most))), (3, .c (.p 0 g1 0)), (6, .c (.p 1 g2 0)), (8, .c (.p 2 g3 0)), (9, .c (.v (.int .i64 0))), (10, .c (.v (.int .i64 (v : Int))))],
      [⟨2, g3, 37, [.v (.slice B1 d.safe.length m1), .v (.slice B2 d.cache.length m2), .v (.slice B3 d.vols.length m3), .v (.int .i64 d.fuel)]⟩, ⟨1, g2, 37, [.v (.slice none 0 0), .v (.slice none 0 0), .v (.slice none 0 0), .v (.int .i64 0)]⟩, ⟨0, g1, 32, [.v (.int .i64 g.ring), .v (.int .i64 g.area), .v (.int .i64 g.hot), .v (.int .i64 g.volume), .v (.int .i64 g.volumes)]⟩], [], [], [G], 3⟩)
    (fun i => match i with | (v, d, (B1, m1), (B2, m2), (B3, m3), G) => (v ≤ l.length ∧ (v : Int) ≤ most ∧ d.cache.length ≤ v) ∧ RawsG G (.slice A l.length c) l ∧ GoodDev g d ∧ d.fuel = -1 ∧ DevG G (.agg #[.slice B1 d.safe.length m1, .slice B2 d.cache.length m2, .slice B3 d.vols.length m3, .int .i64 d.fuel]) d)
    (fun i => l.length - i.1) (QOk_body _ _ _) (0, d0, (A1, k1), (A2, k2), (A3, k3), G1) ⟨⟨by omega, by omega, by omega⟩, hl0, hg0, hf0, hd0⟩ (by simp only [go_sem, Nat.reduceAdd, Nat.reduceSub, Nat.reduceMul, Nat.reduceEqDiff, Nat.reduceLT, Nat.reduceLeDiff, Nat.reduceBEq, Nat.reduceBNe, Int.reduceLT, Int.reduceLE, Int.reduceEq, Int.reduceAdd, Int.reduceSub, Int.reduceNeg, decide_true, decide_false, Bool.not_true, Bool.not_false, cond_true, cond_false, beq_self_eq_true, and_self, ne_eq, not_true_eq_false, not_false_eq_true, reduceCtorEq, Bool.true_beq, Bool.false_beq]; simp) ?_
  clear hl01 hd0 hg0 hf0 hl0 hc0 A1 k1 A2 k2 A3 k3 q0 d0
  rintro ⟨v, d, ⟨B1, m1⟩, ⟨B2, m2⟩, ⟨B3, m3⟩, G1⟩ ⟨⟨hv, hvm, hvc⟩, hl1, hgd, hf, hd1⟩
  simp only
  obtain ⟨hp1, hp2⟩ := hpos d hgd
  by_cases hlt : v < l.length
  · have q1 : decide ((v : Int) < (l.length : Int)) = true := by simpa using hlt
    by_cases hlm : (v : Int) < most
    · have q2 : decide ((v : Int) < most) = true := by simpa using hlm
      obtain ⟨x, hx⟩ : ∃ x, l[v]? = some x := ⟨_, List.getElem?_eq_getElem hlt⟩
      simp only [go_sem, Nat.reduceAdd, Nat.reduceSub, Nat.reduceMul, Nat.reduceEqDiff, Nat.reduceLT, Nat.reduceLeDiff, Nat.reduceBEq, Nat.reduceBNe, Int.reduceLT, Int.reduceLE, Int.reduceEq, Int.reduceAdd, Int.reduceSub, Int.reduceNeg, decide_true, decide_false, Bool.not_true, Bool.not_false, cond_true, cond_false, beq_self_eq_true, and_self, ne_eq, not_true_eq_false, not_false_eq_true, reduceCtorEq, Bool.true_beq, Bool.false_beq, q1, q2]
      refine plain_ok (N := 3000) (elemC_does (R := RawG) (l := l) (m := v) rfl tySlice48 tySize58 rfl rfl (by simp only [dOk_some, dOk_none, Nat.reduceLT]) rfl hx (fun G hG => ScR.mono hl1 rawG_mono (hG.le G1 (by simp)))) (QOk_body _ _ _) (by first | exact .inl rfl | exact .inr ⟨_, _, rfl, rfl⟩) ?_
      rintro _ ⟨gw, ow, cs, G2, hcl, ⟨rfl, ⟨b1, b2⟩, ⟨b3, b4⟩, _, _, _, b6⟩, hn2, rfl⟩
      have hl12 : G1.Le G2 := hn2.le G1 (by simp)
      clear hn2 hcl
      simp only [go_sem, Nat.reduceAdd, Nat.reduceSub, Nat.reduceMul, Nat.reduceEqDiff, Nat.reduceLT, Nat.reduceLeDiff, Nat.reduceBEq, Nat.reduceBNe, Int.reduceLT, Int.reduceLE, Int.reduceEq, Int.reduceAdd, Int.reduceSub, Int.reduceNeg, decide_true, decide_false, Bool.not_true, Bool.not_false, cond_true, cond_false, beq_self_eq_true, and_self, ne_eq, not_true_eq_false, not_false_eq_true, reduceCtorEq, Bool.true_beq, Bool.false_beq]
      intro g4
      refine ⟨by omega, ?_⟩
      obtain ⟨bs, hbs⟩ : ∃ bs : List UInt8, bs = (x.text.extract 0 (min x.text.size 64)).data.toList := ⟨_, rfl⟩
      have hbl : bs.length ≤ 64 := by rw [hbs]; exact cut_len x.text 64
      refine plain_ok (N := 3000) (bytes_does (e := 5) rfl (tyStr9) (tySlice23) (tyInt5) rfl (by simp only [dOk_some, dOk_none, Nat.reduceLT]) (cut_sz x.text 64 (by omega))) (QOk_body _ _ _) (by first | exact .inl rfl | exact .inr ⟨_, _, rfl, rfl⟩) ?_
      rw [cut_is x.text 64 64 rfl, ← hbs]
      rintro _ ⟨Ab, cb, G3, hby, rfl⟩
      simp only [go_sem, Nat.reduceAdd, Nat.reduceSub, Nat.reduceMul, Nat.reduceEqDiff, Nat.reduceLT, Nat.reduceLeDiff, Nat.reduceBEq, Nat.reduceBNe, Int.reduceLT, Int.reduceLE, Int.reduceEq, Int.reduceAdd, Int.reduceSub, Int.reduceNeg, decide_true, decide_false, Bool.not_true, Bool.not_false, cond_true, cond_false, beq_self_eq_true, and_self, ne_eq, not_true_eq_false, not_false_eq_true, reduceCtorEq, Bool.true_beq, Bool.false_beq]
      intro g5
      refine plain_ok (N := 3000) (call_does (fun v _ => ∃ k : Nat, (k : Int) = pick x.kind 6 ∧ (k : Int) < 6 ∧ v = .int .i64 (k : Int)) rfl rfl (by kernel_rfl) rfl (by simp only [dOk_some, dOk_none, Nat.reduceLT]) (fun G hG => picked_does b1 b2 (by omega) (by omega))) (QOk_body _ _ _) (by first | exact .inl rfl | exact .inr ⟨_, _, rfl, rfl⟩) ?_
      rintro _ ⟨_, G4, ⟨k, _, hk6, rfl⟩, hn4, rfl⟩
      have hl14 : G1.Le G4 := hn4.le G1 (by simp)
      clear hn4
      by_cases k0 : k = 0
      · have r0 : decide ((k : Int) = 0) = true := decide_eq_true (by omega)
        simp only [go_sem, Nat.reduceAdd, Nat.reduceSub, Nat.reduceMul, Nat.reduceEqDiff, Nat.reduceLT, Nat.reduceLeDiff, Nat.reduceBEq, Nat.reduceBNe, Int.reduceLT, Int.reduceLE, Int.reduceEq, Int.reduceAdd, Int.reduceSub, Int.reduceNeg, decide_true, decide_false, Bool.not_true, Bool.not_false, cond_true, cond_false, beq_self_eq_true, and_self, ne_eq, not_true_eq_false, not_false_eq_true, reduceCtorEq, Bool.true_beq, Bool.false_beq, r0]
        refine draw_ok (N := 3000) (.take 0 (.take 1 (.take 2 (.take 3 (.take 4 (.take 5 (.take 6 (.take 8 (.alt 7 (.alt 9 (.take 10 (.take 11 (.take 12 (.alt 13 (.take 14 .done) .last)))) .last) .last))))))))) [5] (QOk_body _ _ _) follows_mixed (by kernel_rfl) (by kernel_rfl) ?_
        simp only [go_sem, Nat.reduceAdd, Nat.reduceSub, Nat.reduceMul, Nat.reduceEqDiff, Nat.reduceLT, Nat.reduceLeDiff, Nat.reduceBEq, Nat.reduceBNe, Int.reduceLT, Int.reduceLE, Int.reduceEq, Int.reduceAdd, Int.reduceSub, Int.reduceNeg, decide_true, decide_false, Bool.not_true, Bool.not_false, cond_true, cond_false, beq_self_eq_true, and_self, ne_eq, not_true_eq_false, not_false_eq_true, reduceCtorEq, Bool.true_beq, Bool.false_beq]
        refine any_ok2 (N := 3000) (call_does (fun v _ => ∃ j : Nat, (j : Int) = pick x.a (d.safe.length : Int) ∧ (j : Int) < (d.safe.length : Int) ∧ v = .int .i64 (j : Int)) rfl rfl (by kernel_rfl) rfl (by simp only [dOk_some, dOk_none, Nat.reduceLT]) (fun G hG => picked_does b3 b4 (by omega) (by omega))) (QOk_body _ _ _) rfl (by first | exact .inl rfl | exact .inr ⟨_, _, rfl, rfl⟩) (by intro _ hK; first | (obtain ⟨_, _, _, _, rfl⟩ := hK; exact ⟨rfl, fun _ h => h⟩) | (obtain ⟨_, _, rfl⟩ := hK; exact ⟨rfl, fun _ h => h⟩) | (obtain ⟨_, _, _, _, _, _, rfl⟩ := hK; exact ⟨rfl, fun _ h => List.mem_cons_of_mem _ h⟩) | (obtain ⟨_, _, _, _, _, _, _, rfl⟩ := hK; exact ⟨rfl, fun _ h => List.mem_cons_of_mem _ h⟩) | (obtain rfl := hK; exact ⟨rfl, fun _ h => h⟩)) ?_
        rintro _ ⟨_, G5, ⟨j, _, hj, rfl⟩, hn5, rfl⟩
        clear hn5
        simp only [go_sem, Nat.reduceAdd, Nat.reduceSub, Nat.reduceMul, Nat.reduceEqDiff, Nat.reduceLT, Nat.reduceLeDiff, Nat.reduceBEq, Nat.reduceBNe, Int.reduceLT, Int.reduceLE, Int.reduceEq, Int.reduceAdd, Int.reduceSub, Int.reduceNeg, decide_true, decide_false, Bool.not_true, Bool.not_false, cond_true, cond_false, beq_self_eq_true, and_self, ne_eq, not_true_eq_false, not_false_eq_true, reduceCtorEq, Bool.true_beq, Bool.false_beq]
        by_cases he : putErr d (j : Int) bs.length = 0
        · refine any_ok2 (N := 3000) (call_does (fun v G => ∃ dv, v = .tuple #[dv, .int .i64 0] ∧ DevG G dv (putDev d (j : Int) bs)) rfl rfl (by kernel_rfl) rfl (by simp only [dOk_some, dOk_none, Nat.reduceLT]) (fun G hG => ret_mono (put_does (n := (j : Int)) (bs := bs) hg hgd hG.wf (tidB hG (fun _ h => h) hTb hW rfl rfl (by simp) (by simp; decide)) (hd1.mono (hG.le G1 (by simp))) (ByG.mono hby (hG.le G3 (by simp)))) fun v G' _ h => dev_get h he)) (QOk_body _ _ _) rfl (by first | exact .inl rfl | exact .inr ⟨_, _, rfl, rfl⟩) (by intro _ hK; first | (obtain ⟨_, _, _, _, rfl⟩ := hK; exact ⟨rfl, fun _ h => h⟩) | (obtain ⟨_, _, rfl⟩ := hK; exact ⟨rfl, fun _ h => h⟩) | (obtain ⟨_, _, _, _, _, _, rfl⟩ := hK; exact ⟨rfl, fun _ h => List.mem_cons_of_mem _ h⟩) | (obtain ⟨_, _, _, _, _, _, _, rfl⟩ := hK; exact ⟨rfl, fun _ h => List.mem_cons_of_mem _ h⟩) | (obtain rfl := hK; exact ⟨rfl, fun _ h => h⟩)) ?_
          rintro _ ⟨_, G6, ⟨dv, rfl, hd2⟩, hn6, rfl⟩
          have hg2 := good_put hgd he
          have hf2 : (putDev d (j : Int) bs).fuel = -1 := spent_fuel1 hf
          have hc2 : (putDev d (j : Int) bs).cache.length ≤ v + 1 := by simp [putDev]; omega
          generalize putDev d (j : Int) bs = d2 at hd2 hg2 hf2 hc2
          have hl16 : G1.Le G6 := hn6.le G1 (by simp)
          clear hn6
          obtain ⟨C1, n1, C2, n2, C3, n3, rfl, hfo⟩ := hd2.form
          clear hfo
          simp only [go_sem, Nat.reduceAdd, Nat.reduceSub, Nat.reduceMul, Nat.reduceEqDiff, Nat.reduceLT, Nat.reduceLeDiff, Nat.reduceBEq, Nat.reduceBNe, Int.reduceLT, Int.reduceLE, Int.reduceEq, Int.reduceAdd, Int.reduceSub, Int.reduceNeg, decide_true, decide_false, Bool.not_true, Bool.not_false, cond_true, cond_false, beq_self_eq_true, and_self, ne_eq, not_true_eq_false, not_false_eq_true, reduceCtorEq, Bool.true_beq, Bool.false_beq]
          exact ⟨by omega, again_ok (v + 1, d2, (C1, n1), (C2, n2), (C3, n3), G6) ⟨⟨by omega, by omega, hc2⟩, ScR.mono hl1 rawG_mono hl16, hg2, hf2, hd2⟩ (by simp only; omega) (by simp only [go_sem, Nat.reduceAdd, Nat.reduceSub, Nat.reduceMul, Nat.reduceEqDiff, Nat.reduceLT, Nat.reduceLeDiff, Nat.reduceBEq, Nat.reduceBNe, Int.reduceLT, Int.reduceLE, Int.reduceEq, Int.reduceAdd, Int.reduceSub, Int.reduceNeg, decide_true, decide_false, Bool.not_true, Bool.not_false, cond_true, cond_false, beq_self_eq_true, and_self, ne_eq, not_true_eq_false, not_false_eq_true, reduceCtorEq, Bool.true_beq, Bool.false_beq]; simp)⟩
        · refine any_ok2 (N := 3000) (call_does (fun v G => v = .tuple #[.agg #[.slice none 0 0, .slice none 0 0, .slice none 0 0, .int .i64 0], .int .i64 (putErr d (j : Int) bs.length)]) rfl rfl (by kernel_rfl) rfl (by simp only [dOk_some, dOk_none, Nat.reduceLT]) (fun G hG => ret_mono (put_does (n := (j : Int)) (bs := bs) hg hgd hG.wf (tidB hG (fun _ h => h) hTb hW rfl rfl (by simp) (by simp; decide)) (hd1.mono (hG.le G1 (by simp))) (ByG.mono hby (hG.le G3 (by simp)))) fun v G' _ h => dev_bad h rfl he)) (QOk_body _ _ _) rfl (by first | exact .inl rfl | exact .inr ⟨_, _, rfl, rfl⟩) (by intro _ hK; first | (obtain ⟨_, _, _, _, rfl⟩ := hK; exact ⟨rfl, fun _ h => h⟩) | (obtain ⟨_, _, rfl⟩ := hK; exact ⟨rfl, fun _ h => h⟩) | (obtain ⟨_, _, _, _, _, _, rfl⟩ := hK; exact ⟨rfl, fun _ h => List.mem_cons_of_mem _ h⟩) | (obtain ⟨_, _, _, _, _, _, _, rfl⟩ := hK; exact ⟨rfl, fun _ h => List.mem_cons_of_mem _ h⟩) | (obtain rfl := hK; exact ⟨rfl, fun _ h => h⟩)) ?_
          rintro _ ⟨_, G6, rfl, hn6, rfl⟩
          have q : decide (putErr d (j : Int) bs.length = 0) = false := decide_eq_false he
          have hl16 : G1.Le G6 := hn6.le G1 (by simp)
          clear hn6
          simp only [go_sem, Nat.reduceAdd, Nat.reduceSub, Nat.reduceMul, Nat.reduceEqDiff, Nat.reduceLT, Nat.reduceLeDiff, Nat.reduceBEq, Nat.reduceBNe, Int.reduceLT, Int.reduceLE, Int.reduceEq, Int.reduceAdd, Int.reduceSub, Int.reduceNeg, decide_true, decide_false, Bool.not_true, Bool.not_false, cond_true, cond_false, beq_self_eq_true, and_self, ne_eq, not_true_eq_false, not_false_eq_true, reduceCtorEq, Bool.true_beq, Bool.false_beq, q]
          exact ⟨by omega, again_ok (v + 1, d, (B1, m1), (B2, m2), (B3, m3), G6) ⟨⟨by omega, by omega, Nat.le_succ_of_le hvc⟩, ScR.mono hl1 rawG_mono hl16, hgd, hf, hd1.mono hl16⟩ (by simp only; omega) (by simp only [go_sem, Nat.reduceAdd, Nat.reduceSub, Nat.reduceMul, Nat.reduceEqDiff, Nat.reduceLT, Nat.reduceLeDiff, Nat.reduceBEq, Nat.reduceBNe, Int.reduceLT, Int.reduceLE, Int.reduceEq, Int.reduceAdd, Int.reduceSub, Int.reduceNeg, decide_true, decide_false, Bool.not_true, Bool.not_false, cond_true, cond_false, beq_self_eq_true, and_self, ne_eq, not_true_eq_false, not_false_eq_true, reduceCtorEq, Bool.true_beq, Bool.false_beq]; simp)⟩
      have r0 : decide ((k : Int) = 0) = false := decide_eq_false (by omega)
      by_cases k1 : k = 1
      · have r1 : decide ((k : Int) = 1) = true := decide_eq_true (by omega)
        simp only [go_sem, Nat.reduceAdd, Nat.reduceSub, Nat.reduceMul, Nat.reduceEqDiff, Nat.reduceLT, Nat.reduceLeDiff, Nat.reduceBEq, Nat.reduceBNe, Int.reduceLT, Int.reduceLE, Int.reduceEq, Int.reduceAdd, Int.reduceSub, Int.reduceNeg, decide_true, decide_false, Bool.not_true, Bool.not_false, cond_true, cond_false, beq_self_eq_true, and_self, ne_eq, not_true_eq_false, not_false_eq_true, reduceCtorEq, Bool.true_beq, Bool.false_beq, r0, r1]
        refine draw_ok (N := 3000) (.take 0 (.take 1 (.take 2 (.take 3 (.take 4 (.take 5 (.take 6 (.take 8 (.alt 7 (.alt 9 (.take 10 (.take 11 (.take 12 (.alt 13 (.take 14 .done) .last)))) .last) .last))))))))) [5] (QOk_body _ _ _) follows_mixed (by kernel_rfl) (by kernel_rfl) ?_
        simp only [go_sem, Nat.reduceAdd, Nat.reduceSub, Nat.reduceMul, Nat.reduceEqDiff, Nat.reduceLT, Nat.reduceLeDiff, Nat.reduceBEq, Nat.reduceBNe, Int.reduceLT, Int.reduceLE, Int.reduceEq, Int.reduceAdd, Int.reduceSub, Int.reduceNeg, decide_true, decide_false, Bool.not_true, Bool.not_false, cond_true, cond_false, beq_self_eq_true, and_self, ne_eq, not_true_eq_false, not_false_eq_true, reduceCtorEq, Bool.true_beq, Bool.false_beq]
        refine any_ok2 (N := 3000) (call_does (fun v _ => ∃ j : Nat, (j : Int) = pick x.a (d.safe.length : Int) ∧ (j : Int) < (d.safe.length : Int) ∧ v = .int .i64 (j : Int)) rfl rfl (by kernel_rfl) rfl (by simp only [dOk_some, dOk_none, Nat.reduceLT]) (fun G hG => picked_does b3 b4 (by omega) (by omega))) (QOk_body _ _ _) rfl (by first | exact .inl rfl | exact .inr ⟨_, _, rfl, rfl⟩) (by intro _ hK; first | (obtain ⟨_, _, _, _, rfl⟩ := hK; exact ⟨rfl, fun _ h => h⟩) | (obtain ⟨_, _, rfl⟩ := hK; exact ⟨rfl, fun _ h => h⟩) | (obtain ⟨_, _, _, _, _, _, rfl⟩ := hK; exact ⟨rfl, fun _ h => List.mem_cons_of_mem _ h⟩) | (obtain ⟨_, _, _, _, _, _, _, rfl⟩ := hK; exact ⟨rfl, fun _ h => List.mem_cons_of_mem _ h⟩) | (obtain rfl := hK; exact ⟨rfl, fun _ h => h⟩)) ?_
        rintro _ ⟨_, G5, ⟨j, _, hj, rfl⟩, hn5, rfl⟩
        clear hn5
        simp only [go_sem, Nat.reduceAdd, Nat.reduceSub, Nat.reduceMul, Nat.reduceEqDiff, Nat.reduceLT, Nat.reduceLeDiff, Nat.reduceBEq, Nat.reduceBNe, Int.reduceLT, Int.reduceLE, Int.reduceEq, Int.reduceAdd, Int.reduceSub, Int.reduceNeg, decide_true, decide_false, Bool.not_true, Bool.not_false, cond_true, cond_false, beq_self_eq_true, and_self, ne_eq, not_true_eq_false, not_false_eq_true, reduceCtorEq, Bool.true_beq, Bool.false_beq]
        by_cases he : putErr d (j : Int) bs.length = 0
        · refine any_ok2 (N := 3000) (call_does (fun v G => ∃ dv, v = .tuple #[dv, .int .i64 0] ∧ DevG G dv (putDev d (j : Int) bs)) rfl rfl (by kernel_rfl) rfl (by simp only [dOk_some, dOk_none, Nat.reduceLT]) (fun G hG => ret_mono (put_does (n := (j : Int)) (bs := bs) hg hgd hG.wf (tidB hG (fun _ h => h) hTb hW rfl rfl (by simp) (by simp; decide)) (hd1.mono (hG.le G1 (by simp))) (ByG.mono hby (hG.le G3 (by simp)))) fun v G' _ h => dev_get h he)) (QOk_body _ _ _) rfl (by first | exact .inl rfl | exact .inr ⟨_, _, rfl, rfl⟩) (by intro _ hK; first | (obtain ⟨_, _, _, _, rfl⟩ := hK; exact ⟨rfl, fun _ h => h⟩) | (obtain ⟨_, _, rfl⟩ := hK; exact ⟨rfl, fun _ h => h⟩) | (obtain ⟨_, _, _, _, _, _, rfl⟩ := hK; exact ⟨rfl, fun _ h => List.mem_cons_of_mem _ h⟩) | (obtain ⟨_, _, _, _, _, _, _, rfl⟩ := hK; exact ⟨rfl, fun _ h => List.mem_cons_of_mem _ h⟩) | (obtain rfl := hK; exact ⟨rfl, fun _ h => h⟩)) ?_
          rintro _ ⟨_, G6, ⟨dv, rfl, hd2⟩, hn6, rfl⟩
          have hg2 := good_put hgd he
          have hf2 : (putDev d (j : Int) bs).fuel = -1 := spent_fuel1 hf
          have hc2 : (putDev d (j : Int) bs).cache.length ≤ v + 1 := by simp [putDev]; omega
          generalize putDev d (j : Int) bs = d2 at hd2 hg2 hf2 hc2
          have hl16 : G1.Le G6 := hn6.le G1 (by simp)
          clear hn6
          obtain ⟨C1, n1, C2, n2, C3, n3, rfl, hfo⟩ := hd2.form
          clear hfo
          simp only [go_sem, Nat.reduceAdd, Nat.reduceSub, Nat.reduceMul, Nat.reduceEqDiff, Nat.reduceLT, Nat.reduceLeDiff, Nat.reduceBEq, Nat.reduceBNe, Int.reduceLT, Int.reduceLE, Int.reduceEq, Int.reduceAdd, Int.reduceSub, Int.reduceNeg, decide_true, decide_false, Bool.not_true, Bool.not_false, cond_true, cond_false, beq_self_eq_true, and_self, ne_eq, not_true_eq_false, not_false_eq_true, reduceCtorEq, Bool.true_beq, Bool.false_beq]
          exact ⟨by omega, again_ok (v + 1, d2, (C1, n1), (C2, n2), (C3, n3), G6) ⟨⟨by omega, by omega, hc2⟩, ScR.mono hl1 rawG_mono hl16, hg2, hf2, hd2⟩ (by simp only; omega) (by simp only [go_sem, Nat.reduceAdd, Nat.reduceSub, Nat.reduceMul, Nat.reduceEqDiff, Nat.reduceLT, Nat.reduceLeDiff, Nat.reduceBEq, Nat.reduceBNe, Int.reduceLT, Int.reduceLE, Int.reduceEq, Int.reduceAdd, Int.reduceSub, Int.reduceNeg, decide_true, decide_false, Bool.not_true, Bool.not_false, cond_true, cond_false, beq_self_eq_true, and_self, ne_eq, not_true_eq_false, not_false_eq_true, reduceCtorEq, Bool.true_beq, Bool.false_beq]; simp)⟩
        · refine any_ok2 (N := 3000) (call_does (fun v G => v = .tuple #[.agg #[.slice none 0 0, .slice none 0 0, .slice none 0 0, .int .i64 0], .int .i64 (putErr d (j : Int) bs.length)]) rfl rfl (by kernel_rfl) rfl (by simp only [dOk_some, dOk_none, Nat.reduceLT]) (fun G hG => ret_mono (put_does (n := (j : Int)) (bs := bs) hg hgd hG.wf (tidB hG (fun _ h => h) hTb hW rfl rfl (by simp) (by simp; decide)) (hd1.mono (hG.le G1 (by simp))) (ByG.mono hby (hG.le G3 (by simp)))) fun v G' _ h => dev_bad h rfl he)) (QOk_body _ _ _) rfl (by first | exact .inl rfl | exact .inr ⟨_, _, rfl, rfl⟩) (by intro _ hK; first | (obtain ⟨_, _, _, _, rfl⟩ := hK; exact ⟨rfl, fun _ h => h⟩) | (obtain ⟨_, _, rfl⟩ := hK; exact ⟨rfl, fun _ h => h⟩) | (obtain ⟨_, _, _, _, _, _, rfl⟩ := hK; exact ⟨rfl, fun _ h => List.mem_cons_of_mem _ h⟩) | (obtain ⟨_, _, _, _, _, _, _, rfl⟩ := hK; exact ⟨rfl, fun _ h => List.mem_cons_of_mem _ h⟩) | (obtain rfl := hK; exact ⟨rfl, fun _ h => h⟩)) ?_
          rintro _ ⟨_, G6, rfl, hn6, rfl⟩
          have q : decide (putErr d (j : Int) bs.length = 0) = false := decide_eq_false he
          have hl16 : G1.Le G6 := hn6.le G1 (by simp)
          clear hn6
          simp only [go_sem, Nat.reduceAdd, Nat.reduceSub, Nat.reduceMul, Nat.reduceEqDiff, Nat.reduceLT, Nat.reduceLeDiff, Nat.reduceBEq, Nat.reduceBNe, Int.reduceLT, Int.reduceLE, Int.reduceEq, Int.reduceAdd, Int.reduceSub, Int.reduceNeg, decide_true, decide_false, Bool.not_true, Bool.not_false, cond_true, cond_false, beq_self_eq_true, and_self, ne_eq, not_true_eq_false, not_false_eq_true, reduceCtorEq, Bool.true_beq, Bool.false_beq, q]
          exact ⟨by omega, again_ok (v + 1, d, (B1, m1), (B2, m2), (B3, m3), G6) ⟨⟨by omega, by omega, Nat.le_succ_of_le hvc⟩, ScR.mono hl1 rawG_mono hl16, hgd, hf, hd1.mono hl16⟩ (by simp only; omega) (by simp only [go_sem, Nat.reduceAdd, Nat.reduceSub, Nat.reduceMul, Nat.reduceEqDiff, Nat.reduceLT, Nat.reduceLeDiff, Nat.reduceBEq, Nat.reduceBNe, Int.reduceLT, Int.reduceLE, Int.reduceEq, Int.reduceAdd, Int.reduceSub, Int.reduceNeg, decide_true, decide_false, Bool.not_true, Bool.not_false, cond_true, cond_false, beq_self_eq_true, and_self, ne_eq, not_true_eq_false, not_false_eq_true, reduceCtorEq, Bool.true_beq, Bool.false_beq]; simp)⟩
      have r1 : decide ((k : Int) = 1) = false := decide_eq_false (by omega)
      by_cases k2 : k = 2
      · have r2 : decide ((k : Int) = 2) = true := decide_eq_true (by omega)
        simp only [go_sem, Nat.reduceAdd, Nat.reduceSub, Nat.reduceMul, Nat.reduceEqDiff, Nat.reduceLT, Nat.reduceLeDiff, Nat.reduceBEq, Nat.reduceBNe, Int.reduceLT, Int.reduceLE, Int.reduceEq, Int.reduceAdd, Int.reduceSub, Int.reduceNeg, decide_true, decide_false, Bool.not_true, Bool.not_false, cond_true, cond_false, beq_self_eq_true, and_self, ne_eq, not_true_eq_false, not_false_eq_true, reduceCtorEq, Bool.true_beq, Bool.false_beq, r0, r1, r2]
        refine draw_ok (N := 3000) (.take 0 (.take 1 (.take 2 (.take 3 (.take 4 (.take 5 (.take 6 (.take 8 (.alt 7 (.alt 9 (.take 10 (.take 11 (.take 12 (.alt 13 (.take 14 .done) .last)))) .last) .last))))))))) [5] (QOk_body _ _ _) follows_mixed (by kernel_rfl) (by kernel_rfl) ?_
        simp only [go_sem, Nat.reduceAdd, Nat.reduceSub, Nat.reduceMul, Nat.reduceEqDiff, Nat.reduceLT, Nat.reduceLeDiff, Nat.reduceBEq, Nat.reduceBNe, Int.reduceLT, Int.reduceLE, Int.reduceEq, Int.reduceAdd, Int.reduceSub, Int.reduceNeg, decide_true, decide_false, Bool.not_true, Bool.not_false, cond_true, cond_false, beq_self_eq_true, and_self, ne_eq, not_true_eq_false, not_false_eq_true, reduceCtorEq, Bool.true_beq, Bool.false_beq]
        refine any_ok2 (N := 3000) (call_does (fun v _ => ∃ j : Nat, (j : Int) = pick x.a (d.safe.length : Int) ∧ (j : Int) < (d.safe.length : Int) ∧ v = .int .i64 (j : Int)) rfl rfl (by kernel_rfl) rfl (by simp only [dOk_some, dOk_none, Nat.reduceLT]) (fun G hG => picked_does b3 b4 (by omega) (by omega))) (QOk_body _ _ _) rfl (by first | exact .inl rfl | exact .inr ⟨_, _, rfl, rfl⟩) (by intro _ hK; first | (obtain ⟨_, _, _, _, rfl⟩ := hK; exact ⟨rfl, fun _ h => h⟩) | (obtain ⟨_, _, rfl⟩ := hK; exact ⟨rfl, fun _ h => h⟩) | (obtain ⟨_, _, _, _, _, _, rfl⟩ := hK; exact ⟨rfl, fun _ h => List.mem_cons_of_mem _ h⟩) | (obtain ⟨_, _, _, _, _, _, _, rfl⟩ := hK; exact ⟨rfl, fun _ h => List.mem_cons_of_mem _ h⟩) | (obtain rfl := hK; exact ⟨rfl, fun _ h => h⟩)) ?_
        rintro _ ⟨_, G5, ⟨j, _, hj, rfl⟩, hn5, rfl⟩
        clear hn5
        simp only [go_sem, Nat.reduceAdd, Nat.reduceSub, Nat.reduceMul, Nat.reduceEqDiff, Nat.reduceLT, Nat.reduceLeDiff, Nat.reduceBEq, Nat.reduceBNe, Int.reduceLT, Int.reduceLE, Int.reduceEq, Int.reduceAdd, Int.reduceSub, Int.reduceNeg, decide_true, decide_false, Bool.not_true, Bool.not_false, cond_true, cond_false, beq_self_eq_true, and_self, ne_eq, not_true_eq_false, not_false_eq_true, reduceCtorEq, Bool.true_beq, Bool.false_beq]
        by_cases he : putErr d (j : Int) bs.length = 0
        · refine any_ok2 (N := 3000) (call_does (fun v G => ∃ dv, v = .tuple #[dv, .int .i64 0] ∧ DevG G dv (putDev d (j : Int) bs)) rfl rfl (by kernel_rfl) rfl (by simp only [dOk_some, dOk_none, Nat.reduceLT]) (fun G hG => ret_mono (put_does (n := (j : Int)) (bs := bs) hg hgd hG.wf (tidB hG (fun _ h => h) hTb hW rfl rfl (by simp) (by simp; decide)) (hd1.mono (hG.le G1 (by simp))) (ByG.mono hby (hG.le G3 (by simp)))) fun v G' _ h => dev_get h he)) (QOk_body _ _ _) rfl (by first | exact .inl rfl | exact .inr ⟨_, _, rfl, rfl⟩) (by intro _ hK; first | (obtain ⟨_, _, _, _, rfl⟩ := hK; exact ⟨rfl, fun _ h => h⟩) | (obtain ⟨_, _, rfl⟩ := hK; exact ⟨rfl, fun _ h => h⟩) | (obtain ⟨_, _, _, _, _, _, rfl⟩ := hK; exact ⟨rfl, fun _ h => List.mem_cons_of_mem _ h⟩) | (obtain ⟨_, _, _, _, _, _, _, rfl⟩ := hK; exact ⟨rfl, fun _ h => List.mem_cons_of_mem _ h⟩) | (obtain rfl := hK; exact ⟨rfl, fun _ h => h⟩)) ?_
          rintro _ ⟨_, G6, ⟨dv, rfl, hd2⟩, hn6, rfl⟩
          have hg2 := good_put hgd he
          have hf2 : (putDev d (j : Int) bs).fuel = -1 := spent_fuel1 hf
          have hc2 : (putDev d (j : Int) bs).cache.length ≤ v + 1 := by simp [putDev]; omega
          generalize putDev d (j : Int) bs = d2 at hd2 hg2 hf2 hc2
          have hl16 : G1.Le G6 := hn6.le G1 (by simp)
          clear hn6
          obtain ⟨C1, n1, C2, n2, C3, n3, rfl, hfo⟩ := hd2.form
          clear hfo
          simp only [go_sem, Nat.reduceAdd, Nat.reduceSub, Nat.reduceMul, Nat.reduceEqDiff, Nat.reduceLT, Nat.reduceLeDiff, Nat.reduceBEq, Nat.reduceBNe, Int.reduceLT, Int.reduceLE, Int.reduceEq, Int.reduceAdd, Int.reduceSub, Int.reduceNeg, decide_true, decide_false, Bool.not_true, Bool.not_false, cond_true, cond_false, beq_self_eq_true, and_self, ne_eq, not_true_eq_false, not_false_eq_true, reduceCtorEq, Bool.true_beq, Bool.false_beq]
          exact ⟨by omega, again_ok (v + 1, d2, (C1, n1), (C2, n2), (C3, n3), G6) ⟨⟨by omega, by omega, hc2⟩, ScR.mono hl1 rawG_mono hl16, hg2, hf2, hd2⟩ (by simp only; omega) (by simp only [go_sem, Nat.reduceAdd, Nat.reduceSub, Nat.reduceMul, Nat.reduceEqDiff, Nat.reduceLT, Nat.reduceLeDiff, Nat.reduceBEq, Nat.reduceBNe, Int.reduceLT, Int.reduceLE, Int.reduceEq, Int.reduceAdd, Int.reduceSub, Int.reduceNeg, decide_true, decide_false, Bool.not_true, Bool.not_false, cond_true, cond_false, beq_self_eq_true, and_self, ne_eq, not_true_eq_false, not_false_eq_true, reduceCtorEq, Bool.true_beq, Bool.false_beq]; simp)⟩
        · refine any_ok2 (N := 3000) (call_does (fun v G => v = .tuple #[.agg #[.slice none 0 0, .slice none 0 0, .slice none 0 0, .int .i64 0], .int .i64 (putErr d (j : Int) bs.length)]) rfl rfl (by kernel_rfl) rfl (by simp only [dOk_some, dOk_none, Nat.reduceLT]) (fun G hG => ret_mono (put_does (n := (j : Int)) (bs := bs) hg hgd hG.wf (tidB hG (fun _ h => h) hTb hW rfl rfl (by simp) (by simp; decide)) (hd1.mono (hG.le G1 (by simp))) (ByG.mono hby (hG.le G3 (by simp)))) fun v G' _ h => dev_bad h rfl he)) (QOk_body _ _ _) rfl (by first | exact .inl rfl | exact .inr ⟨_, _, rfl, rfl⟩) (by intro _ hK; first | (obtain ⟨_, _, _, _, rfl⟩ := hK; exact ⟨rfl, fun _ h => h⟩) | (obtain ⟨_, _, rfl⟩ := hK; exact ⟨rfl, fun _ h => h⟩) | (obtain ⟨_, _, _, _, _, _, rfl⟩ := hK; exact ⟨rfl, fun _ h => List.mem_cons_of_mem _ h⟩) | (obtain ⟨_, _, _, _, _, _, _, rfl⟩ := hK; exact ⟨rfl, fun _ h => List.mem_cons_of_mem _ h⟩) | (obtain rfl := hK; exact ⟨rfl, fun _ h => h⟩)) ?_
          rintro _ ⟨_, G6, rfl, hn6, rfl⟩
          have q : decide (putErr d (j : Int) bs.length = 0) = false := decide_eq_false he
          have hl16 : G1.Le G6 := hn6.le G1 (by simp)
          clear hn6
          simp only [go_sem, Nat.reduceAdd, Nat.reduceSub, Nat.reduceMul, Nat.reduceEqDiff, Nat.reduceLT, Nat.reduceLeDiff, Nat.reduceBEq, Nat.reduceBNe, Int.reduceLT, Int.reduceLE, Int.reduceEq, Int.reduceAdd, Int.reduceSub, Int.reduceNeg, decide_true, decide_false, Bool.not_true, Bool.not_false, cond_true, cond_false, beq_self_eq_true, and_self, ne_eq, not_true_eq_false, not_false_eq_true, reduceCtorEq, Bool.true_beq, Bool.false_beq, q]
          exact ⟨by omega, again_ok (v + 1, d, (B1, m1), (B2, m2), (B3, m3), G6) ⟨⟨by omega, by omega, Nat.le_succ_of_le hvc⟩, ScR.mono hl1 rawG_mono hl16, hgd, hf, hd1.mono hl16⟩ (by simp only; omega) (by simp only [go_sem, Nat.reduceAdd, Nat.reduceSub, Nat.reduceMul, Nat.reduceEqDiff, Nat.reduceLT, Nat.reduceLeDiff, Nat.reduceBEq, Nat.reduceBNe, Int.reduceLT, Int.reduceLE, Int.reduceEq, Int.reduceAdd, Int.reduceSub, Int.reduceNeg, decide_true, decide_false, Bool.not_true, Bool.not_false, cond_true, cond_false, beq_self_eq_true, and_self, ne_eq, not_true_eq_false, not_false_eq_true, reduceCtorEq, Bool.true_beq, Bool.false_beq]; simp)⟩
      have r2 : decide ((k : Int) = 2) = false := decide_eq_false (by omega)
      have hdn : downErr d = 0 := by unfold downErr; rw [if_neg (by omega)]
      by_cases k3 : k = 3
      · have r3 : decide ((k : Int) = 3) = true := decide_eq_true (by omega)
        simp only [go_sem, Nat.reduceAdd, Nat.reduceSub, Nat.reduceMul, Nat.reduceEqDiff, Nat.reduceLT, Nat.reduceLeDiff, Nat.reduceBEq, Nat.reduceBNe, Int.reduceLT, Int.reduceLE, Int.reduceEq, Int.reduceAdd, Int.reduceSub, Int.reduceNeg, decide_true, decide_false, Bool.not_true, Bool.not_false, cond_true, cond_false, beq_self_eq_true, and_self, ne_eq, not_true_eq_false, not_false_eq_true, reduceCtorEq, Bool.true_beq, Bool.false_beq, r0, r1, r2, r3]
        refine plain_ok (N := 3000) (call_does (fun v G => ∃ dv, v = .tuple #[dv, .int .i64 0] ∧ DevG G dv (flushDev d)) rfl rfl (by kernel_rfl) rfl (by simp only [dOk_some, dOk_none, Nat.reduceLT]) (fun G hG => ret_mono (flush_does hg hgd hG.wf (tidB hG (fun _ h => h) hTb hW rfl rfl (by simp) (by simp; decide)) (hd1.mono (hG.le G1 (by simp)))) fun v G' _ h => dev_get h hdn)) (QOk_body _ _ _) (by first | exact .inl rfl | exact .inr ⟨_, _, rfl, rfl⟩) ?_
        rintro _ ⟨_, G6, ⟨dv, rfl, hd2⟩, hn6, rfl⟩
        have hg2 := good_flush hgd
        have hf2 : (flushDev d).fuel = -1 := spent_fuel1 hf
        have hc2 : (flushDev d).cache.length ≤ v + 1 := by simp [flushDev]
        generalize flushDev d = d2 at hd2 hg2 hf2 hc2
        have hl16 : G1.Le G6 := hn6.le G1 (by simp)
        clear hn6
        obtain ⟨C1, n1, C2, n2, C3, n3, rfl, hfo⟩ := hd2.form
        clear hfo
        simp only [go_sem, Nat.reduceAdd, Nat.reduceSub, Nat.reduceMul, Nat.reduceEqDiff, Nat.reduceLT, Nat.reduceLeDiff, Nat.reduceBEq, Nat.reduceBNe, Int.reduceLT, Int.reduceLE, Int.reduceEq, Int.reduceAdd, Int.reduceSub, Int.reduceNeg, decide_true, decide_false, Bool.not_true, Bool.not_false, cond_true, cond_false, beq_self_eq_true, and_self, ne_eq, not_true_eq_false, not_false_eq_true, reduceCtorEq, Bool.true_beq, Bool.false_beq]
        exact ⟨by omega, again_ok (v + 1, d2, (C1, n1), (C2, n2), (C3, n3), G6) ⟨⟨by omega, by omega, hc2⟩, ScR.mono hl1 rawG_mono hl16, hg2, hf2, hd2⟩ (by simp only; omega) (by simp only [go_sem, Nat.reduceAdd, Nat.reduceSub, Nat.reduceMul, Nat.reduceEqDiff, Nat.reduceLT, Nat.reduceLeDiff, Nat.reduceBEq, Nat.reduceBNe, Int.reduceLT, Int.reduceLE, Int.reduceEq, Int.reduceAdd, Int.reduceSub, Int.reduceNeg, decide_true, decide_false, Bool.not_true, Bool.not_false, cond_true, cond_false, beq_self_eq_true, and_self, ne_eq, not_true_eq_false, not_false_eq_true, reduceCtorEq, Bool.true_beq, Bool.false_beq]; simp)⟩
      have r3 : decide ((k : Int) = 3) = false := decide_eq_false (by omega)
      by_cases k4 : k = 4
      · have r4 : decide ((k : Int) = 4) = true := decide_eq_true (by omega)
        have hmany := hgd.many
        have hn8 := hg.n2
        simp only [go_sem, Nat.reduceAdd, Nat.reduceSub, Nat.reduceMul, Nat.reduceEqDiff, Nat.reduceLT, Nat.reduceLeDiff, Nat.reduceBEq, Nat.reduceBNe, Int.reduceLT, Int.reduceLE, Int.reduceEq, Int.reduceAdd, Int.reduceSub, Int.reduceNeg, decide_true, decide_false, Bool.not_true, Bool.not_false, cond_true, cond_false, beq_self_eq_true, and_self, ne_eq, not_true_eq_false, not_false_eq_true, reduceCtorEq, Bool.true_beq, Bool.false_beq, r0, r1, r2, r3, r4]
        refine draw_ok (N := 3000) (.take 0 (.take 1 (.take 2 (.take 3 (.take 4 (.take 5 (.take 6 (.take 7 (.take 9 (.alt 8 (.alt 10 (.take 11 (.take 12 (.take 13 (.alt 14 (.take 15 .done) .last)))) .last) .last)))))))))) [5] (QOk_body _ _ _) follows_mixed (by kernel_rfl) (by kernel_rfl) ?_
        simp only [go_sem, Nat.reduceAdd, Nat.reduceSub, Nat.reduceMul, Nat.reduceEqDiff, Nat.reduceLT, Nat.reduceLeDiff, Nat.reduceBEq, Nat.reduceBNe, Int.reduceLT, Int.reduceLE, Int.reduceEq, Int.reduceAdd, Int.reduceSub, Int.reduceNeg, decide_true, decide_false, Bool.not_true, Bool.not_false, cond_true, cond_false, beq_self_eq_true, and_self, ne_eq, not_true_eq_false, not_false_eq_true, reduceCtorEq, Bool.true_beq, Bool.false_beq]
        refine ⟨by omega, ?_⟩
        refine any_ok2 (N := 3000) (call_does (fun v _ => ∃ j : Nat, (j : Int) = pick x.a ((d.vols.length : Int) + 1) ∧ (j : Int) < (d.vols.length : Int) + 1 ∧ v = .int .i64 (j : Int)) rfl rfl (by kernel_rfl) rfl (by simp only [dOk_some, dOk_none, Nat.reduceLT]) (fun G hG => picked_does b3 b4 (by omega) (by omega))) (QOk_body _ _ _) rfl (by first | exact .inl rfl | exact .inr ⟨_, _, rfl, rfl⟩) (by intro _ hK; first | (obtain ⟨_, _, _, _, rfl⟩ := hK; exact ⟨rfl, fun _ h => h⟩) | (obtain ⟨_, _, rfl⟩ := hK; exact ⟨rfl, fun _ h => h⟩) | (obtain ⟨_, _, _, _, _, _, rfl⟩ := hK; exact ⟨rfl, fun _ h => List.mem_cons_of_mem _ h⟩) | (obtain ⟨_, _, _, _, _, _, _, rfl⟩ := hK; exact ⟨rfl, fun _ h => List.mem_cons_of_mem _ h⟩) | (obtain rfl := hK; exact ⟨rfl, fun _ h => h⟩)) ?_
        rintro _ ⟨_, G5, ⟨j, _, hj, rfl⟩, hn5, rfl⟩
        clear hn5
        simp only [go_sem, Nat.reduceAdd, Nat.reduceSub, Nat.reduceMul, Nat.reduceEqDiff, Nat.reduceLT, Nat.reduceLeDiff, Nat.reduceBEq, Nat.reduceBNe, Int.reduceLT, Int.reduceLE, Int.reduceEq, Int.reduceAdd, Int.reduceSub, Int.reduceNeg, decide_true, decide_false, Bool.not_true, Bool.not_false, cond_true, cond_false, beq_self_eq_true, and_self, ne_eq, not_true_eq_false, not_false_eq_true, reduceCtorEq, Bool.true_beq, Bool.false_beq]
        by_cases he : appErr g d (j : Int) bs.length = 0
        · refine any_ok2 (N := 3000) (call_does (fun v G => ∃ dv, v = .tuple #[dv, .int .i64 0] ∧ DevG G dv (appDev g d (j : Int) bs)) rfl rfl (by kernel_rfl) rfl (by simp only [dOk_some, dOk_none, Nat.reduceLT]) (fun G hG => ret_mono (append_does' (v := (j : Int)) (bs := bs) hg hgd (by omega) hG.wf (tidB hG (fun _ h => h) hTb hW rfl rfl (by simp) (by simp; decide)) (hd1.mono (hG.le G1 (by simp))) (ByG.mono hby (hG.le G3 (by simp)))) fun v G' _ h => dev_get h he)) (QOk_body _ _ _) rfl (by first | exact .inl rfl | exact .inr ⟨_, _, rfl, rfl⟩) (by intro _ hK; first | (obtain ⟨_, _, _, _, rfl⟩ := hK; exact ⟨rfl, fun _ h => h⟩) | (obtain ⟨_, _, rfl⟩ := hK; exact ⟨rfl, fun _ h => h⟩) | (obtain ⟨_, _, _, _, _, _, rfl⟩ := hK; exact ⟨rfl, fun _ h => List.mem_cons_of_mem _ h⟩) | (obtain ⟨_, _, _, _, _, _, _, rfl⟩ := hK; exact ⟨rfl, fun _ h => List.mem_cons_of_mem _ h⟩) | (obtain rfl := hK; exact ⟨rfl, fun _ h => h⟩)) ?_
          rintro _ ⟨_, G6, ⟨dv, rfl, hd2⟩, hn6, rfl⟩
          have hg2 := good_app hgd he
          have hf2 : (appDev g d (j : Int) bs).fuel = -1 := app_fuel hf
          have hc2 : (appDev g d (j : Int) bs).cache.length ≤ v + 1 := by rw [app_cache]; omega
          generalize appDev g d (j : Int) bs = d2 at hd2 hg2 hf2 hc2
          have hl16 : G1.Le G6 := hn6.le G1 (by simp)
          clear hn6
          obtain ⟨C1, n1, C2, n2, C3, n3, rfl, hfo⟩ := hd2.form
          clear hfo
          simp only [go_sem, Nat.reduceAdd, Nat.reduceSub, Nat.reduceMul, Nat.reduceEqDiff, Nat.reduceLT, Nat.reduceLeDiff, Nat.reduceBEq, Nat.reduceBNe, Int.reduceLT, Int.reduceLE, Int.reduceEq, Int.reduceAdd, Int.reduceSub, Int.reduceNeg, decide_true, decide_false, Bool.not_true, Bool.not_false, cond_true, cond_false, beq_self_eq_true, and_self, ne_eq, not_true_eq_false, not_false_eq_true, reduceCtorEq, Bool.true_beq, Bool.false_beq]
          exact ⟨by omega, again_ok (v + 1, d2, (C1, n1), (C2, n2), (C3, n3), G6) ⟨⟨by omega, by omega, hc2⟩, ScR.mono hl1 rawG_mono hl16, hg2, hf2, hd2⟩ (by simp only; omega) (by simp only [go_sem, Nat.reduceAdd, Nat.reduceSub, Nat.reduceMul, Nat.reduceEqDiff, Nat.reduceLT, Nat.reduceLeDiff, Nat.reduceBEq, Nat.reduceBNe, Int.reduceLT, Int.reduceLE, Int.reduceEq, Int.reduceAdd, Int.reduceSub, Int.reduceNeg, decide_true, decide_false, Bool.not_true, Bool.not_false, cond_true, cond_false, beq_self_eq_true, and_self, ne_eq, not_true_eq_false, not_false_eq_true, reduceCtorEq, Bool.true_beq, Bool.false_beq]; simp)⟩
        · refine any_ok2 (N := 3000) (call_does (fun v G => v = .tuple #[.agg #[.slice none 0 0, .slice none 0 0, .slice none 0 0, .int .i64 0], .int .i64 (appErr g d (j : Int) bs.length)]) rfl rfl (by kernel_rfl) rfl (by simp only [dOk_some, dOk_none, Nat.reduceLT]) (fun G hG => ret_mono (append_does' (v := (j : Int)) (bs := bs) hg hgd (by omega) hG.wf (tidB hG (fun _ h => h) hTb hW rfl rfl (by simp) (by simp; decide)) (hd1.mono (hG.le G1 (by simp))) (ByG.mono hby (hG.le G3 (by simp)))) fun v G' _ h => dev_bad h rfl he)) (QOk_body _ _ _) rfl (by first | exact .inl rfl | exact .inr ⟨_, _, rfl, rfl⟩) (by intro _ hK; first | (obtain ⟨_, _, _, _, rfl⟩ := hK; exact ⟨rfl, fun _ h => h⟩) | (obtain ⟨_, _, rfl⟩ := hK; exact ⟨rfl, fun _ h => h⟩) | (obtain ⟨_, _, _, _, _, _, rfl⟩ := hK; exact ⟨rfl, fun _ h => List.mem_cons_of_mem _ h⟩) | (obtain ⟨_, _, _, _, _, _, _, rfl⟩ := hK; exact ⟨rfl, fun _ h => List.mem_cons_of_mem _ h⟩) | (obtain rfl := hK; exact ⟨rfl, fun _ h => h⟩)) ?_
          rintro _ ⟨_, G6, rfl, hn6, rfl⟩
          have q : decide (appErr g d (j : Int) bs.length = 0) = false := decide_eq_false he
          have hl16 : G1.Le G6 := hn6.le G1 (by simp)
          clear hn6
          simp only [go_sem, Nat.reduceAdd, Nat.reduceSub, Nat.reduceMul, Nat.reduceEqDiff, Nat.reduceLT, Nat.reduceLeDiff, Nat.reduceBEq, Nat.reduceBNe, Int.reduceLT, Int.reduceLE, Int.reduceEq, Int.reduceAdd, Int.reduceSub, Int.reduceNeg, decide_true, decide_false, Bool.not_true, Bool.not_false, cond_true, cond_false, beq_self_eq_true, and_self, ne_eq, not_true_eq_false, not_false_eq_true, reduceCtorEq, Bool.true_beq, Bool.false_beq, q]
          exact ⟨by omega, again_ok (v + 1, d, (B1, m1), (B2, m2), (B3, m3), G6) ⟨⟨by omega, by omega, Nat.le_succ_of_le hvc⟩, ScR.mono hl1 rawG_mono hl16, hgd, hf, hd1.mono hl16⟩ (by simp only; omega) (by simp only [go_sem, Nat.reduceAdd, Nat.reduceSub, Nat.reduceMul, Nat.reduceEqDiff, Nat.reduceLT, Nat.reduceLeDiff, Nat.reduceBEq, Nat.reduceBNe, Int.reduceLT, Int.reduceLE, Int.reduceEq, Int.reduceAdd, Int.reduceSub, Int.reduceNeg, decide_true, decide_false, Bool.not_true, Bool.not_false, cond_true, cond_false, beq_self_eq_true, and_self, ne_eq, not_true_eq_false, not_false_eq_true, reduceCtorEq, Bool.true_beq, Bool.false_beq]; simp)⟩
      have r4 : decide ((k : Int) = 4) = false := decide_eq_false (by omega)
      simp only [go_sem, Nat.reduceAdd, Nat.reduceSub, Nat.reduceMul, Nat.reduceEqDiff, Nat.reduceLT, Nat.reduceLeDiff, Nat.reduceBEq, Nat.reduceBNe, Int.reduceLT, Int.reduceLE, Int.reduceEq, Int.reduceAdd, Int.reduceSub, Int.reduceNeg, decide_true, decide_false, Bool.not_true, Bool.not_false, cond_true, cond_false, beq_self_eq_true, and_self, ne_eq, not_true_eq_false, not_false_eq_true, reduceCtorEq, Bool.true_beq, Bool.false_beq, r0, r1, r2, r3, r4]
      refine plain_ok (N := 3000) (call_does (fun v G => ∃ dv, v = .tuple #[dv, .int .i64 0] ∧ DevG G dv (markDev d)) rfl rfl (by kernel_rfl) rfl (by simp only [dOk_some, dOk_none, Nat.reduceLT]) (fun G hG => ret_mono (mark_does hg hgd hG.wf (tidB hG (fun _ h => h) hTb hW rfl rfl (by simp) (by simp; decide)) (hd1.mono (hG.le G1 (by simp)))) fun v G' _ h => dev_get h hdn)) (QOk_body _ _ _) (by first | exact .inl rfl | exact .inr ⟨_, _, rfl, rfl⟩) ?_
      rintro _ ⟨_, G6, ⟨dv, rfl, hd2⟩, hn6, rfl⟩
      have hg2 := good_mark hgd
      have hf2 : (markDev d).fuel = -1 := spent_fuel1 hf
      have hc2 : (markDev d).cache.length ≤ v + 1 := by show d.cache.length ≤ v + 1; omega
      generalize markDev d = d2 at hd2 hg2 hf2 hc2
      have hl16 : G1.Le G6 := hn6.le G1 (by simp)
      clear hn6
      obtain ⟨C1, n1, C2, n2, C3, n3, rfl, hfo⟩ := hd2.form
      clear hfo
      simp only [go_sem, Nat.reduceAdd, Nat.reduceSub, Nat.reduceMul, Nat.reduceEqDiff, Nat.reduceLT, Nat.reduceLeDiff, Nat.reduceBEq, Nat.reduceBNe, Int.reduceLT, Int.reduceLE, Int.reduceEq, Int.reduceAdd, Int.reduceSub, Int.reduceNeg, decide_true, decide_false, Bool.not_true, Bool.not_false, cond_true, cond_false, beq_self_eq_true, and_self, ne_eq, not_true_eq_false, not_false_eq_true, reduceCtorEq, Bool.true_beq, Bool.false_beq]
      exact ⟨by omega, again_ok (v + 1, d2, (C1, n1), (C2, n2), (C3, n3), G6) ⟨⟨by omega, by omega, hc2⟩, ScR.mono hl1 rawG_mono hl16, hg2, hf2, hd2⟩ (by simp only; omega) (by simp only [go_sem, Nat.reduceAdd, Nat.reduceSub, Nat.reduceMul, Nat.reduceEqDiff, Nat.reduceLT, Nat.reduceLeDiff, Nat.reduceBEq, Nat.reduceBNe, Int.reduceLT, Int.reduceLE, Int.reduceEq, Int.reduceAdd, Int.reduceSub, Int.reduceNeg, decide_true, decide_false, Bool.not_true, Bool.not_false, cond_true, cond_false, beq_self_eq_true, and_self, ne_eq, not_true_eq_false, not_false_eq_true, reduceCtorEq, Bool.true_beq, Bool.false_beq]; simp)⟩
    · have q2 : decide ((v : Int) < most) = false := by simpa using hlm
      simp only [go_sem, Nat.reduceAdd, Nat.reduceSub, Nat.reduceMul, Nat.reduceEqDiff, Nat.reduceLT, Nat.reduceLeDiff, Nat.reduceBEq, Nat.reduceBNe, Int.reduceLT, Int.reduceLE, Int.reduceEq, Int.reduceAdd, Int.reduceSub, Int.reduceNeg, decide_true, decide_false, Bool.not_true, Bool.not_false, cond_true, cond_false, beq_self_eq_true, and_self, ne_eq, not_true_eq_false, not_false_eq_true, reduceCtorEq, Bool.true_beq, Bool.false_beq, q1, q2]
      refine fin_ret (G := G0) Try.results34 ?_
      simp only [go_sem, Nat.reduceAdd, Nat.reduceSub, Nat.reduceMul, Nat.reduceEqDiff, Nat.reduceLT, Nat.reduceLeDiff, Nat.reduceBEq, Nat.reduceBNe, Int.reduceLT, Int.reduceLE, Int.reduceEq, Int.reduceAdd, Int.reduceSub, Int.reduceNeg, decide_true, decide_false, Bool.not_true, Bool.not_false, cond_true, cond_false, beq_self_eq_true, and_self, ne_eq, not_true_eq_false, not_false_eq_true, reduceCtorEq, Bool.true_beq, Bool.false_beq]
      intro a w' _ hle
      exact ⟨_, d, rfl, hd1.mono (hle G1 (by simp)), hgd, hf, by omega⟩
  · have q1 : decide ((v : Int) < (l.length : Int)) = false := by simp; omega
    simp only [go_sem, Nat.reduceAdd, Nat.reduceSub, Nat.reduceMul, Nat.reduceEqDiff, Nat.reduceLT, Nat.reduceLeDiff, Nat.reduceBEq, Nat.reduceBNe, Int.reduceLT, Int.reduceLE, Int.reduceEq, Int.reduceAdd, Int.reduceSub, Int.reduceNeg, decide_true, decide_false, Bool.not_true, Bool.not_false, cond_true, cond_false, beq_self_eq_true, and_self, ne_eq, not_true_eq_false, not_false_eq_true, reduceCtorEq, Bool.true_beq, Bool.false_beq, q1]
    refine fin_ret (G := G0) Try.results34 ?_
    simp only [go_sem, Nat.reduceAdd, Nat.reduceSub, Nat.reduceMul, Nat.reduceEqDiff, Nat.reduceLT, Nat.reduceLeDiff, Nat.reduceBEq, Nat.reduceBNe, Int.reduceLT, Int.reduceLE, Int.reduceEq, Int.reduceAdd, Int.reduceSub, Int.reduceNeg, decide_true, decide_false, Bool.not_true, Bool.not_false, cond_true, cond_false, beq_self_eq_true, and_self, ne_eq, not_true_eq_false, not_false_eq_true, reduceCtorEq, Bool.true_beq, Bool.false_beq]
    intro a w' _ hle
    exact ⟨_, d, rfl, hd1.mono (hle G1 (by simp)), hgd, hf, by omega⟩
end Go.Proofs.Ytomfladifefomaa
-- E2: dev.Check of no devices, dev.CheckGeometry of no geometry. Conditions: as each law states them.
namespace Go.Proofs.Ytomfladifefomaa
open Go.RowKit
set_option linter.unusedSimpArgs false
set_option maxHeartbeats 1000000 in
theorem geo_zero (w : World) : Calls Try.prog 36 #[.agg #[.int .i64 0, .int .i64 0, .int .i64 0, .int .i64 0, .int .i64 0]] w fun e w' => e = .returned (.int .i64 2) ∧ Below w.heap.size w w' := by
  go_enter Try.func36, Try.ntmps36
  go_wp2
  refine wp_loop_rounds 5 ?_
  rw [rounds_succ]
  go_wp2
  go_ret
  refine ⟨rfl, ?_⟩
  repeat (first | exact Below.refl _ _ | refine below_al ?_ _)
set_option maxRecDepth 100000 in
set_option maxHeartbeats 4000000 in
theorem check_zero {g : Geo} (hg : GoodGeo g) {G0 : GW} (hW : G0.Wf) :
    Calls Try.prog 35 #[geoV g, .agg #[.slice none 0 0, .slice none 0 0, .slice none 0 0, .int .i64 0]] G0.w (Ret G0 fun v _ => v = .int .i64 9) := by
  refine enter (G := G0) (n := 52) 3000 hW Try.func35 rfl Try.ntmps35 (by simp) ?_
  simp only [go_sem, Nat.reduceAdd, Nat.reduceSub, Nat.reduceMul, Nat.reduceEqDiff, Nat.reduceLT, Nat.reduceLeDiff, Nat.reduceBEq, Nat.reduceBNe, Int.reduceLT, Int.reduceLE, Int.reduceEq, Int.reduceAdd, Int.reduceSub, Int.reduceNeg, decide_true, decide_false, Bool.not_true, Bool.not_false, cond_true, cond_false, beq_self_eq_true, and_self, ne_eq, not_true_eq_false, not_false_eq_true, reduceCtorEq, Bool.true_beq, Bool.false_beq, geoV]
  intro g1 g2
  refine plain_ok (N := 3000) (call_does (fun v G => v = .int .i64 0) rfl rfl (by kernel_rfl) rfl (by simp only [dOk_some, dOk_none, Nat.reduceLT]) (fun G hG => ret_of (geo_good g hg G.w) fun _ _ ⟨he, hb⟩ => ⟨_, he, rfl, hb⟩)) (QOk_body _ _ _) (by first | exact .inl rfl | exact .inr ⟨_, _, rfl, rfl⟩) ?_
  rintro _ ⟨_, G1, rfl, hn1, rfl⟩
  clear hn1
  simp only [go_sem, Nat.reduceAdd, Nat.reduceSub, Nat.reduceMul, Nat.reduceEqDiff, Nat.reduceLT, Nat.reduceLeDiff, Nat.reduceBEq, Nat.reduceBNe, Int.reduceLT, Int.reduceLE, Int.reduceEq, Int.reduceAdd, Int.reduceSub, Int.reduceNeg, decide_true, decide_false, Bool.not_true, Bool.not_false, cond_true, cond_false, beq_self_eq_true, and_self, ne_eq, not_true_eq_false, not_false_eq_true, reduceCtorEq, Bool.true_beq, Bool.false_beq]
  have hs : sectorsOf g ≠ 0 := by unfold sectorsOf; have := hg.r1; have := hg.a1; have := hg.h1; omega
  refine draw_ok (N := 3000) (.take 0 (.take 1 (.take 2 (.take 3 (.alt 4 (.take 5 (.take 6 (.take 7 (.take 8 (.take 9 (.take 10 (.take 11 (.take 12 (.take 13 (.take 14 (.take 15 (.take 16 (.take 17 (.take 18 (.take 19 (.take 20 (.take 21 (.take 22 (.take 23 (.take 24 (.take 25 (.take 26 (.take 27 (.take 28 (.take 29 .done))))))))))))))))))))))))) .last))))) [] (QOk_body _ _ _) follows_mixed (by kernel_rfl) (by kernel_rfl) ?_
  simp only [go_sem, Nat.reduceAdd, Nat.reduceSub, Nat.reduceMul, Nat.reduceEqDiff, Nat.reduceLT, Nat.reduceLeDiff, Nat.reduceBEq, Nat.reduceBNe, Int.reduceLT, Int.reduceLE, Int.reduceEq, Int.reduceAdd, Int.reduceSub, Int.reduceNeg, decide_true, decide_false, Bool.not_true, Bool.not_false, cond_true, cond_false, beq_self_eq_true, and_self, ne_eq, not_true_eq_false, not_false_eq_true, reduceCtorEq, Bool.true_beq, Bool.false_beq]
  refine any_ok2 (N := 3000) (call_does (fun v G => v = .int .i64 (sectorsOf g)) rfl rfl (by kernel_rfl) rfl (by simp only [dOk_some, dOk_none, Nat.reduceLT]) (fun G hG => ret_of (sectors_any g hg G.w) fun _ _ ⟨he, hb⟩ => ⟨_, he, rfl, hb⟩)) (QOk_body _ _ _) rfl (by first | exact .inl rfl | exact .inr ⟨_, _, rfl, rfl⟩) (by intro _ hK; first | (obtain ⟨_, _, _, _, rfl⟩ := hK; exact ⟨rfl, fun _ h => h⟩) | (obtain ⟨_, _, rfl⟩ := hK; exact ⟨rfl, fun _ h => h⟩) | (obtain ⟨_, _, _, _, _, _, rfl⟩ := hK; exact ⟨rfl, fun _ h => List.mem_cons_of_mem _ h⟩) | (obtain ⟨_, _, _, _, _, _, _, rfl⟩ := hK; exact ⟨rfl, fun _ h => List.mem_cons_of_mem _ h⟩) | (obtain rfl := hK; exact ⟨rfl, fun _ h => h⟩)) ?_
  rintro _ ⟨_, G2, rfl, hn2, rfl⟩
  clear hn2
  have q : decide (((0 : Nat) : Int) = sectorsOf g) = false := decide_eq_false (by omega)
  simp only [go_sem, Nat.reduceAdd, Nat.reduceSub, Nat.reduceMul, Nat.reduceEqDiff, Nat.reduceLT, Nat.reduceLeDiff, Nat.reduceBEq, Nat.reduceBNe, Int.reduceLT, Int.reduceLE, Int.reduceEq, Int.reduceAdd, Int.reduceSub, Int.reduceNeg, decide_true, decide_false, Bool.not_true, Bool.not_false, cond_true, cond_false, beq_self_eq_true, and_self, ne_eq, not_true_eq_false, not_false_eq_true, reduceCtorEq, Bool.true_beq, Bool.false_beq, q]
  refine fin_ret (G := G0) Try.results35 ?_
  simp only [go_sem, Nat.reduceAdd, Nat.reduceSub, Nat.reduceMul, Nat.reduceEqDiff, Nat.reduceLT, Nat.reduceLeDiff, Nat.reduceBEq, Nat.reduceBNe, Int.reduceLT, Int.reduceLE, Int.reduceEq, Int.reduceAdd, Int.reduceSub, Int.reduceNeg, decide_true, decide_false, Bool.not_true, Bool.not_false, cond_true, cond_false, beq_self_eq_true, and_self, ne_eq, not_true_eq_false, not_false_eq_true, reduceCtorEq, Bool.true_beq, Bool.false_beq]
  intro a w' _ _
  rfl
end Go.Proofs.Ytomfladifefomaa
