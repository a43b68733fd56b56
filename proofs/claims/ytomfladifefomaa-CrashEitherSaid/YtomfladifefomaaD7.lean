/- dev.Crash, over devices that may be: a total contract. Conditions: as each law states them. -/
import Derived.Test.YtomfladifefomaaD6
namespace Go.Proofs.Ytomfladifefomaa
open Go.RowKit
set_option linter.unusedSimpArgs false
def BoolG (_ : GW) (b : Bool) (cs : List Value) : Prop := cs = [.bool b]
theorem boolG_mono : MonoR BoolG := fun _ _ _ _ _ h => h
def BoolsG (G : GW) (v : Value) (l : List Bool) : Prop := ScR BoolG 1 G v l
def crashErr (t : Int) : Int := if t < 0 then 2 else 0
set_option maxRecDepth 100000 in
set_option maxHeartbeats 4000000 in
theorem crash_does {g : Geo} (hg : GoodGeo g) {d : Dev} (hd : GoodDev g d) {dv kv : Value} {keep : List Bool} {t : Int} (ht : t ≤ 9223372036854775807) {G0 : GW} (hW : G0.Wf) (hT : Tid bX G0) (h : DevG G0 dv d) (hk : BoolsG G0 kv keep) :
    Calls Try.prog 33 #[geoV g, dv, kv, .int .i64 t] G0.w (Ret G0 fun v G => DevE G v (crashErr t) (crashDev d keep t)) := by
  obtain ⟨A, c, rfl, _, _⟩ := ScR.form hk
  obtain ⟨A1, k1, A2, k2, A3, k3, rfl, hs, hc, hv⟩ := h.form
  have hmost := hd.most
  have hmany := hd.many
  have hn2 := hg.n2
  refine enter (G := G0) (n := 94) 3000 hW Try.func33 rfl Try.ntmps33 (by simp) ?_
  simp only [go_sem, Nat.reduceAdd, Nat.reduceSub, Nat.reduceMul, Nat.reduceEqDiff, Nat.reduceLT, Nat.reduceLeDiff, Nat.reduceBEq, Nat.reduceBNe, Int.reduceLT, Int.reduceLE, Int.reduceEq, Int.reduceAdd, Int.reduceSub, Int.reduceNeg, decide_true, decide_false, Bool.not_true, Bool.not_false, cond_true, cond_false, beq_self_eq_true, and_self, ne_eq, not_true_eq_false, not_false_eq_true, reduceCtorEq, Bool.true_beq, Bool.false_beq, geoV]
  intro g1 g2 g3
  refine plain_ok (N := 3000) (call_does (fun v G => v = .int .i64 0) rfl rfl (by kernel_rfl) rfl (by simp only [dOk_some, dOk_none, Nat.reduceLT]) (fun G hG => chk hg hd (h.mono (hG.le G0 (by simp))))) (QOk_body _ _ _) (by first | exact .inl rfl | exact .inr ⟨_, _, rfl, rfl⟩) ?_
  rintro _ ⟨_, G1, rfl, hn1, rfl⟩
  clear hn1
  by_cases e1 : t < 0
  · have he : crashErr t = 2 := by unfold crashErr; rw [if_pos e1]
    have q1 : decide (t < 0) = true := by simpa using e1
    simp only [go_sem, Nat.reduceAdd, Nat.reduceSub, Nat.reduceMul, Nat.reduceEqDiff, Nat.reduceLT, Nat.reduceLeDiff, Nat.reduceBEq, Nat.reduceBNe, Int.reduceLT, Int.reduceLE, Int.reduceEq, Int.reduceAdd, Int.reduceSub, Int.reduceNeg, decide_true, decide_false, Bool.not_true, Bool.not_false, cond_true, cond_false, beq_self_eq_true, and_self, ne_eq, not_true_eq_false, not_false_eq_true, reduceCtorEq, Bool.true_beq, Bool.false_beq, q1]
    refine fin_ret (G := G0) Try.results33 ?_
    simp only [go_sem, Nat.reduceAdd, Nat.reduceSub, Nat.reduceMul, Nat.reduceEqDiff, Nat.reduceLT, Nat.reduceLeDiff, Nat.reduceBEq, Nat.reduceBNe, Int.reduceLT, Int.reduceLE, Int.reduceEq, Int.reduceAdd, Int.reduceSub, Int.reduceNeg, decide_true, decide_false, Bool.not_true, Bool.not_false, cond_true, cond_false, beq_self_eq_true, and_self, ne_eq, not_true_eq_false, not_false_eq_true, reduceCtorEq, Bool.true_beq, Bool.false_beq]
    intro a w' _ _
    exact he.symm ▸ dev_err _ _ (by decide)
  have q1 : decide (t < 0) = false := by simpa using e1
  have he : crashErr t = 0 := by unfold crashErr; rw [if_neg e1]
  simp only [go_sem, Nat.reduceAdd, Nat.reduceSub, Nat.reduceMul, Nat.reduceEqDiff, Nat.reduceLT, Nat.reduceLeDiff, Nat.reduceBEq, Nat.reduceBNe, Int.reduceLT, Int.reduceLE, Int.reduceEq, Int.reduceAdd, Int.reduceSub, Int.reduceNeg, decide_true, decide_false, Bool.not_true, Bool.not_false, cond_true, cond_false, beq_self_eq_true, and_self, ne_eq, not_true_eq_false, not_false_eq_true, reduceCtorEq, Bool.true_beq, Bool.false_beq, q1]
  refine plain_ok (N := 3000) (callO_does (OwnT d) rfl rfl (by kernel_rfl) rfl (by simp only [dOk_some, dOk_none, Nat.reduceLT]) (fun G hG => own_does d _ G (h.mono (hG.le G0 (by simp))) (tidB hG (fun _ h => h) hT hW rfl rfl (by simp) (by simp; decide)) hG.wf hg hd)) (QOk_body _ _ _) (by first | exact .inl rfl | exact .inr ⟨_, _, rfl, rfl⟩) ?_
  rintro _ ⟨_, R, G2, ⟨A4, c4, A5, c5, A6, c6, C1, C2, C3, rfl, rfl, E1, E2, E3⟩, hn2', rfl⟩
  have hl02 : G0.Le G2 := hn2'.le G0 (by simp [St.rowsTo])
  clear hn2'
  simp only [List.cons_append, List.nil_append]
  have hn0 : 0 < d.safe.length := by
    have := hd.safe
    unfold sectorsOf at this
    have := hg.r1; have := hg.a1; have := hg.h1; omega
  simp only [go_sem, Nat.reduceAdd, Nat.reduceSub, Nat.reduceMul, Nat.reduceEqDiff, Nat.reduceLT, Nat.reduceLeDiff, Nat.reduceBEq, Nat.reduceBNe, Int.reduceLT, Int.reduceLE, Int.reduceEq, Int.reduceAdd, Int.reduceSub, Int.reduceNeg, decide_true, decide_false, Bool.not_true, Bool.not_false, cond_true, cond_false, beq_self_eq_true, and_self, ne_eq, not_true_eq_false, not_false_eq_true, reduceCtorEq, Bool.true_beq, Bool.false_beq]
  intro g4
  refine rowBlk_ok (R1 := []) (r := ⟨.slice A4 d.safe.length c4, 23, 1, d.safe.length, C1.flatten⟩) rfl hn0 fun gs cap S hAs hcap hmax hSl hS => ?_
  cases hAs
  refine read_ok (R1 := []) rfl fun G3 hle3 hs3 => ?_
  have hl23 : G2.Le G3 := hle3 G2 (by simp)
  clear hle3
  have hP0 : PW RowG G3 S (putsTo (fun i => keep.getD i false) d 0) := (PW.of (l := d.safe) E1 hS).mono rowG_mono hl23
  have hC0 : CacG G3 (.slice A5 d.cache.length c5) d.cache := sq_row (E2.mono wrG_mono hl23) wrG_mono (GW.Le.refl _) rfl hs3
  have hV0 : ElG VolG 3 G3 C3 d.vols := E3.mono volG_mono hl23
  have hk0 : BoolsG G3 (.slice A keep.length c) keep := ScR.mono hk boolG_mono (hl02.trans hl23)
  have hS0 : S.length = c4 := by simpa using hSl
  have hcap' : d.safe.length ≤ c4 := hcap
  clear hS hSl hcap hs3 E1 E2 E3
  simp only [go_sem, Nat.reduceAdd, Nat.reduceSub, Nat.reduceMul, Nat.reduceEqDiff, Nat.reduceLT, Nat.reduceLeDiff, Nat.reduceBEq, Nat.reduceBNe, Int.reduceLT, Int.reduceLE, Int.reduceEq, Int.reduceAdd, Int.reduceSub, Int.reduceNeg, decide_true, decide_false, Bool.not_true, Bool.not_false, cond_true, cond_false, beq_self_eq_true, and_self, ne_eq, not_true_eq_false, not_false_eq_true, reduceCtorEq, Bool.true_beq, Bool.false_beq]
  refine loop_ok (N := 3000) (ι := Nat × List Value × GW)
    (fun i => match i with | (v, S, G) => ⟨[(2, .c (.v (.slice A keep.length c))), (3, .c (.v (.int .i64 t))), (8, .c (.p 2 g3 0)), (11, .c (.p 3 g4 0)), (30, .c (.v (.slice A5 d.cache.length c5))), (31, .c (.v (.int .i64 (d.cache.length : Int)))), (32, .c (.v (.int .i64 (v : Int))))],
      [⟨4, gs, 23, S.map .v⟩, ⟨3, g4, 37, [.v (.slice (some ⟨gs, 0, none⟩) d.safe.length c4), .v (.slice A5 d.cache.length c5), .v (.slice A6 d.vols.length c6), .v (.int .i64 d.fuel)]⟩, ⟨2, g3, 37, [.v (.slice none 0 0), .v (.slice none 0 0), .v (.slice none 0 0), .v (.int .i64 0)]⟩],
      [⟨.slice A6 d.vols.length c6, 104, 3, d.vols.length, C3.flatten⟩], [], [G], 5⟩)
    (fun i => match i with | (v, S, G) => v ≤ d.cache.length ∧ S.length = c4 ∧ PW RowG G S (putsTo (fun i => keep.getD i false) d v) ∧ CacG G (.slice A5 d.cache.length c5) d.cache ∧ ElG VolG 3 G C3 d.vols ∧ BoolsG G (.slice A keep.length c) keep)
    (fun i => d.cache.length - i.1) (QOk_body _ _ _) (0, S, G3) ⟨by omega, hS0, hP0, hC0, hV0, hk0⟩ (by simp only [go_sem, Nat.reduceAdd, Nat.reduceSub, Nat.reduceMul, Nat.reduceEqDiff, Nat.reduceLT, Nat.reduceLeDiff, Nat.reduceBEq, Nat.reduceBNe, Int.reduceLT, Int.reduceLE, Int.reduceEq, Int.reduceAdd, Int.reduceSub, Int.reduceNeg, decide_true, decide_false, Bool.not_true, Bool.not_false, cond_true, cond_false, beq_self_eq_true, and_self, ne_eq, not_true_eq_false, not_false_eq_true, reduceCtorEq, Bool.true_beq, Bool.false_beq]; simp) ?_
  clear hS0 hP0 hC0 hV0 hk0 hl23 S G3
  rintro ⟨v, S, G3⟩ ⟨hv, hS0, hP0, hC0, hV0, hk0⟩
  simp only
  simp only [go_sem, Nat.reduceAdd, Nat.reduceSub, Nat.reduceMul, Nat.reduceEqDiff, Nat.reduceLT, Nat.reduceLeDiff, Nat.reduceBEq, Nat.reduceBNe, Int.reduceLT, Int.reduceLE, Int.reduceEq, Int.reduceAdd, Int.reduceSub, Int.reduceNeg, decide_true, decide_false, Bool.not_true, Bool.not_false, cond_true, cond_false, beq_self_eq_true, and_self, ne_eq, not_true_eq_false, not_false_eq_true, reduceCtorEq, Bool.true_beq, Bool.false_beq]
  refine Wb_mk (fun hlt => ?_) (fun hge => ?_)
  · have hlt' : v < d.cache.length := by simpa using hlt
    obtain ⟨x, hx⟩ : ∃ x, d.cache[v]? = some x := ⟨_, List.getElem?_eq_getElem hlt'⟩
    obtain ⟨x1, x2, x3⟩ := hd.wr hx
    refine plain_ok (N := 3000) (elemC_does (R := WrG) (l := d.cache) (m := v) rfl tySlice34 tySize61 rfl rfl (by simp only [dOk_some, dOk_none, Nat.reduceLT]) rfl hx (fun G hG => (Sq.mono hC0 wrG_mono (hG.le G3 (by simp))).sc)) (QOk_body _ _ _) (by first | exact .inl rfl | exact .inr ⟨_, _, rfl, rfl⟩) ?_
    rintro _ ⟨gw, ow, cs, G4, hcl, hcR, hn4, rfl⟩
    obtain ⟨A7, c7, rfl, hb7⟩ := wrcells hcR
    have hl34 : G3.Le G4 := hn4.le G3 (by simp)
    clear hn4 hcl
    have hpn : keep.getD v false = false → PW RowG G3 S (putsTo (fun i => keep.getD i false) d (v + 1)) := by
      intro hkp
      have := puts_succ (fun i => keep.getD i false) hx
      simp only [hkp, Bool.false_eq_true, if_false] at this
      rw [this]; exact hP0
    by_cases ek : v < keep.length
    · have qk : decide ((v : Int) < (keep.length : Int)) = true := by simpa using ek
      obtain ⟨b, hb⟩ : ∃ b, keep[v]? = some b := ⟨_, List.getElem?_eq_getElem ek⟩
      have hkp : keep.getD v false = b := by rw [List.getD_eq_getElem?_getD, hb]; rfl
      simp only [go_sem, Nat.reduceAdd, Nat.reduceSub, Nat.reduceMul, Nat.reduceEqDiff, Nat.reduceLT, Nat.reduceLeDiff, Nat.reduceBEq, Nat.reduceBNe, Int.reduceLT, Int.reduceLE, Int.reduceEq, Int.reduceAdd, Int.reduceSub, Int.reduceNeg, decide_true, decide_false, Bool.not_true, Bool.not_false, cond_true, cond_false, beq_self_eq_true, and_self, ne_eq, not_true_eq_false, not_false_eq_true, reduceCtorEq, Bool.true_beq, Bool.false_beq, qk]
      intro g9
      refine plain_ok (N := 3000) (elemC_does (R := BoolG) (l := keep) (m := v) rfl tySlice51 tySize4 rfl rfl (by simp only [dOk_some, dOk_none, Nat.reduceLT]) rfl hb (fun G hG => ScR.mono hk0 boolG_mono (hG.le G3 (by simp)))) (QOk_body _ _ _) (by first | exact .inl rfl | exact .inr ⟨_, _, rfl, rfl⟩) ?_
      rintro _ ⟨gw2, ow2, cs, G5, hcl, rfl, hn5, rfl⟩
      have hl45 : G4.Le G5 := hn5.le G4 (by simp)
      have hlG : G3.Le G5 := hl34.trans hl45
      clear hn5 hcl
      cases b with
      | false =>
        simp only [go_sem, Nat.reduceAdd, Nat.reduceSub, Nat.reduceMul, Nat.reduceEqDiff, Nat.reduceLT, Nat.reduceLeDiff, Nat.reduceBEq, Nat.reduceBNe, Int.reduceLT, Int.reduceLE, Int.reduceEq, Int.reduceAdd, Int.reduceSub, Int.reduceNeg, decide_true, decide_false, Bool.not_true, Bool.not_false, cond_true, cond_false, beq_self_eq_true, and_self, ne_eq, not_true_eq_false, not_false_eq_true, reduceCtorEq, Bool.true_beq, Bool.false_beq]
        exact ⟨by omega, again_ok (v + 1, S, G5) ⟨by omega, hS0, (hpn hkp).mono rowG_mono hlG, Sq.mono hC0 wrG_mono hlG, hV0.mono volG_mono hlG, ScR.mono hk0 boolG_mono hlG⟩ (by simp only; omega) (by simp only [go_sem, Nat.reduceAdd, Nat.reduceSub, Nat.reduceMul, Nat.reduceEqDiff, Nat.reduceLT, Nat.reduceLeDiff, Nat.reduceBEq, Nat.reduceBNe, Int.reduceLT, Int.reduceLE, Int.reduceEq, Int.reduceAdd, Int.reduceSub, Int.reduceNeg, decide_true, decide_false, Bool.not_true, Bool.not_false, cond_true, cond_false, beq_self_eq_true, and_self, ne_eq, not_true_eq_false, not_false_eq_true, reduceCtorEq, Bool.true_beq, Bool.false_beq]; simp)⟩
      | true =>
        simp only [go_sem, Nat.reduceAdd, Nat.reduceSub, Nat.reduceMul, Nat.reduceEqDiff, Nat.reduceLT, Nat.reduceLeDiff, Nat.reduceBEq, Nat.reduceBNe, Int.reduceLT, Int.reduceLE, Int.reduceEq, Int.reduceAdd, Int.reduceSub, Int.reduceNeg, decide_true, decide_false, Bool.not_true, Bool.not_false, cond_true, cond_false, beq_self_eq_true, and_self, ne_eq, not_true_eq_false, not_false_eq_true, reduceCtorEq, Bool.true_beq, Bool.false_beq]
        refine plain_ok (N := 3000) (own_elem_does (id := 4) (m := x.at_.toNat) rfl tySlice29 tySize23 rfl rfl (by simp only [dOk_some, dOk_none, Nat.reduceLT]) (by omega) (by omega)) (QOk_body _ _ _) (by first | exact .inl rfl | exact .inr ⟨_, _, rfl, rfl⟩) ?_
        rintro _ rfl
        have hoff : x.at_.toNat + 1 ≤ S.length := by omega
        simp only [go_sem, Nat.reduceAdd, Nat.reduceSub, Nat.reduceMul, Nat.reduceEqDiff, Nat.reduceLT, Nat.reduceLeDiff, Nat.reduceBEq, Nat.reduceBNe, Int.reduceLT, Int.reduceLE, Int.reduceEq, Int.reduceAdd, Int.reduceSub, Int.reduceNeg, decide_true, decide_false, Bool.not_true, Bool.not_false, cond_true, cond_false, beq_self_eq_true, and_self, ne_eq, not_true_eq_false, not_false_eq_true, reduceCtorEq, Bool.true_beq, Bool.false_beq, List.length_map, List.map_cons, List.map_nil, Nat.mul_one, Nat.add_zero, hoff]
        refine ⟨by omega, again_ok (v + 1, S.set x.at_.toNat (.slice A7 x.data.length c7), G5) ⟨by omega, by simpa using hS0, ?_, Sq.mono hC0 wrG_mono hlG, hV0.mono volG_mono hlG, ScR.mono hk0 boolG_mono hlG⟩ (by simp only; omega) (by simp only [go_sem, Nat.reduceAdd, Nat.reduceSub, Nat.reduceMul, Nat.reduceEqDiff, Nat.reduceLT, Nat.reduceLeDiff, Nat.reduceBEq, Nat.reduceBNe, Int.reduceLT, Int.reduceLE, Int.reduceEq, Int.reduceAdd, Int.reduceSub, Int.reduceNeg, decide_true, decide_false, Bool.not_true, Bool.not_false, cond_true, cond_false, beq_self_eq_true, and_self, ne_eq, not_true_eq_false, not_false_eq_true, reduceCtorEq, Bool.true_beq, Bool.false_beq]; simp)⟩
        have := puts_succ (fun i => keep.getD i false) hx
        simp only [hkp, if_true] at this
        rw [this]
        exact (hP0.mono rowG_mono hlG).set_ (by omega) ⟨_, rfl, hb7.mono hl45⟩
    · have qk : decide ((v : Int) < (keep.length : Int)) = false := by simp; omega
      have hkp : keep.getD v false = false := by rw [List.getD_eq_getElem?_getD, List.getElem?_eq_none (by omega)]; rfl
      simp only [go_sem, Nat.reduceAdd, Nat.reduceSub, Nat.reduceMul, Nat.reduceEqDiff, Nat.reduceLT, Nat.reduceLeDiff, Nat.reduceBEq, Nat.reduceBNe, Int.reduceLT, Int.reduceLE, Int.reduceEq, Int.reduceAdd, Int.reduceSub, Int.reduceNeg, decide_true, decide_false, Bool.not_true, Bool.not_false, cond_true, cond_false, beq_self_eq_true, and_self, ne_eq, not_true_eq_false, not_false_eq_true, reduceCtorEq, Bool.true_beq, Bool.false_beq, qk]
      intro g9
      exact ⟨by omega, again_ok (v + 1, S, G4) ⟨by omega, hS0, (hpn hkp).mono rowG_mono hl34, Sq.mono hC0 wrG_mono hl34, hV0.mono volG_mono hl34, ScR.mono hk0 boolG_mono hl34⟩ (by simp only; omega) (by simp only [go_sem, Nat.reduceAdd, Nat.reduceSub, Nat.reduceMul, Nat.reduceEqDiff, Nat.reduceLT, Nat.reduceLeDiff, Nat.reduceBEq, Nat.reduceBNe, Int.reduceLT, Int.reduceLE, Int.reduceEq, Int.reduceAdd, Int.reduceSub, Int.reduceNeg, decide_true, decide_false, Bool.not_true, Bool.not_false, cond_true, cond_false, beq_self_eq_true, and_self, ne_eq, not_true_eq_false, not_false_eq_true, reduceCtorEq, Bool.true_beq, Bool.false_beq]; simp)⟩
  · have hv2 : v = d.cache.length := by simp at hge; omega
    subst hv2
    clear hC0 hk0 hge hv
    refine blkRead_ok (B1 := []) rfl 1 d.safe.length c4 hcap' hmax (by simpa using hS0) id fun G5 hle5 hs5 => ?_
    have hl35 : G3.Le G5 := hle5 G3 (by simp)
    clear hle5
    simp only [map_den_v] at hs5
    have hSf : SafG G5 (.slice (some ⟨gs, 0, none⟩) d.safe.length c4) (putsTo (fun i => keep.getD i false) d d.cache.length) := (hP0.mono rowG_mono hl35).sq (t := 23) (n := d.safe.length) (by rw [puts_len]) (by omega) hs5
    have hV5 := hV0.mono volG_mono hl35
    clear hP0 hs5 hV0 hS0 hl35
    simp only [go_sem, Nat.reduceAdd, Nat.reduceSub, Nat.reduceMul, Nat.reduceEqDiff, Nat.reduceLT, Nat.reduceLeDiff, Nat.reduceBEq, Nat.reduceBNe, Int.reduceLT, Int.reduceLE, Int.reduceEq, Int.reduceAdd, Int.reduceSub, Int.reduceNeg, decide_true, decide_false, Bool.not_true, Bool.not_false, cond_true, cond_false, beq_self_eq_true, and_self, ne_eq, not_true_eq_false, not_false_eq_true, reduceCtorEq, Bool.true_beq, Bool.false_beq]
    by_cases hv0 : 0 < d.vols.length
    · refine rowBlk_ok (R1 := []) (r := ⟨.slice A6 d.vols.length c6, 104, 3, d.vols.length, C3.flatten⟩) rfl hv0 fun gv cap S hAs hcap2 hmax2 hSl hS => ?_
      cases hAs
      have hP0 : PWk VolG 3 G5 S (setTo (volCut t) d.vols 0) := PWk.of (l := d.vols) hV5 hS
      have hS0 : S.length = c6 * 3 := hSl
      have hcap2' : d.vols.length ≤ c6 := hcap2
      clear hS hSl hcap2 hV5
      simp only [List.nil_append]
      simp only [go_sem, Nat.reduceAdd, Nat.reduceSub, Nat.reduceMul, Nat.reduceEqDiff, Nat.reduceLT, Nat.reduceLeDiff, Nat.reduceBEq, Nat.reduceBNe, Int.reduceLT, Int.reduceLE, Int.reduceEq, Int.reduceAdd, Int.reduceSub, Int.reduceNeg, decide_true, decide_false, Bool.not_true, Bool.not_false, cond_true, cond_false, beq_self_eq_true, and_self, ne_eq, not_true_eq_false, not_false_eq_true, reduceCtorEq, Bool.true_beq, Bool.false_beq]
      refine loop_ok (N := 3000) (ι := Nat × List Value × GW)
        (fun i => match i with | (v, S, G) => ⟨[(3, .c (.v (.int .i64 t))), (8, .c (.p 2 g3 0)), (11, .c (.p 3 g4 0)), (58, .c (.v (.slice (some ⟨gv, 0, none⟩) d.vols.length c6))), (59, .c (.v (.int .i64 (d.vols.length : Int)))), (60, .c (.v (.int .i64 (v : Int))))],
          [⟨5, gv, 104, S.map .v⟩, ⟨3, g4, 37, [.v (.slice (some ⟨gs, 0, none⟩) d.safe.length c4), .v (.slice none 0 0), .v (.slice (some ⟨gv, 0, none⟩) d.vols.length c6), .v (.int .i64 (-1))]⟩, ⟨2, g3, 37, [.v (.slice none 0 0), .v (.slice none 0 0), .v (.slice none 0 0), .v (.int .i64 0)]⟩],
          [], [], [G], 6⟩)
        (fun i => match i with | (v, S, G) => v ≤ d.vols.length ∧ S.length = c6 * 3 ∧ PWk VolG 3 G S (setTo (volCut t) d.vols v) ∧ SafG G (.slice (some ⟨gs, 0, none⟩) d.safe.length c4) (putsTo (fun i => keep.getD i false) d d.cache.length))
        (fun i => d.vols.length - i.1) (QOk_body _ _ _) (0, S, G5) ⟨by omega, hS0, hP0, hSf⟩ (by simp only [go_sem, Nat.reduceAdd, Nat.reduceSub, Nat.reduceMul, Nat.reduceEqDiff, Nat.reduceLT, Nat.reduceLeDiff, Nat.reduceBEq, Nat.reduceBNe, Int.reduceLT, Int.reduceLE, Int.reduceEq, Int.reduceAdd, Int.reduceSub, Int.reduceNeg, decide_true, decide_false, Bool.not_true, Bool.not_false, cond_true, cond_false, beq_self_eq_true, and_self, ne_eq, not_true_eq_false, not_false_eq_true, reduceCtorEq, Bool.true_beq, Bool.false_beq]; simp) ?_
      clear hS0 hP0 hSf S G5
      rintro ⟨v, S, G5⟩ ⟨hv, hS0, hP0, hSf⟩
      simp only
      simp only [go_sem, Nat.reduceAdd, Nat.reduceSub, Nat.reduceMul, Nat.reduceEqDiff, Nat.reduceLT, Nat.reduceLeDiff, Nat.reduceBEq, Nat.reduceBNe, Int.reduceLT, Int.reduceLE, Int.reduceEq, Int.reduceAdd, Int.reduceSub, Int.reduceNeg, decide_true, decide_false, Bool.not_true, Bool.not_false, cond_true, cond_false, beq_self_eq_true, and_self, ne_eq, not_true_eq_false, not_false_eq_true, reduceCtorEq, Bool.true_beq, Bool.false_beq]
      refine Wb_mk (fun hlt => ?_) (fun hge => ?_)
      · have hlt' : v < d.vols.length := by simpa using hlt
        obtain ⟨x, hx⟩ : ∃ x, d.vols[v]? = some x := ⟨_, List.getElem?_eq_getElem hlt'⟩
        have hx' : (setTo (volCut t) d.vols v)[v]? = some x := by rw [setTo_here]; exact hx
        obtain ⟨A7, c7, p0, p1, p2, hb⟩ := volk hP0 hx'
        have hl := volk_len hP0 hx'
        obtain ⟨m1, m2, m3, _⟩ := hd.vol hx
        have hv4 := hg.v2
        have hrow := row3 p0 p1 p2
        refine plain_ok (N := 3000) (own_elem_does (id := 5) (m := v) rfl tySlice35 tySize104 rfl rfl (by simp only [dOk_some, dOk_none, Nat.reduceLT]) rfl hlt') (QOk_body _ _ _) (by first | exact .inl rfl | exact .inr ⟨_, _, rfl, rfl⟩) ?_
        rintro _ rfl
        simp only [go_sem, Nat.reduceAdd, Nat.reduceSub, Nat.reduceMul, Nat.reduceEqDiff, Nat.reduceLT, Nat.reduceLeDiff, Nat.reduceBEq, Nat.reduceBNe, Int.reduceLT, Int.reduceLE, Int.reduceEq, Int.reduceAdd, Int.reduceSub, Int.reduceNeg, decide_true, decide_false, Bool.not_true, Bool.not_false, cond_true, cond_false, beq_self_eq_true, and_self, ne_eq, not_true_eq_false, not_false_eq_true, reduceCtorEq, Bool.true_beq, Bool.false_beq, List.length_map, hl, hrow]
        intro g9
        obtain ⟨m, hm⟩ := Int.eq_ofNat_of_zero_le (show 0 ≤ x.synced + min t ((x.data.length : Int) - x.synced) by omega)
        have hml : m ≤ x.data.length := by omega
        have hvc : volCut t x = ⟨x.data.take m, (m : Int), x.gone⟩ := by simp [volCut, hm]
        have hcc : x.data.length ≤ c7 := by obtain ⟨_, _, e, q, _⟩ := hb.form; cases e; exact q
        rw [hm]
        refine ⟨by omega, by omega, ?_⟩
        refine draw_ok (N := 3000) (.take 0 (.take 1 (.take 2 (.take 3 (.take 4 (.take 5 (.take 6 (.take 7 (.take 8 (.take 9 (.take 11 (.alt 10 (.alt 12 (.take 13 (.alt 14 (.alt 15 (.take 16 (.alt 17 .done .last)) .last) .last)) .last) .last)))))))))))) [5] (QOk_body _ _ _) follows_mixed (by kernel_rfl) (by kernel_rfl) ?_
        simp only [go_sem, Nat.reduceAdd, Nat.reduceSub, Nat.reduceMul, Nat.reduceEqDiff, Nat.reduceLT, Nat.reduceLeDiff, Nat.reduceBEq, Nat.reduceBNe, Int.reduceLT, Int.reduceLE, Int.reduceEq, Int.reduceAdd, Int.reduceSub, Int.reduceNeg, decide_true, decide_false, Bool.not_true, Bool.not_false, cond_true, cond_false, beq_self_eq_true, and_self, ne_eq, not_true_eq_false, not_false_eq_true, reduceCtorEq, Bool.true_beq, Bool.false_beq]
        refine any_ok2 (N := 3000) (cut_does 0 m m rfl tySlice23 tySize5 rfl rfl ⟨_, _, rfl, by omega⟩ ⟨_, _, rfl, by omega⟩ (by simp) (by simp only [dOk_some, dOk_none, Nat.reduceLT]) (by omega) (by omega) (by omega) (fun G hG => (hb.mono (hG.le G5 (by simp)) : Sl _ _ _ _ _ _))) (QOk_body _ _ _) rfl (by first | exact .inl rfl | exact .inr ⟨_, _, rfl, rfl⟩) (by intro _ hK; first | (obtain ⟨_, _, _, _, rfl⟩ := hK; exact ⟨rfl, fun _ h => h⟩) | (obtain ⟨_, _, rfl⟩ := hK; exact ⟨rfl, fun _ h => h⟩) | (obtain ⟨_, _, _, _, _, _, rfl⟩ := hK; exact ⟨rfl, fun _ h => List.mem_cons_of_mem _ h⟩) | (obtain ⟨_, _, _, _, _, _, _, rfl⟩ := hK; exact ⟨rfl, fun _ h => List.mem_cons_of_mem _ h⟩) | (obtain rfl := hK; exact ⟨rfl, fun _ h => h⟩)) ?_
        rintro _ ⟨A9, G6, hs9, hn6, rfl⟩
        have hl56 : G5.Le G6 := hn6.le G5 (by simp)
        clear hn6
        have hb9 : ByG G6 (.slice A9 m m) (x.data.take m) := by
          have := byG_cut hs9 (by omega)
          simpa using this
        simp only [go_sem, Nat.reduceAdd, Nat.reduceSub, Nat.reduceMul, Nat.reduceEqDiff, Nat.reduceLT, Nat.reduceLeDiff, Nat.reduceBEq, Nat.reduceBNe, Int.reduceLT, Int.reduceLE, Int.reduceEq, Int.reduceAdd, Int.reduceSub, Int.reduceNeg, decide_true, decide_false, Bool.not_true, Bool.not_false, cond_true, cond_false, beq_self_eq_true, and_self, ne_eq, not_true_eq_false, not_false_eq_true, reduceCtorEq, Bool.true_beq, Bool.false_beq]
        refine any_ok2 (N := 3000) (own_elem_does (id := 5) (m := v) rfl tySlice35 tySize104 rfl rfl (by simp only [dOk_some, dOk_none, Nat.reduceLT]) rfl hlt') (QOk_body _ _ _) rfl (by first | exact .inl rfl | exact .inr ⟨_, _, rfl, rfl⟩) (by intro _ hK; first | (obtain ⟨_, _, _, _, rfl⟩ := hK; exact ⟨rfl, fun _ h => h⟩) | (obtain ⟨_, _, rfl⟩ := hK; exact ⟨rfl, fun _ h => h⟩) | (obtain ⟨_, _, _, _, _, _, rfl⟩ := hK; exact ⟨rfl, fun _ h => List.mem_cons_of_mem _ h⟩) | (obtain ⟨_, _, _, _, _, _, _, rfl⟩ := hK; exact ⟨rfl, fun _ h => List.mem_cons_of_mem _ h⟩) | (obtain rfl := hK; exact ⟨rfl, fun _ h => h⟩)) ?_
        rintro _ rfl
        have hl1 : v * 3 + 1 ≤ S.length := by omega
        have hl2 : v * 3 + 1 + 1 ≤ S.length := by omega
        simp only [go_sem, Nat.reduceAdd, Nat.reduceSub, Nat.reduceMul, Nat.reduceEqDiff, Nat.reduceLT, Nat.reduceLeDiff, Nat.reduceBEq, Nat.reduceBNe, Int.reduceLT, Int.reduceLE, Int.reduceEq, Int.reduceAdd, Int.reduceSub, Int.reduceNeg, decide_true, decide_false, Bool.not_true, Bool.not_false, cond_true, cond_false, beq_self_eq_true, and_self, ne_eq, not_true_eq_false, not_false_eq_true, reduceCtorEq, Bool.true_beq, Bool.false_beq, List.length_map, Nat.add_zero, hl1]
        refine any_ok2 (N := 3000) (own_elem_does (id := 5) (m := v) rfl tySlice35 tySize104 rfl rfl (by simp only [dOk_some, dOk_none, Nat.reduceLT]) rfl hlt') (QOk_body _ _ _) rfl (by first | exact .inl rfl | exact .inr ⟨_, _, rfl, rfl⟩) (by intro _ hK; first | (obtain ⟨_, _, _, _, rfl⟩ := hK; exact ⟨rfl, fun _ h => h⟩) | (obtain ⟨_, _, rfl⟩ := hK; exact ⟨rfl, fun _ h => h⟩) | (obtain ⟨_, _, _, _, _, _, rfl⟩ := hK; exact ⟨rfl, fun _ h => List.mem_cons_of_mem _ h⟩) | (obtain ⟨_, _, _, _, _, _, _, rfl⟩ := hK; exact ⟨rfl, fun _ h => List.mem_cons_of_mem _ h⟩) | (obtain rfl := hK; exact ⟨rfl, fun _ h => h⟩)) ?_
        rintro _ rfl
        simp only [go_sem, Nat.reduceAdd, Nat.reduceSub, Nat.reduceMul, Nat.reduceEqDiff, Nat.reduceLT, Nat.reduceLeDiff, Nat.reduceBEq, Nat.reduceBNe, Int.reduceLT, Int.reduceLE, Int.reduceEq, Int.reduceAdd, Int.reduceSub, Int.reduceNeg, decide_true, decide_false, Bool.not_true, Bool.not_false, cond_true, cond_false, beq_self_eq_true, and_self, ne_eq, not_true_eq_false, not_false_eq_true, reduceCtorEq, Bool.true_beq, Bool.false_beq, List.length_map, List.length_set, hl2]
        refine ⟨by omega, again_ok (v + 1, (S.set (v * 3) (.slice A9 m m)).set (v * 3 + 1) (.int .i64 (m : Int)), G6) ⟨by omega, by simpa using hS0, ?_, Sq.mono hSf rowG_mono hl56⟩ (by simp only; omega) (by simp only [go_sem, Nat.reduceAdd, Nat.reduceSub, Nat.reduceMul, Nat.reduceEqDiff, Nat.reduceLT, Nat.reduceLeDiff, Nat.reduceBEq, Nat.reduceBNe, Int.reduceLT, Int.reduceLE, Int.reduceEq, Int.reduceAdd, Int.reduceSub, Int.reduceNeg, decide_true, decide_false, Bool.not_true, Bool.not_false, cond_true, cond_false, beq_self_eq_true, and_self, ne_eq, not_true_eq_false, not_false_eq_true, reduceCtorEq, Bool.true_beq, Bool.false_beq]; simp)⟩
        rw [setTo_succ _ hx, hvc]
        have q := volk_data (hP0.mono volG_mono hl56) hx' hb9
        have q2 := volk_sync (j := v) q (List.getElem?_set_self (by rw [setTo_len]; exact hlt')) (m : Int)
        rw [List.set_set] at q2
        exact q2
      · have hv2 : v = d.vols.length := by simp at hge; omega
        subst hv2
        rw [setTo_all] at hP0
        refine blkRead_ok (B1 := []) rfl 3 d.vols.length c6 hcap2' hmax2 (by simpa using hS0) id fun G7 hle7 hs7 => ?_
        clear hle7
        simp only [go_sem, Nat.reduceAdd, Nat.reduceSub, Nat.reduceMul, Nat.reduceEqDiff, Nat.reduceLT, Nat.reduceLeDiff, Nat.reduceBEq, Nat.reduceBNe, Int.reduceLT, Int.reduceLE, Int.reduceEq, Int.reduceAdd, Int.reduceSub, Int.reduceNeg, decide_true, decide_false, Bool.not_true, Bool.not_false, cond_true, cond_false, beq_self_eq_true, and_self, ne_eq, not_true_eq_false, not_false_eq_true, reduceCtorEq, Bool.true_beq, Bool.false_beq]
        refine fin_ret (G := G0) Try.results33 ?_
        simp only [go_sem, Nat.reduceAdd, Nat.reduceSub, Nat.reduceMul, Nat.reduceEqDiff, Nat.reduceLT, Nat.reduceLeDiff, Nat.reduceBEq, Nat.reduceBNe, Int.reduceLT, Int.reduceLE, Int.reduceEq, Int.reduceAdd, Int.reduceSub, Int.reduceNeg, decide_true, decide_false, Bool.not_true, Bool.not_false, cond_true, cond_false, beq_self_eq_true, and_self, ne_eq, not_true_eq_false, not_false_eq_true, reduceCtorEq, Bool.true_beq, Bool.false_beq]
        intro a w' _ hl
        simp only [map_den_v] at hs7
        exact dev_ok he ⟨_, rfl, _, _, _, rfl, Sq.mono hSf rowG_mono (hl G5 (by simp)), Sq.nil, (hP0.mono volG_mono (hl G5 (by simp))).sq (t := 104) (n := d.vols.length) (by omega) (by simp) (hs7.mono (hl G7 (by simp)))⟩
    · have hlen : d.vols.length = 0 := by omega
      have hn1 : d.vols = [] := List.eq_nil_of_length_eq_zero hlen
      refine loop_ok (N := 3000) (ι := Unit)
        (fun _ => ⟨[(8, .c (.p 2 g3 0)), (11, .c (.p 3 g4 0)), (59, .c (.v (.int .i64 (d.vols.length : Int)))), (60, .c (.v (.int .i64 0)))],
          [⟨3, g4, 37, [.v (.slice (some ⟨gs, 0, none⟩) d.safe.length c4), .v (.slice none 0 0), .v (.slice A6 d.vols.length c6), .v (.int .i64 (-1))]⟩, ⟨2, g3, 37, [.v (.slice none 0 0), .v (.slice none 0 0), .v (.slice none 0 0), .v (.int .i64 0)]⟩],
          [⟨.slice A6 d.vols.length c6, 104, 3, d.vols.length, C3.flatten⟩], [], [G5], 6⟩)
        (fun _ => True) (fun _ => 0) (QOk_body _ _ _) () trivial (by simp only [go_sem, Nat.reduceAdd, Nat.reduceSub, Nat.reduceMul, Nat.reduceEqDiff, Nat.reduceLT, Nat.reduceLeDiff, Nat.reduceBEq, Nat.reduceBNe, Int.reduceLT, Int.reduceLE, Int.reduceEq, Int.reduceAdd, Int.reduceSub, Int.reduceNeg, decide_true, decide_false, Bool.not_true, Bool.not_false, cond_true, cond_false, beq_self_eq_true, and_self, ne_eq, not_true_eq_false, not_false_eq_true, reduceCtorEq, Bool.true_beq, Bool.false_beq]; simp) ?_
      rintro _ _
      have q : decide ((0 : Int) < (d.vols.length : Int)) = false := by simp; omega
      simp only [go_sem, Nat.reduceAdd, Nat.reduceSub, Nat.reduceMul, Nat.reduceEqDiff, Nat.reduceLT, Nat.reduceLeDiff, Nat.reduceBEq, Nat.reduceBNe, Int.reduceLT, Int.reduceLE, Int.reduceEq, Int.reduceAdd, Int.reduceSub, Int.reduceNeg, decide_true, decide_false, Bool.not_true, Bool.not_false, cond_true, cond_false, beq_self_eq_true, and_self, ne_eq, not_true_eq_false, not_false_eq_true, reduceCtorEq, Bool.true_beq, Bool.false_beq, q]
      refine read_ok (R1 := []) rfl fun G7 _ hs7 => ?_
      simp only [go_sem, Nat.reduceAdd, Nat.reduceSub, Nat.reduceMul, Nat.reduceEqDiff, Nat.reduceLT, Nat.reduceLeDiff, Nat.reduceBEq, Nat.reduceBNe, Int.reduceLT, Int.reduceLE, Int.reduceEq, Int.reduceAdd, Int.reduceSub, Int.reduceNeg, decide_true, decide_false, Bool.not_true, Bool.not_false, cond_true, cond_false, beq_self_eq_true, and_self, ne_eq, not_true_eq_false, not_false_eq_true, reduceCtorEq, Bool.true_beq, Bool.false_beq]
      refine fin_ret (G := G0) Try.results33 ?_
      simp only [go_sem, Nat.reduceAdd, Nat.reduceSub, Nat.reduceMul, Nat.reduceEqDiff, Nat.reduceLT, Nat.reduceLeDiff, Nat.reduceBEq, Nat.reduceBNe, Int.reduceLT, Int.reduceLE, Int.reduceEq, Int.reduceAdd, Int.reduceSub, Int.reduceNeg, decide_true, decide_false, Bool.not_true, Bool.not_false, cond_true, cond_false, beq_self_eq_true, and_self, ne_eq, not_true_eq_false, not_false_eq_true, reduceCtorEq, Bool.true_beq, Bool.false_beq]
      intro a w' _ hl
      have hm0 : (crashDev d keep t).vols = d.vols := by simp [crashDev, hn1]
      refine dev_ok he ⟨_, rfl, _, _, _, rfl, Sq.mono hSf rowG_mono (hl G5 (by simp)), Sq.nil, ?_⟩
      rw [hm0]
      exact sq_row hV5 volG_mono (hl G5 (by simp)) rfl (hs7.mono (hl G7 (by simp)))
end Go.Proofs.Ytomfladifefomaa
