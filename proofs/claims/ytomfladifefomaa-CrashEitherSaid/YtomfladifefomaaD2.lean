/- dev.Flush, over devices that may be: a total contract. Conditions: as each law states them. -/
import Derived.Test.YtomfladifefomaaD1
import Derived.Test.YtomfladifefomaaOp
namespace Go.Proofs.Ytomfladifefomaa
open Go.RowKit
set_option linter.unusedSimpArgs false
theorem wrcells {G : GW} {x : Wr} {cs : List Value} (h : WrG G x cs) : ∃ A c, cs = [.int .i64 x.at_, .slice A x.data.length c] ∧ ByG G (.slice A x.data.length c) x.data := by
  obtain ⟨u, rfl, h⟩ := h
  obtain ⟨A, c, rfl, _⟩ := h.form
  exact ⟨A, c, rfl, h⟩
theorem puts_succ {d : Dev} {i : Nat} {x : Wr} (ok : Nat → Bool) (hx : d.cache[i]? = some x) : putsTo ok d (i + 1) = if ok i then (putsTo ok d i).set x.at_.toNat x.data else putsTo ok d i := by
  simp [putsTo, hx]
set_option maxRecDepth 100000 in
set_option maxHeartbeats 4000000 in
theorem flush_does {g : Geo} (hg : GoodGeo g) {d : Dev} (hd : GoodDev g d) {dv : Value} {G0 : GW} (hW : G0.Wf) (hT : Tid bX G0) (h : DevG G0 dv d) :
    Calls Try.prog 39 #[geoV g, dv] G0.w (Ret G0 fun v G => DevE G v (downErr d) (flushDev d)) := by
  obtain ⟨A1, k1, A2, k2, A3, k3, rfl, hs, hc, hv⟩ := h.form
  refine enter (G := G0) (n := 37) 3000 hW Try.func39 rfl Try.ntmps39 (by simp) ?_
  simp only [go_sem, Nat.reduceAdd, Nat.reduceSub, Nat.reduceMul, Nat.reduceEqDiff, Nat.reduceLT, Nat.reduceLeDiff, Nat.reduceBEq, Nat.reduceBNe, Int.reduceLT, Int.reduceLE, Int.reduceEq, Int.reduceAdd, Int.reduceSub, Int.reduceNeg, decide_true, decide_false, Bool.not_true, Bool.not_false, cond_true, cond_false, beq_self_eq_true, and_self, ne_eq, not_true_eq_false, not_false_eq_true, reduceCtorEq, Bool.true_beq, Bool.false_beq, geoV]
  intro g1 g2 g3
  by_cases e5 : d.fuel = 0
  · have he : downErr d = 10 := by unfold downErr; rw [if_pos e5]
    refine plain_ok (N := 3000) (call_does (fun v G => v = .tuple #[.agg #[.slice none 0 0, .slice none 0 0, .slice none 0 0, .int .i64 0], .int .i64 10]) rfl rfl (by kernel_rfl) rfl (by simp only [dOk_some, dOk_none, Nat.reduceLT]) (fun G hG => ret_of (spend_down g hg d hd e5 _ _ (h.mono (hG.le G0 (by simp))).r) fun _ _ ⟨he, hb⟩ => ⟨_, he, rfl, hb⟩)) (QOk_body _ _ _) (.inl rfl) ?_
    rintro _ ⟨v, G2, rfl, hn2, rfl⟩
    clear hn2
    simp only [go_sem, Nat.reduceAdd, Nat.reduceSub, Nat.reduceMul, Nat.reduceEqDiff, Nat.reduceLT, Nat.reduceLeDiff, Nat.reduceBEq, Nat.reduceBNe, Int.reduceLT, Int.reduceLE, Int.reduceEq, Int.reduceAdd, Int.reduceSub, Int.reduceNeg, decide_true, decide_false, Bool.not_true, Bool.not_false, cond_true, cond_false, beq_self_eq_true, and_self, ne_eq, not_true_eq_false, not_false_eq_true, reduceCtorEq, Bool.true_beq, Bool.false_beq]
    intro g4
    refine fin_ret (G := G0) Try.results39 ?_
    simp only [go_sem, Nat.reduceAdd, Nat.reduceSub, Nat.reduceMul, Nat.reduceEqDiff, Nat.reduceLT, Nat.reduceLeDiff, Nat.reduceBEq, Nat.reduceBNe, Int.reduceLT, Int.reduceLE, Int.reduceEq, Int.reduceAdd, Int.reduceSub, Int.reduceNeg, decide_true, decide_false, Bool.not_true, Bool.not_false, cond_true, cond_false, beq_self_eq_true, and_self, ne_eq, not_true_eq_false, not_false_eq_true, reduceCtorEq, Bool.true_beq, Bool.false_beq]
    intro a w' _ _
    exact he.symm ▸ dev_err _ _ (by decide)
  have he : downErr d = 0 := by unfold downErr; rw [if_neg e5]
  refine plain_ok (N := 3000) (callO_does (fun v R G => ∃ u, v = .tuple #[u, .int .i64 0] ∧ OwnT (spent d) u R G) rfl rfl (by kernel_rfl) rfl (by simp only [dOk_some, dOk_none, Nat.reduceLT]) (fun G hG => spend_does g hg d hd e5 _ _ (h.mono (hG.le G0 (by simp))) (tidB hG (fun _ h => h) hT hW rfl rfl (by simp) (by simp; decide)) hG.wf)) (QOk_body _ _ _) (.inl rfl) ?_
  rintro _ ⟨v, R, G2, ⟨u, rfl, A4, c4, A5, c5, A6, c6, C1, C2, C3, rfl, rfl, E1, E2, E3⟩, hn2, rfl⟩
  clear hn2
  simp only [List.cons_append, List.nil_append]
  have hn0 : 0 < d.safe.length := by
    have := hd.safe
    unfold sectorsOf at this
    have := hg.r1; have := hg.a1; have := hg.h1; omega
  simp only [go_sem, Nat.reduceAdd, Nat.reduceSub, Nat.reduceMul, Nat.reduceEqDiff, Nat.reduceLT, Nat.reduceLeDiff, Nat.reduceBEq, Nat.reduceBNe, Int.reduceLT, Int.reduceLE, Int.reduceEq, Int.reduceAdd, Int.reduceSub, Int.reduceNeg, decide_true, decide_false, Bool.not_true, Bool.not_false, cond_true, cond_false, beq_self_eq_true, and_self, ne_eq, not_true_eq_false, not_false_eq_true, reduceCtorEq, Bool.true_beq, Bool.false_beq]
  intro g4
  refine rowBlk_ok (R1 := []) (r := ⟨.slice A4 (spent d).safe.length c4, 23, 1, (spent d).safe.length, C1.flatten⟩) rfl hn0 fun gs cap S hAs hcap hmax hSl hS => ?_
  cases hAs
  refine read_ok (R1 := []) rfl fun G3 hle3 hs3 => ?_
  have hl23 : G2.Le G3 := hle3 G2 (by simp)
  clear hle3
  have hP0 : PW RowG G3 S (putsTo all_ d 0) := (PW.of (l := d.safe) E1 hS).mono rowG_mono hl23
  have hC0 : CacG G3 (.slice A5 d.cache.length c5) d.cache := sq_row (E2.mono wrG_mono hl23) wrG_mono (GW.Le.refl _) rfl hs3
  have hV0 : ElG VolG 3 G3 C3 d.vols := E3.mono volG_mono hl23
  have hS0 : S.length = c4 := by simpa using hSl
  have hcap' : d.safe.length ≤ c4 := hcap
  clear hS hSl hcap hs3 E1 E2 E3
  simp only [go_sem, Nat.reduceAdd, Nat.reduceSub, Nat.reduceMul, Nat.reduceEqDiff, Nat.reduceLT, Nat.reduceLeDiff, Nat.reduceBEq, Nat.reduceBNe, Int.reduceLT, Int.reduceLE, Int.reduceEq, Int.reduceAdd, Int.reduceSub, Int.reduceNeg, decide_true, decide_false, Bool.not_true, Bool.not_false, cond_true, cond_false, beq_self_eq_true, and_self, ne_eq, not_true_eq_false, not_false_eq_true, reduceCtorEq, Bool.true_beq, Bool.false_beq]
  refine loop_ok (N := 3000) (ι := Nat × List Value × GW)
    (fun i => match i with | (v, S, G) => ⟨[(4, .c (.p 2 g3 0)), (6, .c (.p 3 g4 0)), (21, .c (.v (.slice A5 d.cache.length c5))), (22, .c (.v (.int .i64 (d.cache.length : Int)))), (23, .c (.v (.int .i64 (v : Int))))],
      [⟨4, gs, 23, S.map .v⟩, ⟨3, g4, 37, [.v (.slice (some ⟨gs, 0, none⟩) d.safe.length c4), .v (.slice A5 d.cache.length c5), .v (.slice A6 d.vols.length c6), .v (.int .i64 (spent d).fuel)]⟩, ⟨2, g3, 37, [.v (.slice none 0 0), .v (.slice none 0 0), .v (.slice none 0 0), .v (.int .i64 0)]⟩],
      [⟨.slice A6 d.vols.length c6, 104, 3, d.vols.length, C3.flatten⟩], [], [G], 5⟩)
    (fun i => match i with | (v, S, G) => v ≤ d.cache.length ∧ S.length = c4 ∧ PW RowG G S (putsTo all_ d v) ∧ CacG G (.slice A5 d.cache.length c5) d.cache ∧ ElG VolG 3 G C3 d.vols ∧ G2.Le G)
    (fun i => d.cache.length - i.1) (QOk_body _ _ _) (0, S, G3) ⟨by omega, hS0, hP0, hC0, hV0, hl23⟩ (by simp only [go_sem, Nat.reduceAdd, Nat.reduceSub, Nat.reduceMul, Nat.reduceEqDiff, Nat.reduceLT, Nat.reduceLeDiff, Nat.reduceBEq, Nat.reduceBNe, Int.reduceLT, Int.reduceLE, Int.reduceEq, Int.reduceAdd, Int.reduceSub, Int.reduceNeg, decide_true, decide_false, Bool.not_true, Bool.not_false, cond_true, cond_false, beq_self_eq_true, and_self, ne_eq, not_true_eq_false, not_false_eq_true, reduceCtorEq, Bool.true_beq, Bool.false_beq]; simp) ?_
  clear hS0 hP0 hC0 hV0 hl23 S G3
  rintro ⟨v, S, G3⟩ ⟨hv, hS0, hP0, hC0, hV0, hl23⟩
  simp only
  simp only [go_sem, Nat.reduceAdd, Nat.reduceSub, Nat.reduceMul, Nat.reduceEqDiff, Nat.reduceLT, Nat.reduceLeDiff, Nat.reduceBEq, Nat.reduceBNe, Int.reduceLT, Int.reduceLE, Int.reduceEq, Int.reduceAdd, Int.reduceSub, Int.reduceNeg, decide_true, decide_false, Bool.not_true, Bool.not_false, cond_true, cond_false, beq_self_eq_true, and_self, ne_eq, not_true_eq_false, not_false_eq_true, reduceCtorEq, Bool.true_beq, Bool.false_beq]
  refine Wb_mk (fun hlt => ?_) (fun hge => ?_)
  · have hlt' : v < d.cache.length := by simpa using hlt
    have hmo := hd.most
    obtain ⟨x, hx⟩ : ∃ x, d.cache[v]? = some x := ⟨_, List.getElem?_eq_getElem hlt'⟩
    obtain ⟨x1, x2, x3⟩ := hd.wr hx
    refine plain_ok (N := 3000) (elemC_does (R := WrG) (l := d.cache) (m := v) rfl tySlice34 tySize61 rfl rfl (by simp only [dOk_some, dOk_none, Nat.reduceLT]) rfl hx (fun G hG => (Sq.mono hC0 wrG_mono (hG.le G3 (by simp))).sc)) (QOk_body _ _ _) (.inl rfl) ?_
    rintro _ ⟨gw, ow, cs, G4, hcl, hcR, hn4, rfl⟩
    have hl34 : G3.Le G4 := hn4.le G3 (by simp)
    clear hn4 hcl
    obtain ⟨A7, c7, rfl, hb7⟩ := wrcells hcR
    simp only [go_sem, Nat.reduceAdd, Nat.reduceSub, Nat.reduceMul, Nat.reduceEqDiff, Nat.reduceLT, Nat.reduceLeDiff, Nat.reduceBEq, Nat.reduceBNe, Int.reduceLT, Int.reduceLE, Int.reduceEq, Int.reduceAdd, Int.reduceSub, Int.reduceNeg, decide_true, decide_false, Bool.not_true, Bool.not_false, cond_true, cond_false, beq_self_eq_true, and_self, ne_eq, not_true_eq_false, not_false_eq_true, reduceCtorEq, Bool.true_beq, Bool.false_beq]
    intro g9
    refine plain_ok (N := 3000) (own_elem_does (id := 4) (m := x.at_.toNat) rfl tySlice29 tySize23 rfl rfl (by simp only [dOk_some, dOk_none, Nat.reduceLT]) (by omega) (by omega)) (QOk_body _ _ _) (.inl rfl) ?_
    rintro _ rfl
    have hoff : x.at_.toNat + 1 ≤ S.length := by omega
    simp only [go_sem, Nat.reduceAdd, Nat.reduceSub, Nat.reduceMul, Nat.reduceEqDiff, Nat.reduceLT, Nat.reduceLeDiff, Nat.reduceBEq, Nat.reduceBNe, Int.reduceLT, Int.reduceLE, Int.reduceEq, Int.reduceAdd, Int.reduceSub, Int.reduceNeg, decide_true, decide_false, Bool.not_true, Bool.not_false, cond_true, cond_false, beq_self_eq_true, and_self, ne_eq, not_true_eq_false, not_false_eq_true, reduceCtorEq, Bool.true_beq, Bool.false_beq, List.length_map, List.map_cons, List.map_nil, Nat.mul_one, Nat.add_zero, hoff]
    refine ⟨by omega, again_ok (v + 1, S.set x.at_.toNat (.slice A7 x.data.length c7), G4) ⟨by omega, by simpa using hS0, ?_, Sq.mono hC0 wrG_mono hl34, hV0.mono volG_mono hl34, hl23.trans hl34⟩ (by simp only; omega) (by simp only [go_sem, Nat.reduceAdd, Nat.reduceSub, Nat.reduceMul, Nat.reduceEqDiff, Nat.reduceLT, Nat.reduceLeDiff, Nat.reduceBEq, Nat.reduceBNe, Int.reduceLT, Int.reduceLE, Int.reduceEq, Int.reduceAdd, Int.reduceSub, Int.reduceNeg, decide_true, decide_false, Bool.not_true, Bool.not_false, cond_true, cond_false, beq_self_eq_true, and_self, ne_eq, not_true_eq_false, not_false_eq_true, reduceCtorEq, Bool.true_beq, Bool.false_beq]; simp)⟩
    show PW RowG G4 (S.set _ _) (putsTo all_ d (v + 1))
    rw [puts_succ _ hx]
    exact (hP0.mono rowG_mono hl34).set_ (by omega) ⟨_, rfl, hb7⟩
  · have hv2 : v = d.cache.length := by simp at hge; omega
    subst hv2
    refine blkRead_ok (B1 := []) rfl 1 d.safe.length c4 hcap' hmax (by simpa using hS0) id fun G5 hle5 hs5 => ?_
    have hl35 : G3.Le G5 := hle5 G3 (by simp)
    clear hle5
    simp only [go_sem, Nat.reduceAdd, Nat.reduceSub, Nat.reduceMul, Nat.reduceEqDiff, Nat.reduceLT, Nat.reduceLeDiff, Nat.reduceBEq, Nat.reduceBNe, Int.reduceLT, Int.reduceLE, Int.reduceEq, Int.reduceAdd, Int.reduceSub, Int.reduceNeg, decide_true, decide_false, Bool.not_true, Bool.not_false, cond_true, cond_false, beq_self_eq_true, and_self, ne_eq, not_true_eq_false, not_false_eq_true, reduceCtorEq, Bool.true_beq, Bool.false_beq]
    refine read_ok (R1 := []) rfl fun G6 _ hs6 => ?_
    simp only [go_sem, Nat.reduceAdd, Nat.reduceSub, Nat.reduceMul, Nat.reduceEqDiff, Nat.reduceLT, Nat.reduceLeDiff, Nat.reduceBEq, Nat.reduceBNe, Int.reduceLT, Int.reduceLE, Int.reduceEq, Int.reduceAdd, Int.reduceSub, Int.reduceNeg, decide_true, decide_false, Bool.not_true, Bool.not_false, cond_true, cond_false, beq_self_eq_true, and_self, ne_eq, not_true_eq_false, not_false_eq_true, reduceCtorEq, Bool.true_beq, Bool.false_beq]
    refine fin_ret (G := G0) Try.results39 ?_
    simp only [go_sem, Nat.reduceAdd, Nat.reduceSub, Nat.reduceMul, Nat.reduceEqDiff, Nat.reduceLT, Nat.reduceLeDiff, Nat.reduceBEq, Nat.reduceBNe, Int.reduceLT, Int.reduceLE, Int.reduceEq, Int.reduceAdd, Int.reduceSub, Int.reduceNeg, decide_true, decide_false, Bool.not_true, Bool.not_false, cond_true, cond_false, beq_self_eq_true, and_self, ne_eq, not_true_eq_false, not_false_eq_true, reduceCtorEq, Bool.true_beq, Bool.false_beq]
    intro a w' _ hl
    refine dev_ok he ⟨_, rfl, _, _, _, rfl, ?_, Sq.nil, sq_row hV0 volG_mono (hl G3 (by simp)) rfl (hs6.mono (hl G6 (by simp)))⟩
    simp only [map_den_v] at hs5
    exact ((hP0.mono rowG_mono (hl G3 (by simp))).sq (t := 23) (n := d.safe.length) (by rw [puts_len]) (by omega) (hs5.mono (hl G5 (by simp))))
end Go.Proofs.Ytomfladifefomaa
