/- 'icehousekeep.CrashEither' returns true for every slice of raw things, slice of bools and int. Conditions: none. -/
import Derived.Test.YtomfladifefomaaE1
import Derived.Test.YtomfladifefomaaD8
namespace Go.Proofs.Ytomfladifefomaa
open Go.RowKit
set_option linter.unusedSimpArgs false
theorem rowcells {G : GW} {x : List UInt8} {cs : List Value} (h : RowG G x cs) : ∃ A c, cs = [.slice A x.length c] ∧ ByG G (.slice A x.length c) x := by
  obtain ⟨u, rfl, h⟩ := h
  obtain ⟨A, c, rfl, _⟩ := h.form
  exact ⟨A, c, rfl, h⟩
theorem val_succ {ok : Nat → Bool} {d : Dev} {n i : Nat} {x : Wr} (hx : d.cache[i]? = some x) : valTo ok d n (i + 1) = if ok i && decide (x.at_ = (n : Int)) then x.data else valTo ok d n i := by simp [valTo, hx]
set_option maxRecDepth 100000 in
set_option maxHeartbeats 8000000 in
theorem crashEither_ret {w : World} (v0 : Value) (l0 : List Raw) (h0 : RawsG ⟨Non, w⟩ v0 l0) (v1 : Value) (keep : List Bool) (h1 : BoolsG ⟨Non, w⟩ v1 keep) (a1 : Int) (w1 : (Lit.int .i64 a1).wf = true) :
    Calls Try.prog 9 #[v0, v1, .int .i64 a1] w (Ret ⟨Non, w⟩ fun v _ => v = .bool true) := by
  obtain ⟨A, c, rfl, _, _⟩ := ScR.form h0
  obtain ⟨A', c', rfl, _, _⟩ := ScR.form h1
  obtain ⟨x1, x2⟩ := i64_bd w1
  refine enter (G := ⟨Non, w⟩) (n := 97) 3000 (wf_nonL w) Try.func9 rfl Try.ntmps9 (by simp) ?_
  simp only [go_sem, Nat.reduceAdd, Nat.reduceSub, Nat.reduceMul, Nat.reduceEqDiff, Nat.reduceLT, Nat.reduceLeDiff, Nat.reduceBEq, Nat.reduceBNe, Int.reduceLT, Int.reduceLE, Int.reduceEq, Int.reduceAdd, Int.reduceSub, Int.reduceNeg, decide_true, decide_false, Bool.not_true, Bool.not_false, cond_true, cond_false, beq_self_eq_true, and_self, ne_eq, not_true_eq_false, not_false_eq_true, reduceCtorEq, Bool.true_beq, Bool.false_beq]
  refine plain_ok (N := 3000) (call_does (fun v _ => v = .agg #[.int .i64 6, .int .i64 2, .int .i64 6, .int .i64 300, .int .i64 3]) rfl rfl (by kernel_rfl) rfl (by simp only [dOk_some, dOk_none, Nat.reduceLT]) (fun G hG => small_does _)) (QOk_body _ _ _) (by first | exact .inl rfl | exact .inr ⟨_, _, rfl, rfl⟩) ?_
  rintro _ ⟨v, G1, rfl, hn1, rfl⟩
  clear hn1
  simp only [go_sem, Nat.reduceAdd, Nat.reduceSub, Nat.reduceMul, Nat.reduceEqDiff, Nat.reduceLT, Nat.reduceLeDiff, Nat.reduceBEq, Nat.reduceBNe, Int.reduceLT, Int.reduceLE, Int.reduceEq, Int.reduceAdd, Int.reduceSub, Int.reduceNeg, decide_true, decide_false, Bool.not_true, Bool.not_false, cond_true, cond_false, beq_self_eq_true, and_self, ne_eq, not_true_eq_false, not_false_eq_true, reduceCtorEq, Bool.true_beq, Bool.false_beq]
  intro g1
  refine plain_ok (N := 3000) (call_does (fun v G => ∃ dv d, v = .tuple #[dv, .bool true] ∧ DevG G dv d ∧ GoodDev smallGeo d ∧ d.fuel = -1 ∧ (d.cache.length : Int) ≤ 30) rfl rfl (by kernel_rfl) rfl (by simp only [dOk_some, dOk_none, Nat.reduceLT]) (fun G hG => devices_does (most := 30) smallGood (by omega) (by omega) hG.wf (tidL hG (by simp) (by simp; decide)) (ScR.mono h0 rawG_mono (hG.le ⟨Non, w⟩ (by simp))))) (QOk_body _ _ _) (by first | exact .inl rfl | exact .inr ⟨_, _, rfl, rfl⟩) ?_
  rintro _ ⟨_, G2, ⟨dv, d, rfl, hd, hg, hf, hc⟩, hn2, rfl⟩
  have hl02 : GW.Le ⟨Non, w⟩ G2 := hn2.le _ (by simp)
  clear hn2
  obtain ⟨A1, k1, A2, k2, A3, k3, rfl, hsf, hcf, hvf⟩ := hd.form
  have hs18 : d.safe.length = 18 := by have := hg.safe; simp only [sectorsOf, smallGeo] at this; omega
  simp only [go_sem, Nat.reduceAdd, Nat.reduceSub, Nat.reduceMul, Nat.reduceEqDiff, Nat.reduceLT, Nat.reduceLeDiff, Nat.reduceBEq, Nat.reduceBNe, Int.reduceLT, Int.reduceLE, Int.reduceEq, Int.reduceAdd, Int.reduceSub, Int.reduceNeg, decide_true, decide_false, Bool.not_true, Bool.not_false, cond_true, cond_false, beq_self_eq_true, and_self, ne_eq, not_true_eq_false, not_false_eq_true, reduceCtorEq, Bool.true_beq, Bool.false_beq]
  intro g2
  refine plain_ok (N := 3000) (call_does (fun v _ => ∃ k : Nat, (k : Int) = pick a1 (d.safe.length : Int) ∧ (k : Int) < (d.safe.length : Int) ∧ v = .int .i64 (k : Int)) rfl rfl (by kernel_rfl) rfl (by simp only [dOk_some, dOk_none, Nat.reduceLT]) (fun G hG => picked_does x1 x2 (by omega) (by omega))) (QOk_body _ _ _) (by first | exact .inl rfl | exact .inr ⟨_, _, rfl, rfl⟩) ?_
  rintro _ ⟨_, G3, ⟨n, _, hn, rfl⟩, hn3, rfl⟩
  have hl23 : G2.Le G3 := hn3.le G2 (by simp)
  clear hn3
  simp only [go_sem, Nat.reduceAdd, Nat.reduceSub, Nat.reduceMul, Nat.reduceEqDiff, Nat.reduceLT, Nat.reduceLeDiff, Nat.reduceBEq, Nat.reduceBNe, Int.reduceLT, Int.reduceLE, Int.reduceEq, Int.reduceAdd, Int.reduceSub, Int.reduceNeg, decide_true, decide_false, Bool.not_true, Bool.not_false, cond_true, cond_false, beq_self_eq_true, and_self, ne_eq, not_true_eq_false, not_false_eq_true, reduceCtorEq, Bool.true_beq, Bool.false_beq]
  have hnl : n < d.safe.length := by omega
  obtain ⟨s0, hs0⟩ : ∃ s0, d.safe[n]? = some s0 := ⟨_, List.getElem?_eq_getElem hnl⟩
  refine plain_ok (N := 3000) (elemC_does (R := RowG) (l := d.safe) (m := n) rfl tySlice29 tySize23 rfl rfl (by simp only [dOk_some, dOk_none, Nat.reduceLT]) rfl hs0 (fun G hG => (Sq.mono hsf rowG_mono (hG.le G2 (by simp))).sc)) (QOk_body _ _ _) (by first | exact .inl rfl | exact .inr ⟨_, _, rfl, rfl⟩) ?_
  rintro _ ⟨gw, ow, cs, G4, hcl, hcR, hn4, rfl⟩
  obtain ⟨A7, c7, rfl, hb7⟩ := rowcells hcR
  have hl24 : G2.Le G4 := hn4.le G2 (by simp)
  clear hn4 hcl hcR
  simp only [go_sem, Nat.reduceAdd, Nat.reduceSub, Nat.reduceMul, Nat.reduceEqDiff, Nat.reduceLT, Nat.reduceLeDiff, Nat.reduceBEq, Nat.reduceBNe, Int.reduceLT, Int.reduceLE, Int.reduceEq, Int.reduceAdd, Int.reduceSub, Int.reduceNeg, decide_true, decide_false, Bool.not_true, Bool.not_false, cond_true, cond_false, beq_self_eq_true, and_self, ne_eq, not_true_eq_false, not_false_eq_true, reduceCtorEq, Bool.true_beq, Bool.false_beq]
  refine plain_ok (N := 3000) (text_does (bs := s0) (e := 5) rfl tyStr9 tySlice23 tyInt5 rfl (by simp only [dOk_some, dOk_none, Nat.reduceLT]) (fun G hG => hb7.mono (hG.le G4 (by simp)))) (QOk_body _ _ _) (by first | exact .inl rfl | exact .inr ⟨_, _, rfl, rfl⟩) ?_
  rintro _ rfl
  simp only [go_sem, Nat.reduceAdd, Nat.reduceSub, Nat.reduceMul, Nat.reduceEqDiff, Nat.reduceLT, Nat.reduceLeDiff, Nat.reduceBEq, Nat.reduceBNe, Int.reduceLT, Int.reduceLE, Int.reduceEq, Int.reduceAdd, Int.reduceSub, Int.reduceNeg, decide_true, decide_false, Bool.not_true, Bool.not_false, cond_true, cond_false, beq_self_eq_true, and_self, ne_eq, not_true_eq_false, not_false_eq_true, reduceCtorEq, Bool.true_beq, Bool.false_beq]
  have hv0 : valTo (fun i => keep.getD i false) d n 0 = s0 := by simp [valTo, List.getD_eq_getElem?_getD, hs0]
  have hd4 : DevG G4 _ d := hd.mono hl24
  have hk4 : BoolsG G4 (.slice A' keep.length c') keep := ScR.mono h1 boolG_mono (hl02.trans hl24)
  rw [← hv0]
  refine loop_ok (N := 3000) (ι := Nat × GW)
    (fun i => match i with | (v, G) => ⟨[(1, .c (.v (.slice A' keep.length c'))), (7, .c (.p 0 g1 0)), (8, .c (.p 1 g2 0)), (10, .c (.v (.int .i64 (n : Int)))), (11, .c (.v (.string ⟨(valTo (fun i => keep.getD i false) d n v).toArray⟩))), (39, .c (.v (.slice A2 d.cache.length k2))), (40, .c (.v (.int .i64 (d.cache.length : Int)))), (41, .c (.v (.int .i64 (v : Int))))],
      [⟨1, g2, 37, [.v (.slice A1 d.safe.length k1), .v (.slice A2 d.cache.length k2), .v (.slice A3 d.vols.length k3), .v (.int .i64 d.fuel)]⟩, ⟨0, g1, 32, [.v (.int .i64 6), .v (.int .i64 2), .v (.int .i64 6), .v (.int .i64 300), .v (.int .i64 3)]⟩], [], [], [G], 3⟩)
    (fun i => match i with | (v, G) => v ≤ d.cache.length ∧ DevG G (.agg #[.slice A1 d.safe.length k1, .slice A2 d.cache.length k2, .slice A3 d.vols.length k3, .int .i64 d.fuel]) d ∧ CacG G (.slice A2 d.cache.length k2) d.cache ∧ BoolsG G (.slice A' keep.length c') keep)
    (fun i => d.cache.length - i.1) (QOk_body _ _ _) (0, G4) ⟨by omega, hd4, Sq.mono hcf wrG_mono hl24, hk4⟩ (by simp only [go_sem, Nat.reduceAdd, Nat.reduceSub, Nat.reduceMul, Nat.reduceEqDiff, Nat.reduceLT, Nat.reduceLeDiff, Nat.reduceBEq, Nat.reduceBNe, Int.reduceLT, Int.reduceLE, Int.reduceEq, Int.reduceAdd, Int.reduceSub, Int.reduceNeg, decide_true, decide_false, Bool.not_true, Bool.not_false, cond_true, cond_false, beq_self_eq_true, and_self, ne_eq, not_true_eq_false, not_false_eq_true, reduceCtorEq, Bool.true_beq, Bool.false_beq]; simp) ?_
  clear hd4 hk4 hl02 hl23 hl24 hd hsf hcf hvf hb7 G4
  rintro ⟨v, G4⟩ ⟨hv, hd4, hc4, hk4⟩
  simp only
  by_cases hlt : v < d.cache.length
  · have q1 : decide ((v : Int) < (d.cache.length : Int)) = true := decide_eq_true (by omega)
    obtain ⟨x, hx⟩ : ∃ x, d.cache[v]? = some x := ⟨_, List.getElem?_eq_getElem hlt⟩
    have hvs := val_succ (ok := fun i => keep.getD i false) (n := n) hx
    simp only [go_sem, Nat.reduceAdd, Nat.reduceSub, Nat.reduceMul, Nat.reduceEqDiff, Nat.reduceLT, Nat.reduceLeDiff, Nat.reduceBEq, Nat.reduceBNe, Int.reduceLT, Int.reduceLE, Int.reduceEq, Int.reduceAdd, Int.reduceSub, Int.reduceNeg, decide_true, decide_false, Bool.not_true, Bool.not_false, cond_true, cond_false, beq_self_eq_true, and_self, ne_eq, not_true_eq_false, not_false_eq_true, reduceCtorEq, Bool.true_beq, Bool.false_beq, q1]
    refine plain_ok (N := 3000) (elemC_does (R := WrG) (l := d.cache) (m := v) rfl tySlice34 tySize61 rfl rfl (by simp only [dOk_some, dOk_none, Nat.reduceLT]) rfl hx (fun G hG => (Sq.mono hc4 wrG_mono (hG.le G4 (by simp))).sc)) (QOk_body _ _ _) (by first | exact .inl rfl | exact .inr ⟨_, _, rfl, rfl⟩) ?_
    rintro _ ⟨gw, ow, cs, G5, hcl, hcR, hn5, rfl⟩
    obtain ⟨A7, c7, rfl, hb7⟩ := wrcells hcR
    have hl45 : G4.Le G5 := hn5.le G4 (by simp)
    clear hn5 hcl hcR
    by_cases ek : v < keep.length
    · have qk : decide ((v : Int) < (keep.length : Int)) = true := decide_eq_true (by omega)
      obtain ⟨b, hb⟩ : ∃ b, keep[v]? = some b := ⟨_, List.getElem?_eq_getElem ek⟩
      have hkp : keep.getD v false = b := by rw [List.getD_eq_getElem?_getD, hb]; rfl
      simp only [go_sem, Nat.reduceAdd, Nat.reduceSub, Nat.reduceMul, Nat.reduceEqDiff, Nat.reduceLT, Nat.reduceLeDiff, Nat.reduceBEq, Nat.reduceBNe, Int.reduceLT, Int.reduceLE, Int.reduceEq, Int.reduceAdd, Int.reduceSub, Int.reduceNeg, decide_true, decide_false, Bool.not_true, Bool.not_false, cond_true, cond_false, beq_self_eq_true, and_self, ne_eq, not_true_eq_false, not_false_eq_true, reduceCtorEq, Bool.true_beq, Bool.false_beq, qk]
      intro g9
      refine plain_ok (N := 3000) (elemC_does (R := BoolG) (l := keep) (m := v) rfl tySlice51 tySize4 rfl rfl (by simp only [dOk_some, dOk_none, Nat.reduceLT]) rfl hb (fun G hG => ScR.mono hk4 boolG_mono (hG.le G4 (by simp)))) (QOk_body _ _ _) (by first | exact .inl rfl | exact .inr ⟨_, _, rfl, rfl⟩) ?_
      rintro _ ⟨gw2, ow2, cs, G6, hcl, rfl, hn6, rfl⟩
      have hl56 : G5.Le G6 := hn6.le G5 (by simp)
      have hl46 : G4.Le G6 := hl45.trans hl56
      clear hn6 hcl
      cases b with
      | false =>
        have hvn : valTo (fun i => keep.getD i false) d n (v + 1) = valTo (fun i => keep.getD i false) d n v := by rw [hvs]; simp only [hkp, Bool.false_and, Bool.false_eq_true, if_false]
        simp only [go_sem, Nat.reduceAdd, Nat.reduceSub, Nat.reduceMul, Nat.reduceEqDiff, Nat.reduceLT, Nat.reduceLeDiff, Nat.reduceBEq, Nat.reduceBNe, Int.reduceLT, Int.reduceLE, Int.reduceEq, Int.reduceAdd, Int.reduceSub, Int.reduceNeg, decide_true, decide_false, Bool.not_true, Bool.not_false, cond_true, cond_false, beq_self_eq_true, and_self, ne_eq, not_true_eq_false, not_false_eq_true, reduceCtorEq, Bool.true_beq, Bool.false_beq]
        exact ⟨by omega, again_ok (v + 1, G6) ⟨by omega, hd4.mono hl46, Sq.mono hc4 wrG_mono hl46, ScR.mono hk4 boolG_mono hl46⟩ (by simp only; omega) (by simp only [go_sem, Nat.reduceAdd, Nat.reduceSub, Nat.reduceMul, Nat.reduceEqDiff, Nat.reduceLT, Nat.reduceLeDiff, Nat.reduceBEq, Nat.reduceBNe, Int.reduceLT, Int.reduceLE, Int.reduceEq, Int.reduceAdd, Int.reduceSub, Int.reduceNeg, decide_true, decide_false, Bool.not_true, Bool.not_false, cond_true, cond_false, beq_self_eq_true, and_self, ne_eq, not_true_eq_false, not_false_eq_true, reduceCtorEq, Bool.true_beq, Bool.false_beq, hvn]; simp)⟩
      | true =>
        by_cases ea : x.at_ = (n : Int)
        · have qa : decide (x.at_ = (n : Int)) = true := decide_eq_true ea
          have hvn : valTo (fun i => keep.getD i false) d n (v + 1) = x.data := by rw [hvs]; simp only [hkp, qa, Bool.and_self, if_true]
          simp only [go_sem, Nat.reduceAdd, Nat.reduceSub, Nat.reduceMul, Nat.reduceEqDiff, Nat.reduceLT, Nat.reduceLeDiff, Nat.reduceBEq, Nat.reduceBNe, Int.reduceLT, Int.reduceLE, Int.reduceEq, Int.reduceAdd, Int.reduceSub, Int.reduceNeg, decide_true, decide_false, Bool.not_true, Bool.not_false, cond_true, cond_false, beq_self_eq_true, and_self, ne_eq, not_true_eq_false, not_false_eq_true, reduceCtorEq, Bool.true_beq, Bool.false_beq, qa]
          refine plain_ok (N := 3000) (text_does (bs := x.data) (e := 5) rfl tyStr9 tySlice23 tyInt5 rfl (by simp only [dOk_some, dOk_none, Nat.reduceLT]) (fun G hG => hb7.mono (hG.le G5 (by simp)))) (QOk_body _ _ _) (by first | exact .inl rfl | exact .inr ⟨_, _, rfl, rfl⟩) ?_
          rintro _ rfl
          simp only [go_sem, Nat.reduceAdd, Nat.reduceSub, Nat.reduceMul, Nat.reduceEqDiff, Nat.reduceLT, Nat.reduceLeDiff, Nat.reduceBEq, Nat.reduceBNe, Int.reduceLT, Int.reduceLE, Int.reduceEq, Int.reduceAdd, Int.reduceSub, Int.reduceNeg, decide_true, decide_false, Bool.not_true, Bool.not_false, cond_true, cond_false, beq_self_eq_true, and_self, ne_eq, not_true_eq_false, not_false_eq_true, reduceCtorEq, Bool.true_beq, Bool.false_beq]
          exact ⟨by omega, again_ok (v + 1, G6) ⟨by omega, hd4.mono hl46, Sq.mono hc4 wrG_mono hl46, ScR.mono hk4 boolG_mono hl46⟩ (by simp only; omega) (by simp only [go_sem, Nat.reduceAdd, Nat.reduceSub, Nat.reduceMul, Nat.reduceEqDiff, Nat.reduceLT, Nat.reduceLeDiff, Nat.reduceBEq, Nat.reduceBNe, Int.reduceLT, Int.reduceLE, Int.reduceEq, Int.reduceAdd, Int.reduceSub, Int.reduceNeg, decide_true, decide_false, Bool.not_true, Bool.not_false, cond_true, cond_false, beq_self_eq_true, and_self, ne_eq, not_true_eq_false, not_false_eq_true, reduceCtorEq, Bool.true_beq, Bool.false_beq, hvn]; simp)⟩
        · have qa : decide (x.at_ = (n : Int)) = false := decide_eq_false ea
          have hvn : valTo (fun i => keep.getD i false) d n (v + 1) = valTo (fun i => keep.getD i false) d n v := by rw [hvs]; simp only [qa, Bool.and_false, Bool.false_eq_true, if_false]
          simp only [go_sem, Nat.reduceAdd, Nat.reduceSub, Nat.reduceMul, Nat.reduceEqDiff, Nat.reduceLT, Nat.reduceLeDiff, Nat.reduceBEq, Nat.reduceBNe, Int.reduceLT, Int.reduceLE, Int.reduceEq, Int.reduceAdd, Int.reduceSub, Int.reduceNeg, decide_true, decide_false, Bool.not_true, Bool.not_false, cond_true, cond_false, beq_self_eq_true, and_self, ne_eq, not_true_eq_false, not_false_eq_true, reduceCtorEq, Bool.true_beq, Bool.false_beq, qa]
          exact ⟨by omega, again_ok (v + 1, G6) ⟨by omega, hd4.mono hl46, Sq.mono hc4 wrG_mono hl46, ScR.mono hk4 boolG_mono hl46⟩ (by simp only; omega) (by simp only [go_sem, Nat.reduceAdd, Nat.reduceSub, Nat.reduceMul, Nat.reduceEqDiff, Nat.reduceLT, Nat.reduceLeDiff, Nat.reduceBEq, Nat.reduceBNe, Int.reduceLT, Int.reduceLE, Int.reduceEq, Int.reduceAdd, Int.reduceSub, Int.reduceNeg, decide_true, decide_false, Bool.not_true, Bool.not_false, cond_true, cond_false, beq_self_eq_true, and_self, ne_eq, not_true_eq_false, not_false_eq_true, reduceCtorEq, Bool.true_beq, Bool.false_beq, hvn]; simp)⟩
    · have qk : decide ((v : Int) < (keep.length : Int)) = false := decide_eq_false (by omega)
      have hkp : keep.getD v false = false := by rw [List.getD_eq_getElem?_getD, List.getElem?_eq_none (by omega)]; rfl
      have hvn : valTo (fun i => keep.getD i false) d n (v + 1) = valTo (fun i => keep.getD i false) d n v := by rw [hvs]; simp only [hkp, Bool.false_and, Bool.false_eq_true, if_false]
      simp only [go_sem, Nat.reduceAdd, Nat.reduceSub, Nat.reduceMul, Nat.reduceEqDiff, Nat.reduceLT, Nat.reduceLeDiff, Nat.reduceBEq, Nat.reduceBNe, Int.reduceLT, Int.reduceLE, Int.reduceEq, Int.reduceAdd, Int.reduceSub, Int.reduceNeg, decide_true, decide_false, Bool.not_true, Bool.not_false, cond_true, cond_false, beq_self_eq_true, and_self, ne_eq, not_true_eq_false, not_false_eq_true, reduceCtorEq, Bool.true_beq, Bool.false_beq, qk]
      intro g9
      exact ⟨by omega, again_ok (v + 1, G5) ⟨by omega, hd4.mono hl45, Sq.mono hc4 wrG_mono hl45, ScR.mono hk4 boolG_mono hl45⟩ (by simp only; omega) (by simp only [go_sem, Nat.reduceAdd, Nat.reduceSub, Nat.reduceMul, Nat.reduceEqDiff, Nat.reduceLT, Nat.reduceLeDiff, Nat.reduceBEq, Nat.reduceBNe, Int.reduceLT, Int.reduceLE, Int.reduceEq, Int.reduceAdd, Int.reduceSub, Int.reduceNeg, decide_true, decide_false, Bool.not_true, Bool.not_false, cond_true, cond_false, beq_self_eq_true, and_self, ne_eq, not_true_eq_false, not_false_eq_true, reduceCtorEq, Bool.true_beq, Bool.false_beq, hvn]; simp)⟩
  · have q1 : decide ((v : Int) < (d.cache.length : Int)) = false := decide_eq_false (by omega)
    obtain rfl : v = d.cache.length := by omega
    simp only [go_sem, Nat.reduceAdd, Nat.reduceSub, Nat.reduceMul, Nat.reduceEqDiff, Nat.reduceLT, Nat.reduceLeDiff, Nat.reduceBEq, Nat.reduceBNe, Int.reduceLT, Int.reduceLE, Int.reduceEq, Int.reduceAdd, Int.reduceSub, Int.reduceNeg, decide_true, decide_false, Bool.not_true, Bool.not_false, cond_true, cond_false, beq_self_eq_true, and_self, ne_eq, not_true_eq_false, not_false_eq_true, reduceCtorEq, Bool.true_beq, Bool.false_beq, q1]
    refine plain_ok (N := 3000) (call_does (fun v G => ∃ dv, v = .tuple #[dv, .int .i64 0] ∧ DevG G dv (crashDev d keep 0)) rfl rfl (by kernel_rfl) rfl (by simp only [dOk_some, dOk_none, Nat.reduceLT]) (fun G hG => ret_mono (crash_does (keep := keep) (t := 0) smallGood hg (by omega) hG.wf (tidL hG (by simp) (by simp; decide)) (hd4.mono (hG.le G4 (by simp))) (ScR.mono hk4 boolG_mono (hG.le G4 (by simp)))) fun v G' _ h => dev_get h (by decide))) (QOk_body _ _ _) (by first | exact .inl rfl | exact .inr ⟨_, _, rfl, rfl⟩) ?_
    rintro _ ⟨_, G5, ⟨dv, rfl, hd5⟩, hn5, rfl⟩
    clear hn5
    have hcc := content_crash hg keep 0 n hnl
    have hg5 := good_crash (keep := keep) (t := 0) hg (by omega)
    have hf5 : (crashDev d keep 0).fuel = -1 := rfl
    have hs5 : (crashDev d keep 0).safe.length = 18 := by show (putsTo _ d d.cache.length).length = 18; rw [puts_len]; exact hs18
    generalize crashDev d keep 0 = d5 at hd5 hcc hg5 hf5 hs5
    obtain ⟨B1, m1, B2, m2, B3, m3, rfl, hfo⟩ := hd5.form
    clear hfo
    simp only [go_sem, Nat.reduceAdd, Nat.reduceSub, Nat.reduceMul, Nat.reduceEqDiff, Nat.reduceLT, Nat.reduceLeDiff, Nat.reduceBEq, Nat.reduceBNe, Int.reduceLT, Int.reduceLE, Int.reduceEq, Int.reduceAdd, Int.reduceSub, Int.reduceNeg, decide_true, decide_false, Bool.not_true, Bool.not_false, cond_true, cond_false, beq_self_eq_true, and_self, ne_eq, not_true_eq_false, not_false_eq_true, reduceCtorEq, Bool.true_beq, Bool.false_beq]
    intro g3
    refine plain_ok (N := 3000) (call_does (fun v G => ∃ A c, v = .tuple #[.slice A 64 c, .int .i64 0] ∧ ByG G (.slice A 64 c) (content d5 n)) rfl rfl (by kernel_rfl) rfl (by simp only [dOk_some, dOk_none, Nat.reduceLT]) (fun G hG => get_ok smallGood hg5 (by omega) hG.wf (hd5.mono (hG.le G5 (by simp))))) (QOk_body _ _ _) (by first | exact .inl rfl | exact .inr ⟨_, _, rfl, rfl⟩) ?_
    rintro _ ⟨_, G6, ⟨Ag, cg, rfl, hgot⟩, hn6, rfl⟩
    clear hn6
    rw [hcc] at hgot
    simp only [go_sem, Nat.reduceAdd, Nat.reduceSub, Nat.reduceMul, Nat.reduceEqDiff, Nat.reduceLT, Nat.reduceLeDiff, Nat.reduceBEq, Nat.reduceBNe, Int.reduceLT, Int.reduceLE, Int.reduceEq, Int.reduceAdd, Int.reduceSub, Int.reduceNeg, decide_true, decide_false, Bool.not_true, Bool.not_false, cond_true, cond_false, beq_self_eq_true, and_self, ne_eq, not_true_eq_false, not_false_eq_true, reduceCtorEq, Bool.true_beq, Bool.false_beq]
    refine plain_ok (N := 3000) (text_does (bs := valTo (fun i => keep.getD i false) d n d.cache.length) (e := 5) rfl tyStr9 tySlice23 tyInt5 rfl (by simp only [dOk_some, dOk_none, Nat.reduceLT]) (fun G hG => hgot.mono (hG.le G6 (by simp)))) (QOk_body _ _ _) (by first | exact .inl rfl | exact .inr ⟨_, _, rfl, rfl⟩) ?_
    rintro _ rfl
    have qf : decide (d5.fuel = -1) = true := decide_eq_true hf5
    simp only [go_sem, Nat.reduceAdd, Nat.reduceSub, Nat.reduceMul, Nat.reduceEqDiff, Nat.reduceLT, Nat.reduceLeDiff, Nat.reduceBEq, Nat.reduceBNe, Int.reduceLT, Int.reduceLE, Int.reduceEq, Int.reduceAdd, Int.reduceSub, Int.reduceNeg, decide_true, decide_false, Bool.not_true, Bool.not_false, cond_true, cond_false, beq_self_eq_true, and_self, ne_eq, not_true_eq_false, not_false_eq_true, reduceCtorEq, Bool.true_beq, Bool.false_beq, qf]
    refine fin_ret (G := ⟨Non, w⟩) Try.results9 ?_
    simp only [go_sem, Nat.reduceAdd, Nat.reduceSub, Nat.reduceMul, Nat.reduceEqDiff, Nat.reduceLT, Nat.reduceLeDiff, Nat.reduceBEq, Nat.reduceBNe, Int.reduceLT, Int.reduceLE, Int.reduceEq, Int.reduceAdd, Int.reduceSub, Int.reduceNeg, decide_true, decide_false, Bool.not_true, Bool.not_false, cond_true, cond_false, beq_self_eq_true, and_self, ne_eq, not_true_eq_false, not_false_eq_true, reduceCtorEq, Bool.true_beq, Bool.false_beq]
    intro aa w' _ _
    rfl
theorem crashEither_walk {w : World} (v0 : Value) (l0 : List Raw) (h0 : RawsG ⟨Non, w⟩ v0 l0) (v1 : Value) (keep : List Bool) (h1 : BoolsG ⟨Non, w⟩ v1 keep) (a1 : Int) (w1 : (Lit.int .i64 a1).wf = true) :
    Calls Try.prog 9 #[v0, v1, .int .i64 a1] w fun e w' => e = .returned (.bool true) ∧ Below w.heap.size w w' :=
  (crashEither_ret v0 l0 h0 v1 keep h1 a1 w1).mono fun e w' ⟨v, he, hv, hc⟩ => ⟨by rw [he, hv], hc.below⟩
end Go.Proofs.Ytomfladifefomaa
