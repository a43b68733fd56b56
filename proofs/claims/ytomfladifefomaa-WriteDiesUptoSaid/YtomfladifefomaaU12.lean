/- 'icehousekeep.WriteRead' returns true for every int, text, two ints and slice of bools. Conditions: none. -/
import Derived.Test.YtomfladifefomaaH4
namespace Go.Proofs.Ytomfladifefomaa
open Go.RowKit
set_option linter.unusedSimpArgs false
theorem read_gets {g : Geo} (hg : GoodGeo g) {d : Dev} (hd : GoodDev g d) {dv lv : Value} {l : List Int} {b : List UInt8} (hroom : roomB g l (b.length : Int) = true) (hr : (readTo g d l l.length).take b.length = b) {G0 : GW} (hW : G0.Wf) (h : DevG G0 dv d) (hl : IntsG G0 lv l) :
    Calls Try.prog 45 #[geoV g, dv, lv, .int .i64 (b.length : Int)] G0.w (Ret G0 fun v G => ∃ A c, v = .tuple #[.slice A b.length c, .int .i64 0] ∧ ByG G (.slice A b.length c) b) :=
  ret_mono (read_does hg hd hroom hW h hl) fun _ _ _ ⟨A, c, e, hb, _⟩ => ⟨A, c, e, by rw [hr] at hb; exact hb⟩
set_option maxRecDepth 100000 in
set_option maxHeartbeats 16000000 in
theorem writeRead_ret {w : World} (a0 : Int) (w0 : (Lit.int .i64 a0).wf = true) (s : ByteArray) (hs : s.size ≤ maxLen) (a2 : Int) (w2 : (Lit.int .i64 a2).wf = true) (a3 : Int) (w3 : (Lit.int .i64 a3).wf = true) (v4 : Value) (keep : List Bool) (h4 : BoolsG ⟨Non, w⟩ v4 keep) :
    Calls Try.prog 14 #[.int .i64 a0, .string s, .int .i64 a2, .int .i64 a3, v4] w (Ret ⟨Non, w⟩ fun v _ => v = .bool true) := by
  obtain ⟨A', c', rfl, _, _⟩ := ScR.form h4
  have i0 : i64 a0 := i64_bd w0
  have i2 : i64 a2 := i64_bd w2
  have i3 : i64 a3 := i64_bd w3
  refine enter (G := ⟨Non, w⟩) (n := 120) 3000 (wf_nonL w) Try.func14 rfl Try.ntmps14 (by simp) ?_
  simp only [go_sem, Nat.reduceAdd, Nat.reduceSub, Nat.reduceMul, Nat.reduceEqDiff, Nat.reduceLT, Nat.reduceLeDiff, Nat.reduceBEq, Nat.reduceBNe, Int.reduceLT, Int.reduceLE, Int.reduceEq, Int.reduceAdd, Int.reduceSub, Int.reduceNeg, decide_true, decide_false, Bool.not_true, Bool.not_false, cond_true, cond_false, beq_self_eq_true, and_self, ne_eq, not_true_eq_false, not_false_eq_true, reduceCtorEq, Bool.true_beq, Bool.false_beq]
  refine plain_ok (N := 3000) (call_does (fun v _ => ∃ g : Geo, v = .agg #[.int .i64 g.ring, .int .i64 g.area, .int .i64 g.hot, .int .i64 g.volume, .int .i64 g.volumes] ∧ GoodGeo g ∧ (g.hot = 11 ∨ g.hot = 22 ∨ g.hot = 31)) rfl rfl (by kernel_rfl) rfl (by simp only [dOk_some, dOk_none, Nat.reduceLT]) (fun G hG => sevens_does i0 hG.wf)) (QOk_body _ _ _) (by first | exact .inl rfl | exact .inr ⟨_, _, rfl, rfl⟩) ?_
  rintro _ ⟨_, G1, ⟨g, rfl, hg, hh⟩, hn1, rfl⟩
  clear hn1
  simp only [go_sem, Nat.reduceAdd, Nat.reduceSub, Nat.reduceMul, Nat.reduceEqDiff, Nat.reduceLT, Nat.reduceLeDiff, Nat.reduceBEq, Nat.reduceBNe, Int.reduceLT, Int.reduceLE, Int.reduceEq, Int.reduceAdd, Int.reduceSub, Int.reduceNeg, decide_true, decide_false, Bool.not_true, Bool.not_false, cond_true, cond_false, beq_self_eq_true, and_self, ne_eq, not_true_eq_false, not_false_eq_true, reduceCtorEq, Bool.true_beq, Bool.false_beq]
  intro g1
  refine plain_ok (N := 3000) (call_does (fun v _ => v = .string (bodyOf s a2)) rfl rfl (by kernel_rfl) rfl (by simp only [dOk_some, dOk_none, Nat.reduceLT]) (fun G hG => body_does hs i2 hG.wf)) (QOk_body _ _ _) (by first | exact .inl rfl | exact .inr ⟨_, _, rfl, rfl⟩) ?_
  rintro _ ⟨_, G2, rfl, hn2, rfl⟩
  clear hn2
  have hbs := bodyOf_size s a2
  generalize bodyOf s a2 = t at hbs
  simp only [go_sem, Nat.reduceAdd, Nat.reduceSub, Nat.reduceMul, Nat.reduceEqDiff, Nat.reduceLT, Nat.reduceLeDiff, Nat.reduceBEq, Nat.reduceBNe, Int.reduceLT, Int.reduceLE, Int.reduceEq, Int.reduceAdd, Int.reduceSub, Int.reduceNeg, decide_true, decide_false, Bool.not_true, Bool.not_false, cond_true, cond_false, beq_self_eq_true, and_self, ne_eq, not_true_eq_false, not_false_eq_true, reduceCtorEq, Bool.true_beq, Bool.false_beq]
  refine plain_ok (N := 3000) (bytes_does (e := 5) rfl (tyStr9) (tySlice23) (tyInt5) rfl (by simp only [dOk_some, dOk_none, Nat.reduceLT]) (by omega)) (QOk_body _ _ _) (by first | exact .inl rfl | exact .inr ⟨_, _, rfl, rfl⟩) ?_
  rintro _ ⟨Ab, cb, G3, hby, rfl⟩
  have hbl : t.data.toList.length ≤ 600 := by rw [Array.length_toList]; exact hbs
  generalize t.data.toList = b at hby hbl
  simp only [go_sem, Nat.reduceAdd, Nat.reduceSub, Nat.reduceMul, Nat.reduceEqDiff, Nat.reduceLT, Nat.reduceLeDiff, Nat.reduceBEq, Nat.reduceBNe, Int.reduceLT, Int.reduceLE, Int.reduceEq, Int.reduceAdd, Int.reduceSub, Int.reduceNeg, decide_true, decide_false, Bool.not_true, Bool.not_false, cond_true, cond_false, beq_self_eq_true, and_self, ne_eq, not_true_eq_false, not_false_eq_true, reduceCtorEq, Bool.true_beq, Bool.false_beq]
  obtain ⟨k, hk⟩ : ∃ k : Nat, (k : Int) = ((b.length : Int) + 63) / 64 := ⟨(((b.length : Int) + 63) / 64).toNat, by omega⟩
  refine plain_ok (N := 3000) (call_does (fun v G => ∃ A c, v = .slice A k c ∧ IntsG G (.slice A k c) (spotsTo g.hot (pick a3 g.hot) k)) rfl rfl (by kernel_rfl) rfl (by simp only [dOk_some, dOk_none, Nat.reduceLT]) (fun G hG => ret_mono (spots_does (n := k) hg i3 hk (by omega) (by omega) hG.wf) fun v G' _ h => by obtain ⟨A, c, rfl, _⟩ := h.form; rw [spotsTo_len] at h; rw [spotsTo_len]; exact ⟨A, c, rfl, h⟩)) (QOk_body _ _ _) (by first | exact .inl rfl | exact .inr ⟨_, _, rfl, rfl⟩) ?_
  rintro _ ⟨_, G4, ⟨Al, cl, rfl, hl⟩, hn4, rfl⟩
  clear hn4
  have hsp : Spread g.hot (spotsTo g.hot (pick a3 g.hot) k) := spots_spread hh (by omega)
  have hll := spotsTo_len g.hot (pick a3 g.hot) k
  generalize spotsTo g.hot (pick a3 g.hot) k = l at hl hsp hll
  have hroom : roomB g l (b.length : Int) = true := roomB_yes hsp ⟨by omega, by omega, by omega⟩
  have hbad : roomB g l ((b.length : Int) + 64) = false := roomB_no (by omega)
  simp only [go_sem, Nat.reduceAdd, Nat.reduceSub, Nat.reduceMul, Nat.reduceEqDiff, Nat.reduceLT, Nat.reduceLeDiff, Nat.reduceBEq, Nat.reduceBNe, Int.reduceLT, Int.reduceLE, Int.reduceEq, Int.reduceAdd, Int.reduceSub, Int.reduceNeg, decide_true, decide_false, Bool.not_true, Bool.not_false, cond_true, cond_false, beq_self_eq_true, and_self, ne_eq, not_true_eq_false, not_false_eq_true, reduceCtorEq, Bool.true_beq, Bool.false_beq]
  refine plain_ok (N := 3000) (call_does (fun v G => ∃ dv, v = .tuple #[dv, .int .i64 0] ∧ DevG G dv (newDev g)) rfl rfl (by kernel_rfl) rfl (by simp only [dOk_some, dOk_none, Nat.reduceLT]) (fun G hG => new_does hg hG.wf (tidL hG (by simp) (by simp; decide)))) (QOk_body _ _ _) (by first | exact .inl rfl | exact .inr ⟨_, _, rfl, rfl⟩) ?_
  rintro _ ⟨_, G5, ⟨dv, rfl, hd0⟩, hn5, rfl⟩
  clear hn5
  have hg0 := newGood g hg
  have hf0 : (newDev g).fuel = -1 := rfl
  have hc0 : (newDev g).cache.length = 0 := rfl
  generalize newDev g = d0 at hd0 hg0 hf0 hc0
  obtain ⟨A1, k1, A2, k2, A3, k3, rfl, hfo⟩ := hd0.form
  clear hfo
  simp only [go_sem, Nat.reduceAdd, Nat.reduceSub, Nat.reduceMul, Nat.reduceEqDiff, Nat.reduceLT, Nat.reduceLeDiff, Nat.reduceBEq, Nat.reduceBNe, Int.reduceLT, Int.reduceLE, Int.reduceEq, Int.reduceAdd, Int.reduceSub, Int.reduceNeg, decide_true, decide_false, Bool.not_true, Bool.not_false, cond_true, cond_false, beq_self_eq_true, and_self, ne_eq, not_true_eq_false, not_false_eq_true, reduceCtorEq, Bool.true_beq, Bool.false_beq]
  intro g2
  refine plain_ok (N := 3000) (call_does (fun v G => ∃ dv, v = .tuple #[dv, .int .i64 0] ∧ DevG G dv (flushDev (writeTo g d0 l b l.length)) ∧ GoodDev g (writeTo g d0 l b l.length)) rfl rfl (by kernel_rfl) rfl (by simp only [dOk_some, dOk_none, Nat.reduceLT]) (fun G hG => ret_mono (write_does hg hg0 hroom (by omega) hG.wf (tidL hG (by simp) (by simp; decide)) (hd0.mono (hG.le G5 (by simp))) (hl.mono (hG.le G4 (by simp))) (ByG.mono hby (hG.le G3 (by simp)))) fun v G' _ h => by rcases h with ⟨dv, e, h1, _, h2⟩ | ⟨dv, i, _, _, _, hfu, _⟩; exact ⟨dv, e, h1, h2⟩; rw [writeTo_fuel hf0] at hfu; omega)) (QOk_body _ _ _) (by first | exact .inl rfl | exact .inr ⟨_, _, rfl, rfl⟩) ?_
  rintro _ ⟨_, G6, ⟨dv, rfl, hd1, hgw⟩, hn6, rfl⟩
  clear hn6
  have hr1 := flushed_read hg hsp hgw (show b.length ≤ 64 * l.length by omega)
  have hg1 := good_flush hgw
  have hc1 : (flushDev (writeTo g d0 l b l.length)).cache = [] := rfl
  generalize flushDev (writeTo g d0 l b l.length) = x1 at hd1 hr1 hg1 hc1
  obtain ⟨B1, m1, B2, m2, B3, m3, rfl, hfo⟩ := hd1.form
  clear hfo
  simp only [go_sem, Nat.reduceAdd, Nat.reduceSub, Nat.reduceMul, Nat.reduceEqDiff, Nat.reduceLT, Nat.reduceLeDiff, Nat.reduceBEq, Nat.reduceBNe, Int.reduceLT, Int.reduceLE, Int.reduceEq, Int.reduceAdd, Int.reduceSub, Int.reduceNeg, decide_true, decide_false, Bool.not_true, Bool.not_false, cond_true, cond_false, beq_self_eq_true, and_self, ne_eq, not_true_eq_false, not_false_eq_true, reduceCtorEq, Bool.true_beq, Bool.false_beq]
  refine plain_ok (N := 3000) (call_does (fun v G => ∃ A c, v = .tuple #[.slice A b.length c, .int .i64 0] ∧ ByG G (.slice A b.length c) b) rfl rfl (by kernel_rfl) rfl (by simp only [dOk_some, dOk_none, Nat.reduceLT]) (fun G hG => read_gets hg hg1 hroom hr1 hG.wf (hd1.mono (hG.le G6 (by simp))) (hl.mono (hG.le G4 (by simp))))) (QOk_body _ _ _) (by first | exact .inl rfl | exact .inr ⟨_, _, rfl, rfl⟩) ?_
  rintro _ ⟨_, G7, ⟨Ag, cg, rfl, hgot⟩, hn7, rfl⟩
  clear hn7
  simp only [go_sem, Nat.reduceAdd, Nat.reduceSub, Nat.reduceMul, Nat.reduceEqDiff, Nat.reduceLT, Nat.reduceLeDiff, Nat.reduceBEq, Nat.reduceBNe, Int.reduceLT, Int.reduceLE, Int.reduceEq, Int.reduceAdd, Int.reduceSub, Int.reduceNeg, decide_true, decide_false, Bool.not_true, Bool.not_false, cond_true, cond_false, beq_self_eq_true, and_self, ne_eq, not_true_eq_false, not_false_eq_true, reduceCtorEq, Bool.true_beq, Bool.false_beq]
  refine plain_ok (N := 3000) (call_does (fun v G => ∃ dv, v = .tuple #[dv, .int .i64 0] ∧ DevG G dv (crashDev x1 keep 0)) rfl rfl (by kernel_rfl) rfl (by simp only [dOk_some, dOk_none, Nat.reduceLT]) (fun G hG => ret_mono (crash_does (keep := keep) (t := 0) hg hg1 (by omega) hG.wf (tidL hG (by simp) (by simp; decide)) (hd1.mono (hG.le G6 (by simp))) (ScR.mono h4 boolG_mono (hG.le ⟨Non, w⟩ (by simp)))) fun v G' _ h => dev_get h (by decide))) (QOk_body _ _ _) (by first | exact .inl rfl | exact .inr ⟨_, _, rfl, rfl⟩) ?_
  rintro _ ⟨_, G8, ⟨dv, rfl, hd2⟩, hn8, rfl⟩
  clear hn8
  have hg2 := good_crash (keep := keep) (t := 0) hg1 (by omega)
  have hr2 : (readTo g (crashDev x1 keep 0) l l.length).take b.length = b := by
    rw [readTo_same (d := x1) (fun n hn => crash_flushed hg1 keep 0 (in_safe hg hg1 (spread_mem hsp hn).1 (spread_mem hsp hn).2) hc1)]
    exact hr1
  generalize crashDev x1 keep 0 = x2 at hd2 hg2 hr2
  obtain ⟨C1, n1, C2, n2, C3, n3, rfl, hfo⟩ := hd2.form
  clear hfo
  simp only [go_sem, Nat.reduceAdd, Nat.reduceSub, Nat.reduceMul, Nat.reduceEqDiff, Nat.reduceLT, Nat.reduceLeDiff, Nat.reduceBEq, Nat.reduceBNe, Int.reduceLT, Int.reduceLE, Int.reduceEq, Int.reduceAdd, Int.reduceSub, Int.reduceNeg, decide_true, decide_false, Bool.not_true, Bool.not_false, cond_true, cond_false, beq_self_eq_true, and_self, ne_eq, not_true_eq_false, not_false_eq_true, reduceCtorEq, Bool.true_beq, Bool.false_beq]
  intro g3
  refine plain_ok (N := 3000) (call_does (fun v G => ∃ A c, v = .tuple #[.slice A b.length c, .int .i64 0] ∧ ByG G (.slice A b.length c) b) rfl rfl (by kernel_rfl) rfl (by simp only [dOk_some, dOk_none, Nat.reduceLT]) (fun G hG => read_gets hg hg2 hroom hr2 hG.wf (hd2.mono (hG.le G8 (by simp))) (hl.mono (hG.le G4 (by simp))))) (QOk_body _ _ _) (by first | exact .inl rfl | exact .inr ⟨_, _, rfl, rfl⟩) ?_
  rintro _ ⟨_, G9, ⟨As, cs, rfl, hsafe⟩, hn9, rfl⟩
  clear hn9
  simp only [go_sem, Nat.reduceAdd, Nat.reduceSub, Nat.reduceMul, Nat.reduceEqDiff, Nat.reduceLT, Nat.reduceLeDiff, Nat.reduceBEq, Nat.reduceBNe, Int.reduceLT, Int.reduceLE, Int.reduceEq, Int.reduceAdd, Int.reduceSub, Int.reduceNeg, decide_true, decide_false, Bool.not_true, Bool.not_false, cond_true, cond_false, beq_self_eq_true, and_self, ne_eq, not_true_eq_false, not_false_eq_true, reduceCtorEq, Bool.true_beq, Bool.false_beq]
  refine ⟨by omega, ?_⟩
  refine plain_ok (N := 3000) (call_does (fun v _ => v = .tuple #[.slice none 0 0, .int .i64 2]) rfl rfl (by kernel_rfl) rfl (by simp only [dOk_some, dOk_none, Nat.reduceLT]) (fun G hG => read_bad hg hg1 hbad hG.wf (hd1.mono (hG.le G6 (by simp))) (hl.mono (hG.le G4 (by simp))))) (QOk_body _ _ _) (by first | exact .inl rfl | exact .inr ⟨_, _, rfl, rfl⟩) ?_
  rintro _ ⟨_, G10, rfl, hn10, rfl⟩
  clear hn10
  simp only [go_sem, Nat.reduceAdd, Nat.reduceSub, Nat.reduceMul, Nat.reduceEqDiff, Nat.reduceLT, Nat.reduceLeDiff, Nat.reduceBEq, Nat.reduceBNe, Int.reduceLT, Int.reduceLE, Int.reduceEq, Int.reduceAdd, Int.reduceSub, Int.reduceNeg, decide_true, decide_false, Bool.not_true, Bool.not_false, cond_true, cond_false, beq_self_eq_true, and_self, ne_eq, not_true_eq_false, not_false_eq_true, reduceCtorEq, Bool.true_beq, Bool.false_beq]
  refine plain_ok (N := 3000) (text_does (bs := b) (e := 5) rfl tyStr9 tySlice23 tyInt5 rfl (by simp only [dOk_some, dOk_none, Nat.reduceLT]) (fun G hG => hgot.mono (hG.le G7 (by simp)))) (QOk_body _ _ _) (by first | exact .inl rfl | exact .inr ⟨_, _, rfl, rfl⟩) ?_
  rintro _ rfl
  simp only [go_sem, Nat.reduceAdd, Nat.reduceSub, Nat.reduceMul, Nat.reduceEqDiff, Nat.reduceLT, Nat.reduceLeDiff, Nat.reduceBEq, Nat.reduceBNe, Int.reduceLT, Int.reduceLE, Int.reduceEq, Int.reduceAdd, Int.reduceSub, Int.reduceNeg, decide_true, decide_false, Bool.not_true, Bool.not_false, cond_true, cond_false, beq_self_eq_true, and_self, ne_eq, not_true_eq_false, not_false_eq_true, reduceCtorEq, Bool.true_beq, Bool.false_beq]
  refine plain_ok (N := 3000) (text_does (bs := b) (e := 5) rfl tyStr9 tySlice23 tyInt5 rfl (by simp only [dOk_some, dOk_none, Nat.reduceLT]) (fun G hG => ByG.mono hby (hG.le G3 (by simp)))) (QOk_body _ _ _) (by first | exact .inl rfl | exact .inr ⟨_, _, rfl, rfl⟩) ?_
  rintro _ rfl
  simp only [go_sem, Nat.reduceAdd, Nat.reduceSub, Nat.reduceMul, Nat.reduceEqDiff, Nat.reduceLT, Nat.reduceLeDiff, Nat.reduceBEq, Nat.reduceBNe, Int.reduceLT, Int.reduceLE, Int.reduceEq, Int.reduceAdd, Int.reduceSub, Int.reduceNeg, decide_true, decide_false, Bool.not_true, Bool.not_false, cond_true, cond_false, beq_self_eq_true, and_self, ne_eq, not_true_eq_false, not_false_eq_true, reduceCtorEq, Bool.true_beq, Bool.false_beq]
  refine plain_ok (N := 3000) (text_does (bs := b) (e := 5) rfl tyStr9 tySlice23 tyInt5 rfl (by simp only [dOk_some, dOk_none, Nat.reduceLT]) (fun G hG => hsafe.mono (hG.le G9 (by simp)))) (QOk_body _ _ _) (by first | exact .inl rfl | exact .inr ⟨_, _, rfl, rfl⟩) ?_
  rintro _ rfl
  simp only [go_sem, Nat.reduceAdd, Nat.reduceSub, Nat.reduceMul, Nat.reduceEqDiff, Nat.reduceLT, Nat.reduceLeDiff, Nat.reduceBEq, Nat.reduceBNe, Int.reduceLT, Int.reduceLE, Int.reduceEq, Int.reduceAdd, Int.reduceSub, Int.reduceNeg, decide_true, decide_false, Bool.not_true, Bool.not_false, cond_true, cond_false, beq_self_eq_true, and_self, ne_eq, not_true_eq_false, not_false_eq_true, reduceCtorEq, Bool.true_beq, Bool.false_beq]
  refine plain_ok (N := 3000) (text_does (bs := b) (e := 5) rfl tyStr9 tySlice23 tyInt5 rfl (by simp only [dOk_some, dOk_none, Nat.reduceLT]) (fun G hG => ByG.mono hby (hG.le G3 (by simp)))) (QOk_body _ _ _) (by first | exact .inl rfl | exact .inr ⟨_, _, rfl, rfl⟩) ?_
  rintro _ rfl
  simp only [go_sem, Nat.reduceAdd, Nat.reduceSub, Nat.reduceMul, Nat.reduceEqDiff, Nat.reduceLT, Nat.reduceLeDiff, Nat.reduceBEq, Nat.reduceBNe, Int.reduceLT, Int.reduceLE, Int.reduceEq, Int.reduceAdd, Int.reduceSub, Int.reduceNeg, decide_true, decide_false, Bool.not_true, Bool.not_false, cond_true, cond_false, beq_self_eq_true, and_self, ne_eq, not_true_eq_false, not_false_eq_true, reduceCtorEq, Bool.true_beq, Bool.false_beq]
  refine fin_ret (G := ⟨Non, w⟩) Try.results14 ?_
  simp only [go_sem, Nat.reduceAdd, Nat.reduceSub, Nat.reduceMul, Nat.reduceEqDiff, Nat.reduceLT, Nat.reduceLeDiff, Nat.reduceBEq, Nat.reduceBNe, Int.reduceLT, Int.reduceLE, Int.reduceEq, Int.reduceAdd, Int.reduceSub, Int.reduceNeg, decide_true, decide_false, Bool.not_true, Bool.not_false, cond_true, cond_false, beq_self_eq_true, and_self, ne_eq, not_true_eq_false, not_false_eq_true, reduceCtorEq, Bool.true_beq, Bool.false_beq]
  intro aa w' _ _
  rfl
theorem writeRead_walk {w : World} (a0 : Int) (w0 : (Lit.int .i64 a0).wf = true) (s : ByteArray) (hs : s.size ≤ maxLen) (a2 : Int) (w2 : (Lit.int .i64 a2).wf = true) (a3 : Int) (w3 : (Lit.int .i64 a3).wf = true) (v4 : Value) (keep : List Bool) (h4 : BoolsG ⟨Non, w⟩ v4 keep) :
    Calls Try.prog 14 #[.int .i64 a0, .string s, .int .i64 a2, .int .i64 a3, v4] w fun e w' => e = .returned (.bool true) ∧ Below w.heap.size w w' :=
  (writeRead_ret a0 w0 s hs a2 w2 a3 w3 v4 keep h4).mono fun e w' ⟨v, he, hv, hc⟩ => ⟨by rw [he, hv], hc.below⟩
end Go.Proofs.Ytomfladifefomaa
