/- 'icehousekeep.WriteApart' returns true for every int, two texts and two ints. Conditions: none. -/
import Derived.Test.YtomfladifefomaaU12
namespace Go.Proofs.Ytomfladifefomaa
open Go.RowKit
set_option linter.unusedSimpArgs false
theorem cut_300 (S : ByteArray) : (S.extract (Int.toNat 0) (min (S.size : Int) 300).toNat).size ≤ 300 := by simp; omega
theorem wrote_ok {g : Geo} {d : Dev} {l : List Int} {b : List UInt8} {v : Value} {G : GW} (hf : d.fuel = -1) (h : WroteG g d l b v G) : ∃ dv, v = .tuple #[dv, .int .i64 0] ∧ DevG G dv (flushDev (writeTo g d l b l.length)) ∧ GoodDev g (writeTo g d l b l.length) := by
  rcases h with ⟨dv, e, h1, _, h2⟩ | ⟨dv, i, _, _, _, hfu, _⟩
  · exact ⟨dv, e, h1, h2⟩
  · rw [writeTo_fuel hf] at hfu
    omega
/-- who reads other sectors than were written reads what was there -/
theorem apart_read {g : Geo} (hg : GoodGeo g) {d : Dev} {l r : List Int} {b y : List UInt8} (hl : Spread g.hot l) (hx : ∀ n ∈ l, ∀ m ∈ r, n ≠ m) (hd : GoodDev g (writeTo g d r y r.length)) (hr : (readTo g d l l.length).take b.length = b) :
    (readTo g (flushDev (writeTo g d r y r.length)) l l.length).take b.length = b := by
  rw [readTo_same (d := d) (fun n hn => ?_)]
  · exact hr
  · obtain ⟨n0, n1⟩ := spread_mem hl hn
    rw [content_flush hd _ (in_safe hg hd n0 n1)]
    refine written_apart (fun m hm e => hx n hn m hm ?_) _
    have := hg.r1; have := hg.a1
    unfold firstOf at e
    omega
set_option maxRecDepth 100000 in
set_option maxHeartbeats 16000000 in
theorem writeApart_ret {w : World} (a0 : Int) (w0 : (Lit.int .i64 a0).wf = true) (s : ByteArray) (hs : s.size ≤ maxLen) (t : ByteArray) (ht : t.size ≤ maxLen) (a3 : Int) (w3 : (Lit.int .i64 a3).wf = true) (a4 : Int) (w4 : (Lit.int .i64 a4).wf = true) :
    Calls Try.prog 10 #[.int .i64 a0, .string s, .string t, .int .i64 a3, .int .i64 a4] w (Ret ⟨Non, w⟩ fun v _ => v = .bool true) := by
  have i0 : i64 a0 := i64_bd w0
  have i3 : i64 a3 := i64_bd w3
  have i4 : i64 a4 := i64_bd w4
  refine enter (G := ⟨Non, w⟩) (n := 141) 3000 (wf_nonL w) Try.func10 rfl Try.ntmps10 (by simp) ?_
  simp only [go_sem, Nat.reduceAdd, Nat.reduceSub, Nat.reduceMul, Nat.reduceEqDiff, Nat.reduceLT, Nat.reduceLeDiff, Nat.reduceBEq, Nat.reduceBNe, Int.reduceLT, Int.reduceLE, Int.reduceEq, Int.reduceAdd, Int.reduceSub, Int.reduceNeg, decide_true, decide_false, Bool.not_true, Bool.not_false, cond_true, cond_false, beq_self_eq_true, and_self, ne_eq, not_true_eq_false, not_false_eq_true, reduceCtorEq, Bool.true_beq, Bool.false_beq]
  refine plain_ok (N := 3000) (call_does (fun v _ => ∃ g : Geo, v = .agg #[.int .i64 g.ring, .int .i64 g.area, .int .i64 g.hot, .int .i64 g.volume, .int .i64 g.volumes] ∧ GoodGeo g ∧ (g.hot = 11 ∨ g.hot = 22 ∨ g.hot = 31)) rfl rfl (by kernel_rfl) rfl (by simp only [dOk_some, dOk_none, Nat.reduceLT]) (fun G hG => sevens_does i0 hG.wf)) (QOk_body _ _ _) (by first | exact .inl rfl | exact .inr ⟨_, _, rfl, rfl⟩) ?_
  rintro _ ⟨_, G1, ⟨g, rfl, hg, hh⟩, hn1, rfl⟩
  clear hn1
  simp only [go_sem, Nat.reduceAdd, Nat.reduceSub, Nat.reduceMul, Nat.reduceEqDiff, Nat.reduceLT, Nat.reduceLeDiff, Nat.reduceBEq, Nat.reduceBNe, Int.reduceLT, Int.reduceLE, Int.reduceEq, Int.reduceAdd, Int.reduceSub, Int.reduceNeg, decide_true, decide_false, Bool.not_true, Bool.not_false, cond_true, cond_false, beq_self_eq_true, and_self, ne_eq, not_true_eq_false, not_false_eq_true, reduceCtorEq, Bool.true_beq, Bool.false_beq]
  intro g1
  refine plain_ok (N := 3000) (call_does (fun v _ => v = .string (bodyOf s a3)) rfl rfl (by kernel_rfl) rfl (by simp only [dOk_some, dOk_none, Nat.reduceLT]) (fun G hG => body_does hs i3 hG.wf)) (QOk_body _ _ _) (by first | exact .inl rfl | exact .inr ⟨_, _, rfl, rfl⟩) ?_
  rintro _ ⟨_, G2, rfl, hn2, rfl⟩
  clear hn2
  simp only [go_sem, Nat.reduceAdd, Nat.reduceSub, Nat.reduceMul, Nat.reduceEqDiff, Nat.reduceLT, Nat.reduceLeDiff, Nat.reduceBEq, Nat.reduceBNe, Int.reduceLT, Int.reduceLE, Int.reduceEq, Int.reduceAdd, Int.reduceSub, Int.reduceNeg, decide_true, decide_false, Bool.not_true, Bool.not_false, cond_true, cond_false, beq_self_eq_true, and_self, ne_eq, not_true_eq_false, not_false_eq_true, reduceCtorEq, Bool.true_beq, Bool.false_beq]
  refine plain_ok (N := 3000) (call_does (fun v _ => v = .string (bodyOf s a3)) rfl rfl (by kernel_rfl) rfl (by simp only [dOk_some, dOk_none, Nat.reduceLT]) (fun G hG => body_does hs i3 hG.wf)) (QOk_body _ _ _) (by first | exact .inl rfl | exact .inr ⟨_, _, rfl, rfl⟩) ?_
  rintro _ ⟨_, G3, rfl, hn3, rfl⟩
  clear hn3
  have hS := cut_300 (bodyOf s a3)
  have hS2 := bodyOf_size s a3
  simp only [go_sem, Nat.reduceAdd, Nat.reduceSub, Nat.reduceMul, Nat.reduceEqDiff, Nat.reduceLT, Nat.reduceLeDiff, Nat.reduceBEq, Nat.reduceBNe, Int.reduceLT, Int.reduceLE, Int.reduceEq, Int.reduceAdd, Int.reduceSub, Int.reduceNeg, decide_true, decide_false, Bool.not_true, Bool.not_false, cond_true, cond_false, beq_self_eq_true, and_self, ne_eq, not_true_eq_false, not_false_eq_true, reduceCtorEq, Bool.true_beq, Bool.false_beq]
  refine ⟨by omega, ?_⟩
  refine plain_ok (N := 3000) (bytes_does (e := 5) rfl (tyStr9) (tySlice23) (tyInt5) rfl (by simp only [dOk_some, dOk_none, Nat.reduceLT]) (by omega)) (QOk_body _ _ _) (by first | exact .inl rfl | exact .inr ⟨_, _, rfl, rfl⟩) ?_
  rintro _ ⟨Ab, cb, G4, hby, rfl⟩
  generalize (bodyOf s a3).extract (Int.toNat 0) (min ((bodyOf s a3).size : Int) 300).toNat = q at hby hS
  have hbl : q.data.toList.length ≤ 300 := by rw [Array.length_toList]; exact hS
  generalize q.data.toList = b at hby hbl
  clear hS hS2
  simp only [go_sem, Nat.reduceAdd, Nat.reduceSub, Nat.reduceMul, Nat.reduceEqDiff, Nat.reduceLT, Nat.reduceLeDiff, Nat.reduceBEq, Nat.reduceBNe, Int.reduceLT, Int.reduceLE, Int.reduceEq, Int.reduceAdd, Int.reduceSub, Int.reduceNeg, decide_true, decide_false, Bool.not_true, Bool.not_false, cond_true, cond_false, beq_self_eq_true, and_self, ne_eq, not_true_eq_false, not_false_eq_true, reduceCtorEq, Bool.true_beq, Bool.false_beq]
  refine plain_ok (N := 3000) (call_does (fun v _ => v = .string (bodyOf t a4)) rfl rfl (by kernel_rfl) rfl (by simp only [dOk_some, dOk_none, Nat.reduceLT]) (fun G hG => body_does ht i4 hG.wf)) (QOk_body _ _ _) (by first | exact .inl rfl | exact .inr ⟨_, _, rfl, rfl⟩) ?_
  rintro _ ⟨_, G5, rfl, hn5, rfl⟩
  clear hn5
  simp only [go_sem, Nat.reduceAdd, Nat.reduceSub, Nat.reduceMul, Nat.reduceEqDiff, Nat.reduceLT, Nat.reduceLeDiff, Nat.reduceBEq, Nat.reduceBNe, Int.reduceLT, Int.reduceLE, Int.reduceEq, Int.reduceAdd, Int.reduceSub, Int.reduceNeg, decide_true, decide_false, Bool.not_true, Bool.not_false, cond_true, cond_false, beq_self_eq_true, and_self, ne_eq, not_true_eq_false, not_false_eq_true, reduceCtorEq, Bool.true_beq, Bool.false_beq]
  refine plain_ok (N := 3000) (call_does (fun v _ => v = .string (bodyOf t a4)) rfl rfl (by kernel_rfl) rfl (by simp only [dOk_some, dOk_none, Nat.reduceLT]) (fun G hG => body_does ht i4 hG.wf)) (QOk_body _ _ _) (by first | exact .inl rfl | exact .inr ⟨_, _, rfl, rfl⟩) ?_
  rintro _ ⟨_, G6, rfl, hn6, rfl⟩
  clear hn6
  have hS := cut_300 (bodyOf t a4)
  have hS2 := bodyOf_size t a4
  simp only [go_sem, Nat.reduceAdd, Nat.reduceSub, Nat.reduceMul, Nat.reduceEqDiff, Nat.reduceLT, Nat.reduceLeDiff, Nat.reduceBEq, Nat.reduceBNe, Int.reduceLT, Int.reduceLE, Int.reduceEq, Int.reduceAdd, Int.reduceSub, Int.reduceNeg, decide_true, decide_false, Bool.not_true, Bool.not_false, cond_true, cond_false, beq_self_eq_true, and_self, ne_eq, not_true_eq_false, not_false_eq_true, reduceCtorEq, Bool.true_beq, Bool.false_beq]
  refine ⟨by omega, ?_⟩
  refine plain_ok (N := 3000) (bytes_does (e := 5) rfl (tyStr9) (tySlice23) (tyInt5) rfl (by simp only [dOk_some, dOk_none, Nat.reduceLT]) (by omega)) (QOk_body _ _ _) (by first | exact .inl rfl | exact .inr ⟨_, _, rfl, rfl⟩) ?_
  rintro _ ⟨Ay, cy, G7, hyy, rfl⟩
  generalize (bodyOf t a4).extract (Int.toNat 0) (min ((bodyOf t a4).size : Int) 300).toNat = q at hyy hS
  have hyl : q.data.toList.length ≤ 300 := by rw [Array.length_toList]; exact hS
  generalize q.data.toList = y at hyy hyl
  clear hS hS2
  simp only [go_sem, Nat.reduceAdd, Nat.reduceSub, Nat.reduceMul, Nat.reduceEqDiff, Nat.reduceLT, Nat.reduceLeDiff, Nat.reduceBEq, Nat.reduceBNe, Int.reduceLT, Int.reduceLE, Int.reduceEq, Int.reduceAdd, Int.reduceSub, Int.reduceNeg, decide_true, decide_false, Bool.not_true, Bool.not_false, cond_true, cond_false, beq_self_eq_true, and_self, ne_eq, not_true_eq_false, not_false_eq_true, reduceCtorEq, Bool.true_beq, Bool.false_beq]
  obtain ⟨k1, hk1⟩ : ∃ k : Nat, (k : Int) = ((b.length : Int) + 63) / 64 := ⟨(((b.length : Int) + 63) / 64).toNat, by omega⟩
  obtain ⟨k2, hk2⟩ : ∃ k : Nat, (k : Int) = ((y.length : Int) + 63) / 64 := ⟨(((y.length : Int) + 63) / 64).toNat, by omega⟩
  obtain ⟨k3, hk3⟩ : ∃ k : Nat, (k : Int) = ((b.length : Int) + (y.length : Int) + 128 + 63) / 64 := ⟨(((b.length : Int) + (y.length : Int) + 128 + 63) / 64).toNat, by omega⟩
  refine plain_ok (N := 3000) (call_does (fun v _ => v = .int .i64 (k1 : Int)) rfl rfl (by kernel_rfl) rfl (by simp only [dOk_some, dOk_none, Nat.reduceLT]) (fun G hG => ret_mono (secs_does hG.wf (by omega) (by omega)) fun v G' _ h => by rw [h, hk1])) (QOk_body _ _ _) (by first | exact .inl rfl | exact .inr ⟨_, _, rfl, rfl⟩) ?_
  rintro _ ⟨_, G8, rfl, hn8, rfl⟩
  clear hn8
  simp only [go_sem, Nat.reduceAdd, Nat.reduceSub, Nat.reduceMul, Nat.reduceEqDiff, Nat.reduceLT, Nat.reduceLeDiff, Nat.reduceBEq, Nat.reduceBNe, Int.reduceLT, Int.reduceLE, Int.reduceEq, Int.reduceAdd, Int.reduceSub, Int.reduceNeg, decide_true, decide_false, Bool.not_true, Bool.not_false, cond_true, cond_false, beq_self_eq_true, and_self, ne_eq, not_true_eq_false, not_false_eq_true, reduceCtorEq, Bool.true_beq, Bool.false_beq]
  refine ⟨by omega, by omega, ?_⟩
  refine plain_ok (N := 3000) (call_does (fun v G => ∃ A c, v = .slice A k3 c ∧ IntsG G (.slice A k3 c) (spotsTo g.hot (pick 0 g.hot) k3)) rfl rfl (by kernel_rfl) rfl (by simp only [dOk_some, dOk_none, Nat.reduceLT]) (fun G hG => ret_mono (spots_does (n := k3) hg (from_ := 0) ⟨by omega, by omega⟩ hk3 (by omega) (by omega) hG.wf) fun v G' _ h => by obtain ⟨A, c, rfl, _⟩ := h.form; rw [spotsTo_len] at h; rw [spotsTo_len]; exact ⟨A, c, rfl, h⟩)) (QOk_body _ _ _) (by first | exact .inl rfl | exact .inr ⟨_, _, rfl, rfl⟩) ?_
  rintro _ ⟨_, G9, ⟨Al, cl, rfl, hl⟩, hn9, rfl⟩
  clear hn9
  have hslen := spotsTo_len g.hot (pick 0 g.hot) k3
  have hcl : k3 ≤ cl := by obtain ⟨_, _, e, q, _⟩ := hl.form; rw [hslen] at e q; cases e; exact q
  have hsl : Sl G9 3 1 k3 (.slice Al k3 cl) ((spotsTo g.hot (pick 0 g.hot) k3).map (Value.int .i64)) := by have := hl.sl; rw [hslen] at this; exact this
  simp only [go_sem, Nat.reduceAdd, Nat.reduceSub, Nat.reduceMul, Nat.reduceEqDiff, Nat.reduceLT, Nat.reduceLeDiff, Nat.reduceBEq, Nat.reduceBNe, Int.reduceLT, Int.reduceLE, Int.reduceEq, Int.reduceAdd, Int.reduceSub, Int.reduceNeg, decide_true, decide_false, Bool.not_true, Bool.not_false, cond_true, cond_false, beq_self_eq_true, and_self, ne_eq, not_true_eq_false, not_false_eq_true, reduceCtorEq, Bool.true_beq, Bool.false_beq]
  refine plain_ok (N := 3000) (cut_does 0 k1 cl rfl tySlice28 tySize3 rfl rfl ⟨_, _, rfl, by omega⟩ (show 0 + cl = cl from by omega) (by simp) (by simp only [dOk_some, dOk_none, Nat.reduceLT]) (by omega) (by omega) (by omega) (fun G hG => (hsl.mono (hG.le G9 (by simp)) : Sl _ _ _ _ _ _))) (QOk_body _ _ _) (by first | exact .inl rfl | exact .inr ⟨_, _, rfl, rfl⟩) ?_
  rintro _ ⟨A1, G10, hs1, hn10, rfl⟩
  clear hn10
  have hl1 := IntsG.cut hs1 (by omega)
  rw [spotsTo_cut _ _ _ _ _ (by omega)] at hl1
  simp only [go_sem, Nat.reduceAdd, Nat.reduceSub, Nat.reduceMul, Nat.reduceEqDiff, Nat.reduceLT, Nat.reduceLeDiff, Nat.reduceBEq, Nat.reduceBNe, Int.reduceLT, Int.reduceLE, Int.reduceEq, Int.reduceAdd, Int.reduceSub, Int.reduceNeg, decide_true, decide_false, Bool.not_true, Bool.not_false, cond_true, cond_false, beq_self_eq_true, and_self, ne_eq, not_true_eq_false, not_false_eq_true, reduceCtorEq, Bool.true_beq, Bool.false_beq]
  refine plain_ok (N := 3000) (call_does (fun v _ => v = .int .i64 (k2 : Int)) rfl rfl (by kernel_rfl) rfl (by simp only [dOk_some, dOk_none, Nat.reduceLT]) (fun G hG => ret_mono (secs_does hG.wf (by omega) (by omega)) fun v G' _ h => by rw [h, hk2])) (QOk_body _ _ _) (by first | exact .inl rfl | exact .inr ⟨_, _, rfl, rfl⟩) ?_
  rintro _ ⟨_, G11, rfl, hn11, rfl⟩
  clear hn11
  simp only [go_sem, Nat.reduceAdd, Nat.reduceSub, Nat.reduceMul, Nat.reduceEqDiff, Nat.reduceLT, Nat.reduceLeDiff, Nat.reduceBEq, Nat.reduceBNe, Int.reduceLT, Int.reduceLE, Int.reduceEq, Int.reduceAdd, Int.reduceSub, Int.reduceNeg, decide_true, decide_false, Bool.not_true, Bool.not_false, cond_true, cond_false, beq_self_eq_true, and_self, ne_eq, not_true_eq_false, not_false_eq_true, reduceCtorEq, Bool.true_beq, Bool.false_beq]
  refine ⟨by omega, ?_⟩
  refine plain_ok (N := 3000) (cut_does k1 k2 (cl - k1) rfl tySlice28 tySize3 rfl ⟨_, _, rfl, rfl⟩ ⟨_, _, rfl, by omega⟩ (show k1 + (cl - k1) = cl from by omega) (by simp) (by simp only [dOk_some, dOk_none, Nat.reduceLT]) (by omega) (by omega) (by omega) (fun G hG => (hsl.mono (hG.le G9 (by simp)) : Sl _ _ _ _ _ _))) (QOk_body _ _ _) (by first | exact .inl rfl | exact .inr ⟨_, _, rfl, rfl⟩) ?_
  rintro _ ⟨A2, G12, hs2, hn12, rfl⟩
  clear hn12
  have hl2 := IntsG.cut hs2 (by omega)
  rw [spotsTo_cut _ _ _ _ _ (by omega)] at hl2
  have e0 : pick 0 g.hot + 7 * ((0 : Nat) : Int) = pick 0 g.hot := by omega
  rw [e0] at hl1
  have hsp1 : Spread g.hot (spotsTo g.hot (pick 0 g.hot) k1) := spots_spread hh (by omega)
  have hsp2 : Spread g.hot (spotsTo g.hot (pick 0 g.hot + 7 * (k1 : Int)) k2) := spots_spread hh (by omega)
  have hap : ∀ n ∈ spotsTo g.hot (pick 0 g.hot) k1, ∀ m ∈ spotsTo g.hot (pick 0 g.hot + 7 * (k1 : Int)) k2, n ≠ m := fun n hn m hm => spots_apart hh (by omega) hn hm
  have hll1 := spotsTo_len g.hot (pick 0 g.hot) k1
  have hll2 := spotsTo_len g.hot (pick 0 g.hot + 7 * (k1 : Int)) k2
  generalize spotsTo g.hot (pick 0 g.hot) k1 = l at hl1 hsp1 hap hll1
  generalize spotsTo g.hot (pick 0 g.hot + 7 * (k1 : Int)) k2 = r at hl2 hsp2 hap hll2
  clear hl hsl hs1 hs2 hslen
  have hroom1 : roomB g l (b.length : Int) = true := roomB_yes hsp1 ⟨by omega, by omega, by omega⟩
  have hroom2 : roomB g r (y.length : Int) = true := roomB_yes hsp2 ⟨by omega, by omega, by omega⟩
  simp only [go_sem, Nat.reduceAdd, Nat.reduceSub, Nat.reduceMul, Nat.reduceEqDiff, Nat.reduceLT, Nat.reduceLeDiff, Nat.reduceBEq, Nat.reduceBNe, Int.reduceLT, Int.reduceLE, Int.reduceEq, Int.reduceAdd, Int.reduceSub, Int.reduceNeg, decide_true, decide_false, Bool.not_true, Bool.not_false, cond_true, cond_false, beq_self_eq_true, and_self, ne_eq, not_true_eq_false, not_false_eq_true, reduceCtorEq, Bool.true_beq, Bool.false_beq]
  refine plain_ok (N := 3000) (call_does (fun v G => ∃ dv, v = .tuple #[dv, .int .i64 0] ∧ DevG G dv (newDev g)) rfl rfl (by kernel_rfl) rfl (by simp only [dOk_some, dOk_none, Nat.reduceLT]) (fun G hG => new_does hg hG.wf (tidL hG (by simp) (by simp; decide)))) (QOk_body _ _ _) (by first | exact .inl rfl | exact .inr ⟨_, _, rfl, rfl⟩) ?_
  rintro _ ⟨_, G13, ⟨dv, rfl, hd0⟩, hn13, rfl⟩
  clear hn13
  have hg0 := newGood g hg
  have hf0 : (newDev g).fuel = -1 := rfl
  have hc0 : (newDev g).cache.length = 0 := rfl
  generalize newDev g = d0 at hd0 hg0 hf0 hc0
  obtain ⟨B1, m1, B2, m2, B3, m3, rfl, hfo⟩ := hd0.form
  clear hfo
  simp only [go_sem, Nat.reduceAdd, Nat.reduceSub, Nat.reduceMul, Nat.reduceEqDiff, Nat.reduceLT, Nat.reduceLeDiff, Nat.reduceBEq, Nat.reduceBNe, Int.reduceLT, Int.reduceLE, Int.reduceEq, Int.reduceAdd, Int.reduceSub, Int.reduceNeg, decide_true, decide_false, Bool.not_true, Bool.not_false, cond_true, cond_false, beq_self_eq_true, and_self, ne_eq, not_true_eq_false, not_false_eq_true, reduceCtorEq, Bool.true_beq, Bool.false_beq]
  intro g2
  refine plain_ok (N := 3000) (call_does (fun v G => ∃ dv, v = .tuple #[dv, .int .i64 0] ∧ DevG G dv (flushDev (writeTo g d0 l b l.length)) ∧ GoodDev g (writeTo g d0 l b l.length)) rfl rfl (by kernel_rfl) rfl (by simp only [dOk_some, dOk_none, Nat.reduceLT]) (fun G hG => ret_mono (write_does hg hg0 hroom1 (by omega) hG.wf (tidL hG (by simp) (by simp; decide)) (hd0.mono (hG.le G13 (by simp))) (hl1.mono (hG.le G10 (by simp))) (ByG.mono hby (hG.le G4 (by simp)))) fun v G' _ h => wrote_ok hf0 h)) (QOk_body _ _ _) (by first | exact .inl rfl | exact .inr ⟨_, _, rfl, rfl⟩) ?_
  rintro _ ⟨_, G14, ⟨dv, rfl, hd1, hgw⟩, hn14, rfl⟩
  clear hn14
  have hr1 := flushed_read hg hsp1 hgw (show b.length ≤ 64 * l.length by omega)
  have hg1 := good_flush hgw
  have hf1 : (flushDev (writeTo g d0 l b l.length)).fuel = -1 := spent_fuel1 (writeTo_fuel hf0 _)
  have hc1 : (flushDev (writeTo g d0 l b l.length)).cache.length = 0 := rfl
  generalize flushDev (writeTo g d0 l b l.length) = x1 at hd1 hr1 hg1 hf1 hc1
  obtain ⟨C1, n1, C2, n2, C3, n3, rfl, hfo⟩ := hd1.form
  clear hfo
  simp only [go_sem, Nat.reduceAdd, Nat.reduceSub, Nat.reduceMul, Nat.reduceEqDiff, Nat.reduceLT, Nat.reduceLeDiff, Nat.reduceBEq, Nat.reduceBNe, Int.reduceLT, Int.reduceLE, Int.reduceEq, Int.reduceAdd, Int.reduceSub, Int.reduceNeg, decide_true, decide_false, Bool.not_true, Bool.not_false, cond_true, cond_false, beq_self_eq_true, and_self, ne_eq, not_true_eq_false, not_false_eq_true, reduceCtorEq, Bool.true_beq, Bool.false_beq]
  refine plain_ok (N := 3000) (call_does (fun v G => ∃ dv, v = .tuple #[dv, .int .i64 0] ∧ DevG G dv (flushDev (writeTo g x1 r y r.length)) ∧ GoodDev g (writeTo g x1 r y r.length)) rfl rfl (by kernel_rfl) rfl (by simp only [dOk_some, dOk_none, Nat.reduceLT]) (fun G hG => ret_mono (write_does hg hg1 hroom2 (by omega) hG.wf (tidL hG (by simp) (by simp; decide)) (hd1.mono (hG.le G14 (by simp))) (hl2.mono (hG.le G12 (by simp))) (ByG.mono hyy (hG.le G7 (by simp)))) fun v G' _ h => wrote_ok hf1 h)) (QOk_body _ _ _) (by first | exact .inl rfl | exact .inr ⟨_, _, rfl, rfl⟩) ?_
  rintro _ ⟨_, G15, ⟨dv, rfl, hd2, hgw2⟩, hn15, rfl⟩
  clear hn15
  have hr2 := flushed_read hg hsp2 hgw2 (show y.length ≤ 64 * r.length by omega)
  have hr3 := apart_read hg hsp1 hap hgw2 hr1
  have hg2 := good_flush hgw2
  generalize flushDev (writeTo g x1 r y r.length) = x2 at hd2 hr2 hr3 hg2
  obtain ⟨D1, e1, D2, e2, D3, e3, rfl, hfo⟩ := hd2.form
  clear hfo
  simp only [go_sem, Nat.reduceAdd, Nat.reduceSub, Nat.reduceMul, Nat.reduceEqDiff, Nat.reduceLT, Nat.reduceLeDiff, Nat.reduceBEq, Nat.reduceBNe, Int.reduceLT, Int.reduceLE, Int.reduceEq, Int.reduceAdd, Int.reduceSub, Int.reduceNeg, decide_true, decide_false, Bool.not_true, Bool.not_false, cond_true, cond_false, beq_self_eq_true, and_self, ne_eq, not_true_eq_false, not_false_eq_true, reduceCtorEq, Bool.true_beq, Bool.false_beq]
  refine plain_ok (N := 3000) (call_does (fun v G => ∃ A c, v = .tuple #[.slice A b.length c, .int .i64 0] ∧ ByG G (.slice A b.length c) b) rfl rfl (by kernel_rfl) rfl (by simp only [dOk_some, dOk_none, Nat.reduceLT]) (fun G hG => read_gets hg hg2 hroom1 hr3 hG.wf (hd2.mono (hG.le G15 (by simp))) (hl1.mono (hG.le G10 (by simp))))) (QOk_body _ _ _) (by first | exact .inl rfl | exact .inr ⟨_, _, rfl, rfl⟩) ?_
  rintro _ ⟨_, G16, ⟨Ag, cg, rfl, hgot⟩, hn16, rfl⟩
  clear hn16
  simp only [go_sem, Nat.reduceAdd, Nat.reduceSub, Nat.reduceMul, Nat.reduceEqDiff, Nat.reduceLT, Nat.reduceLeDiff, Nat.reduceBEq, Nat.reduceBNe, Int.reduceLT, Int.reduceLE, Int.reduceEq, Int.reduceAdd, Int.reduceSub, Int.reduceNeg, decide_true, decide_false, Bool.not_true, Bool.not_false, cond_true, cond_false, beq_self_eq_true, and_self, ne_eq, not_true_eq_false, not_false_eq_true, reduceCtorEq, Bool.true_beq, Bool.false_beq]
  refine plain_ok (N := 3000) (call_does (fun v G => ∃ A c, v = .tuple #[.slice A y.length c, .int .i64 0] ∧ ByG G (.slice A y.length c) y) rfl rfl (by kernel_rfl) rfl (by simp only [dOk_some, dOk_none, Nat.reduceLT]) (fun G hG => read_gets hg hg2 hroom2 hr2 hG.wf (hd2.mono (hG.le G15 (by simp))) (hl2.mono (hG.le G12 (by simp))))) (QOk_body _ _ _) (by first | exact .inl rfl | exact .inr ⟨_, _, rfl, rfl⟩) ?_
  rintro _ ⟨_, G17, ⟨Ah, ch, rfl, hgot2⟩, hn17, rfl⟩
  clear hn17
  simp only [go_sem, Nat.reduceAdd, Nat.reduceSub, Nat.reduceMul, Nat.reduceEqDiff, Nat.reduceLT, Nat.reduceLeDiff, Nat.reduceBEq, Nat.reduceBNe, Int.reduceLT, Int.reduceLE, Int.reduceEq, Int.reduceAdd, Int.reduceSub, Int.reduceNeg, decide_true, decide_false, Bool.not_true, Bool.not_false, cond_true, cond_false, beq_self_eq_true, and_self, ne_eq, not_true_eq_false, not_false_eq_true, reduceCtorEq, Bool.true_beq, Bool.false_beq]
  refine plain_ok (N := 3000) (text_does (bs := b) (e := 5) rfl tyStr9 tySlice23 tyInt5 rfl (by simp only [dOk_some, dOk_none, Nat.reduceLT]) (fun G hG => hgot.mono (hG.le G16 (by simp)))) (QOk_body _ _ _) (by first | exact .inl rfl | exact .inr ⟨_, _, rfl, rfl⟩) ?_
  rintro _ rfl
  simp only [go_sem, Nat.reduceAdd, Nat.reduceSub, Nat.reduceMul, Nat.reduceEqDiff, Nat.reduceLT, Nat.reduceLeDiff, Nat.reduceBEq, Nat.reduceBNe, Int.reduceLT, Int.reduceLE, Int.reduceEq, Int.reduceAdd, Int.reduceSub, Int.reduceNeg, decide_true, decide_false, Bool.not_true, Bool.not_false, cond_true, cond_false, beq_self_eq_true, and_self, ne_eq, not_true_eq_false, not_false_eq_true, reduceCtorEq, Bool.true_beq, Bool.false_beq]
  refine plain_ok (N := 3000) (text_does (bs := b) (e := 5) rfl tyStr9 tySlice23 tyInt5 rfl (by simp only [dOk_some, dOk_none, Nat.reduceLT]) (fun G hG => ByG.mono hby (hG.le G4 (by simp)))) (QOk_body _ _ _) (by first | exact .inl rfl | exact .inr ⟨_, _, rfl, rfl⟩) ?_
  rintro _ rfl
  simp only [go_sem, Nat.reduceAdd, Nat.reduceSub, Nat.reduceMul, Nat.reduceEqDiff, Nat.reduceLT, Nat.reduceLeDiff, Nat.reduceBEq, Nat.reduceBNe, Int.reduceLT, Int.reduceLE, Int.reduceEq, Int.reduceAdd, Int.reduceSub, Int.reduceNeg, decide_true, decide_false, Bool.not_true, Bool.not_false, cond_true, cond_false, beq_self_eq_true, and_self, ne_eq, not_true_eq_false, not_false_eq_true, reduceCtorEq, Bool.true_beq, Bool.false_beq]
  refine plain_ok (N := 3000) (text_does (bs := y) (e := 5) rfl tyStr9 tySlice23 tyInt5 rfl (by simp only [dOk_some, dOk_none, Nat.reduceLT]) (fun G hG => hgot2.mono (hG.le G17 (by simp)))) (QOk_body _ _ _) (by first | exact .inl rfl | exact .inr ⟨_, _, rfl, rfl⟩) ?_
  rintro _ rfl
  simp only [go_sem, Nat.reduceAdd, Nat.reduceSub, Nat.reduceMul, Nat.reduceEqDiff, Nat.reduceLT, Nat.reduceLeDiff, Nat.reduceBEq, Nat.reduceBNe, Int.reduceLT, Int.reduceLE, Int.reduceEq, Int.reduceAdd, Int.reduceSub, Int.reduceNeg, decide_true, decide_false, Bool.not_true, Bool.not_false, cond_true, cond_false, beq_self_eq_true, and_self, ne_eq, not_true_eq_false, not_false_eq_true, reduceCtorEq, Bool.true_beq, Bool.false_beq]
  refine plain_ok (N := 3000) (text_does (bs := y) (e := 5) rfl tyStr9 tySlice23 tyInt5 rfl (by simp only [dOk_some, dOk_none, Nat.reduceLT]) (fun G hG => ByG.mono hyy (hG.le G7 (by simp)))) (QOk_body _ _ _) (by first | exact .inl rfl | exact .inr ⟨_, _, rfl, rfl⟩) ?_
  rintro _ rfl
  simp only [go_sem, Nat.reduceAdd, Nat.reduceSub, Nat.reduceMul, Nat.reduceEqDiff, Nat.reduceLT, Nat.reduceLeDiff, Nat.reduceBEq, Nat.reduceBNe, Int.reduceLT, Int.reduceLE, Int.reduceEq, Int.reduceAdd, Int.reduceSub, Int.reduceNeg, decide_true, decide_false, Bool.not_true, Bool.not_false, cond_true, cond_false, beq_self_eq_true, and_self, ne_eq, not_true_eq_false, not_false_eq_true, reduceCtorEq, Bool.true_beq, Bool.false_beq]
  refine fin_ret (G := ⟨Non, w⟩) Try.results10 ?_
  simp only [go_sem, Nat.reduceAdd, Nat.reduceSub, Nat.reduceMul, Nat.reduceEqDiff, Nat.reduceLT, Nat.reduceLeDiff, Nat.reduceBEq, Nat.reduceBNe, Int.reduceLT, Int.reduceLE, Int.reduceEq, Int.reduceAdd, Int.reduceSub, Int.reduceNeg, decide_true, decide_false, Bool.not_true, Bool.not_false, cond_true, cond_false, beq_self_eq_true, and_self, ne_eq, not_true_eq_false, not_false_eq_true, reduceCtorEq, Bool.true_beq, Bool.false_beq]
  intro aa w' _ _
  rfl
theorem writeApart_walk {w : World} (a0 : Int) (w0 : (Lit.int .i64 a0).wf = true) (s : ByteArray) (hs : s.size ≤ maxLen) (t : ByteArray) (ht : t.size ≤ maxLen) (a3 : Int) (w3 : (Lit.int .i64 a3).wf = true) (a4 : Int) (w4 : (Lit.int .i64 a4).wf = true) :
    Calls Try.prog 10 #[.int .i64 a0, .string s, .string t, .int .i64 a3, .int .i64 a4] w fun e w' => e = .returned (.bool true) ∧ Below w.heap.size w w' :=
  (writeApart_ret a0 w0 s hs t ht a3 w3 a4 w4).mono fun e w' ⟨v, he, hv, hc⟩ => ⟨by rw [he, hv], hc.below⟩
end Go.Proofs.Ytomfladifefomaa
