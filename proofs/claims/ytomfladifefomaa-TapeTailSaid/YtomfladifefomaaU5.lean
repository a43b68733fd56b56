/- 'icehousekeep.TapeTail' returns true for every two texts and int. Conditions: none. -/
import Derived.Test.YtomfladifefomaaL0
namespace Go.Proofs.Ytomfladifefomaa
open Go.RowKit
set_option linter.unusedSimpArgs false
theorem cut_len (s : ByteArray) (n : Nat) : (s.extract 0 (min s.size n)).data.toList.length ≤ n := by
  rw [Array.length_toList]
  show (s.extract 0 (min s.size n)).size ≤ n
  simp; omega
theorem cut_is (s : ByteArray) (m : Int) (n : Nat) (h : m = (n : Int)) : (s.extract (Int.toNat 0) (min (s.size : Int) m).toNat).data.toList = (s.extract 0 (min s.size n)).data.toList := by
  subst h
  congr 3
  omega
theorem cut_sz (s : ByteArray) (m : Int) (h : m ≤ 1000000) : (s.extract (Int.toNat 0) (min (s.size : Int) m).toNat).size ≤ 1000000 := by simp; omega
theorem app_fresh {g : Geo} {d : Dev} {v : Int} {bs : List UInt8} (h1 : v = (d.vols.length : Int)) (h2 : v < g.volumes) (h3 : (bs.length : Int) ≤ g.volume) (h4 : d.fuel ≠ 0) : appErr g d v bs.length = 0 ∧ appDev g d v bs = { spent d with vols := d.vols ++ [⟨bs, 0, false⟩] } := by
  have hf : appFresh g d v = true := by simp only [appFresh, Bool.and_eq_true, decide_eq_true_eq]; exact ⟨h1, h2⟩
  constructor
  · unfold appErr appLen
    rw [if_neg (by simp [hf]), if_neg (by simp [hf]; omega), if_neg h4]
  · simp [appDev, hf]
theorem app_live {g : Geo} {d : Dev} {k : Nat} {x : Vol} {bs : List UInt8} (hx : d.vols[k]? = some x) (hx2 : x.gone = false) (h3 : (x.data.length : Int) + (bs.length : Int) ≤ g.volume) (h4 : d.fuel ≠ 0) : appErr g d (k : Int) bs.length = 0 ∧ appDev g d (k : Int) bs = { spent d with vols := d.vols.set k ⟨x.data ++ bs, x.synced, x.gone⟩ } := by
  have hkl : k < d.vols.length := (List.getElem?_eq_some_iff.1 hx).1
  have hf : appFresh g d (k : Int) = false := by simp [appFresh]; omega
  have hv : volOk d (k : Int) = true := by simp [volOk, hx, hx2]
  constructor
  · unfold appErr appLen
    rw [if_neg (by simp [hv]), if_neg (by simp [hf, volLen, hx]; omega), if_neg h4]
  · simp [appDev, hf, hx]
theorem bytes_app (a b : List UInt8) : (⟨a.toArray⟩ ++ ⟨b.toArray⟩ : ByteArray) = ⟨(a ++ b).toArray⟩ := by
  apply ByteArray.ext
  simp
theorem spent_fuel1 {d : Dev} (h : d.fuel = -1) : (spent d).fuel = -1 := by simp [spent, h]
set_option maxRecDepth 100000 in
set_option maxHeartbeats 8000000 in
theorem tapeTail_ret (s1 : ByteArray) (s2 : ByteArray) (n : Int) (hn : (Lit.int .i64 n).wf = true) (w : World) :
    Calls Try.prog 5 #[.string s1, .string s2, .int .i64 n] w (Ret ⟨Non, w⟩ fun v _ => v = .bool true) := by
  obtain ⟨hn1, hn2⟩ := i64_bd hn
  refine enter (G := ⟨Non, w⟩) (n := 142) 3000 (wf_nonL w) Try.func5 rfl Try.ntmps5 (by simp) ?_
  simp only [go_sem, Nat.reduceAdd, Nat.reduceSub, Nat.reduceMul, Nat.reduceEqDiff, Nat.reduceLT, Nat.reduceLeDiff, Nat.reduceBEq, Nat.reduceBNe, Int.reduceLT, Int.reduceLE, Int.reduceEq, Int.reduceAdd, Int.reduceSub, Int.reduceNeg, decide_true, decide_false, Bool.not_true, Bool.not_false, cond_true, cond_false, beq_self_eq_true, and_self, ne_eq, not_true_eq_false, not_false_eq_true, reduceCtorEq, Bool.true_beq, Bool.false_beq]
  refine plain_ok (N := 3000) (call_does (fun v _ => v = .agg #[.int .i64 6, .int .i64 2, .int .i64 6, .int .i64 300, .int .i64 3]) rfl rfl (by kernel_rfl) rfl (by simp only [dOk_some, dOk_none, Nat.reduceLT]) (fun G hG => small_does _)) (QOk_body _ _ _) (by first | exact .inl rfl | exact .inr ⟨_, _, rfl, rfl⟩) ?_
  rintro _ ⟨v, G1, rfl, hn1', rfl⟩
  clear hn1'
  simp only [go_sem, Nat.reduceAdd, Nat.reduceSub, Nat.reduceMul, Nat.reduceEqDiff, Nat.reduceLT, Nat.reduceLeDiff, Nat.reduceBEq, Nat.reduceBNe, Int.reduceLT, Int.reduceLE, Int.reduceEq, Int.reduceAdd, Int.reduceSub, Int.reduceNeg, decide_true, decide_false, Bool.not_true, Bool.not_false, cond_true, cond_false, beq_self_eq_true, and_self, ne_eq, not_true_eq_false, not_false_eq_true, reduceCtorEq, Bool.true_beq, Bool.false_beq]
  intro g1
  refine ⟨by omega, ?_⟩
  obtain ⟨a, ha⟩ : ∃ a : List UInt8, a = (s1.extract 0 (min s1.size 100)).data.toList := ⟨_, rfl⟩
  obtain ⟨b, hb⟩ : ∃ b : List UInt8, b = (s2.extract 0 (min s2.size 100)).data.toList := ⟨_, rfl⟩
  have hal : a.length ≤ 100 := by rw [ha]; exact cut_len s1 100
  have hbl : b.length ≤ 100 := by rw [hb]; exact cut_len s2 100
  refine plain_ok (N := 3000) (bytes_does (e := 5) rfl (tyStr9) (tySlice23) (tyInt5) rfl (by simp only [dOk_some, dOk_none, Nat.reduceLT]) (cut_sz s1 100 (by omega))) (QOk_body _ _ _) (by first | exact .inl rfl | exact .inr ⟨_, _, rfl, rfl⟩) ?_
  rw [cut_is s1 100 100 rfl, ← ha]
  rintro _ ⟨Aa, ca, G2, hba, rfl⟩
  simp only [go_sem, Nat.reduceAdd, Nat.reduceSub, Nat.reduceMul, Nat.reduceEqDiff, Nat.reduceLT, Nat.reduceLeDiff, Nat.reduceBEq, Nat.reduceBNe, Int.reduceLT, Int.reduceLE, Int.reduceEq, Int.reduceAdd, Int.reduceSub, Int.reduceNeg, decide_true, decide_false, Bool.not_true, Bool.not_false, cond_true, cond_false, beq_self_eq_true, and_self, ne_eq, not_true_eq_false, not_false_eq_true, reduceCtorEq, Bool.true_beq, Bool.false_beq]
  refine ⟨by omega, ?_⟩
  refine plain_ok (N := 3000) (bytes_does (e := 5) rfl (tyStr9) (tySlice23) (tyInt5) rfl (by simp only [dOk_some, dOk_none, Nat.reduceLT]) (cut_sz s2 100 (by omega))) (QOk_body _ _ _) (by first | exact .inl rfl | exact .inr ⟨_, _, rfl, rfl⟩) ?_
  rw [cut_is s2 100 100 rfl, ← hb]
  rintro _ ⟨Ab, cb, G3, hbb, rfl⟩
  simp only [go_sem, Nat.reduceAdd, Nat.reduceSub, Nat.reduceMul, Nat.reduceEqDiff, Nat.reduceLT, Nat.reduceLeDiff, Nat.reduceBEq, Nat.reduceBNe, Int.reduceLT, Int.reduceLE, Int.reduceEq, Int.reduceAdd, Int.reduceSub, Int.reduceNeg, decide_true, decide_false, Bool.not_true, Bool.not_false, cond_true, cond_false, beq_self_eq_true, and_self, ne_eq, not_true_eq_false, not_false_eq_true, reduceCtorEq, Bool.true_beq, Bool.false_beq]
  refine plain_ok (N := 3000) (call_does (fun v _ => ∃ k : Nat, (k : Int) = pick n 120 ∧ (k : Int) < 120 ∧ v = .int .i64 (k : Int)) rfl rfl (by kernel_rfl) rfl (by simp only [dOk_some, dOk_none, Nat.reduceLT]) (fun G hG => picked_does hn1 hn2 (by omega) (by omega))) (QOk_body _ _ _) (by first | exact .inl rfl | exact .inr ⟨_, _, rfl, rfl⟩) ?_
  rintro _ ⟨_, G4, ⟨k, _, hk, rfl⟩, hn4, rfl⟩
  clear hn4
  simp only [go_sem, Nat.reduceAdd, Nat.reduceSub, Nat.reduceMul, Nat.reduceEqDiff, Nat.reduceLT, Nat.reduceLeDiff, Nat.reduceBEq, Nat.reduceBNe, Int.reduceLT, Int.reduceLE, Int.reduceEq, Int.reduceAdd, Int.reduceSub, Int.reduceNeg, decide_true, decide_false, Bool.not_true, Bool.not_false, cond_true, cond_false, beq_self_eq_true, and_self, ne_eq, not_true_eq_false, not_false_eq_true, reduceCtorEq, Bool.true_beq, Bool.false_beq]
  refine plain_ok (N := 3000) (call_does (fun v G => ∃ dv, v = .tuple #[dv, .int .i64 0] ∧ DevG G dv (newDev smallGeo)) rfl rfl (by kernel_rfl) rfl (by simp only [dOk_some, dOk_none, Nat.reduceLT]) (fun G hG => new_does smallGood hG.wf (tidL hG (by simp) (by simp; decide)))) (QOk_body _ _ _) (by first | exact .inl rfl | exact .inr ⟨_, _, rfl, rfl⟩) ?_
  rintro _ ⟨_, G5, ⟨dv, rfl, hd0⟩, hn5, rfl⟩
  clear hn5
  obtain ⟨d0, e0⟩ : ∃ d0, d0 = newDev smallGeo := ⟨_, rfl⟩
  rw [← e0] at hd0
  have hg0 : GoodDev smallGeo d0 := e0 ▸ newGood smallGeo smallGood
  have hv0 : d0.vols = [] := by rw [e0]; rfl
  have hf0 : d0.fuel = -1 := by rw [e0]; rfl
  clear e0
  obtain ⟨A1, k1, A2, k2, A3, k3, rfl, _⟩ := hd0.form
  simp only [go_sem, Nat.reduceAdd, Nat.reduceSub, Nat.reduceMul, Nat.reduceEqDiff, Nat.reduceLT, Nat.reduceLeDiff, Nat.reduceBEq, Nat.reduceBNe, Int.reduceLT, Int.reduceLE, Int.reduceEq, Int.reduceAdd, Int.reduceSub, Int.reduceNeg, decide_true, decide_false, Bool.not_true, Bool.not_false, cond_true, cond_false, beq_self_eq_true, and_self, ne_eq, not_true_eq_false, not_false_eq_true, reduceCtorEq, Bool.true_beq, Bool.false_beq]
  intro g2
  obtain ⟨p1, p2⟩ := app_fresh (g := smallGeo) (d := d0) (v := 0) (bs := a) (by rw [hv0]; rfl) (by decide) (show (a.length : Int) ≤ 300 by omega) (by omega)
  refine plain_ok (N := 3000) (call_does (fun v G => ∃ dv, v = .tuple #[dv, .int .i64 0] ∧ DevG G dv (appDev smallGeo d0 0 a)) rfl rfl (by kernel_rfl) rfl (by simp only [dOk_some, dOk_none, Nat.reduceLT]) (fun G hG => ret_mono (append_does' smallGood hg0 (by omega) hG.wf (tidL hG (by simp) (by simp; decide)) (hd0.mono (hG.le G5 (by simp))) (ByG.mono hba (hG.le G2 (by simp)))) fun v G' _ h => dev_get h p1)) (QOk_body _ _ _) (by first | exact .inl rfl | exact .inr ⟨_, _, rfl, rfl⟩) ?_
  rintro _ ⟨_, G6, ⟨dv, rfl, hd1⟩, hn6, rfl⟩
  clear hn6
  obtain ⟨d1, e1⟩ : ∃ d1, d1 = appDev smallGeo d0 0 a := ⟨_, rfl⟩
  have hg1 : GoodDev smallGeo d1 := e1 ▸ good_app hg0 p1
  rw [← e1] at hd1
  have hv1 : d1.vols = [⟨a, 0, false⟩] := by rw [e1, p2]; show d0.vols ++ _ = _; rw [hv0]; rfl
  have hf1 : d1.fuel = -1 := by rw [e1, p2]; exact spent_fuel1 hf0
  clear e1 p1 p2
  obtain ⟨A4, k4, A5, k5, A6, k6, rfl, _⟩ := hd1.form
  simp only [go_sem, Nat.reduceAdd, Nat.reduceSub, Nat.reduceMul, Nat.reduceEqDiff, Nat.reduceLT, Nat.reduceLeDiff, Nat.reduceBEq, Nat.reduceBNe, Int.reduceLT, Int.reduceLE, Int.reduceEq, Int.reduceAdd, Int.reduceSub, Int.reduceNeg, decide_true, decide_false, Bool.not_true, Bool.not_false, cond_true, cond_false, beq_self_eq_true, and_self, ne_eq, not_true_eq_false, not_false_eq_true, reduceCtorEq, Bool.true_beq, Bool.false_beq]
  have p3 : downErr d1 = 0 := by unfold downErr; rw [if_neg (by omega)]
  refine plain_ok (N := 3000) (call_does (fun v G => ∃ dv, v = .tuple #[dv, .int .i64 0] ∧ DevG G dv (markDev d1)) rfl rfl (by kernel_rfl) rfl (by simp only [dOk_some, dOk_none, Nat.reduceLT]) (fun G hG => ret_mono (mark_does smallGood hg1 hG.wf (tidL hG (by simp) (by simp; decide)) (hd1.mono (hG.le G6 (by simp)))) fun v G' _ h => dev_get h p3)) (QOk_body _ _ _) (by first | exact .inl rfl | exact .inr ⟨_, _, rfl, rfl⟩) ?_
  rintro _ ⟨_, G7, ⟨dv, rfl, hd2⟩, hn7, rfl⟩
  clear hn7
  obtain ⟨d2, e2⟩ : ∃ d2, d2 = markDev d1 := ⟨_, rfl⟩
  have hg2 : GoodDev smallGeo d2 := e2 ▸ good_mark hg1
  rw [← e2] at hd2
  have hv2 : d2.vols = [⟨a, (a.length : Int), false⟩] := by rw [e2]; show d1.vols.map _ = _; rw [hv1]; rfl
  have hf2 : d2.fuel = -1 := by rw [e2]; exact spent_fuel1 hf1
  clear e2 p3
  obtain ⟨A7, k7, A8, k8, A9, k9, rfl, _⟩ := hd2.form
  simp only [go_sem, Nat.reduceAdd, Nat.reduceSub, Nat.reduceMul, Nat.reduceEqDiff, Nat.reduceLT, Nat.reduceLeDiff, Nat.reduceBEq, Nat.reduceBNe, Int.reduceLT, Int.reduceLE, Int.reduceEq, Int.reduceAdd, Int.reduceSub, Int.reduceNeg, decide_true, decide_false, Bool.not_true, Bool.not_false, cond_true, cond_false, beq_self_eq_true, and_self, ne_eq, not_true_eq_false, not_false_eq_true, reduceCtorEq, Bool.true_beq, Bool.false_beq]
  obtain ⟨p1, p2⟩ := app_live (g := smallGeo) (d := d2) (k := 0) (bs := b) (by rw [hv2]; rfl) rfl (show (a.length : Int) + (b.length : Int) ≤ 300 by omega) (by omega)
  refine plain_ok (N := 3000) (call_does (fun v G => ∃ dv, v = .tuple #[dv, .int .i64 0] ∧ DevG G dv (appDev smallGeo d2 (0 : Nat) b)) rfl rfl (by kernel_rfl) rfl (by simp only [dOk_some, dOk_none, Nat.reduceLT]) (fun G hG => ret_mono (append_does' (v := ((0 : Nat) : Int)) smallGood hg2 (by omega) hG.wf (tidL hG (by simp) (by simp; decide)) (hd2.mono (hG.le G7 (by simp))) (ByG.mono hbb (hG.le G3 (by simp)))) fun v G' _ h => dev_get h p1)) (QOk_body _ _ _) (by first | exact .inl rfl | exact .inr ⟨_, _, rfl, rfl⟩) ?_
  rintro _ ⟨_, G8, ⟨dv, rfl, hd3⟩, hn8, rfl⟩
  clear hn8
  obtain ⟨d3, e3⟩ : ∃ d3, d3 = appDev smallGeo d2 (0 : Nat) b := ⟨_, rfl⟩
  have hg3 : GoodDev smallGeo d3 := e3 ▸ good_app hg2 p1
  rw [← e3] at hd3
  have hv3 : d3.vols = [⟨a ++ b, (a.length : Int), false⟩] := by rw [e3, p2]; show d2.vols.set _ _ = _; rw [hv2]; rfl
  have hf3 : d3.fuel = -1 := by rw [e3, p2]; exact spent_fuel1 hf2
  clear e3 p1 p2
  obtain ⟨B1, m1, B2, m2, B3, m3, rfl, _⟩ := hd3.form
  simp only [go_sem, Nat.reduceAdd, Nat.reduceSub, Nat.reduceMul, Nat.reduceEqDiff, Nat.reduceLT, Nat.reduceLeDiff, Nat.reduceBEq, Nat.reduceBNe, Int.reduceLT, Int.reduceLE, Int.reduceEq, Int.reduceAdd, Int.reduceSub, Int.reduceNeg, decide_true, decide_false, Bool.not_true, Bool.not_false, cond_true, cond_false, beq_self_eq_true, and_self, ne_eq, not_true_eq_false, not_false_eq_true, reduceCtorEq, Bool.true_beq, Bool.false_beq]
  refine plain_ok (N := 3000) (call_does (fun v G => ∃ dv, v = .tuple #[dv, .int .i64 0] ∧ DevG G dv (crashDev d3 [] (k : Int))) rfl rfl (by kernel_rfl) rfl (by simp only [dOk_some, dOk_none, Nat.reduceLT]) (fun G hG => ret_mono (crash_does (keep := []) smallGood hg3 (by omega) hG.wf (tidL hG (by simp) (by simp; decide)) (hd3.mono (hG.le G8 (by simp))) (Sq.sc (t := 0) Sq.nil)) fun v G' _ h => dev_get h (by unfold crashErr; rw [if_neg (by omega)]))) (QOk_body _ _ _) (by first | exact .inl rfl | exact .inr ⟨_, _, rfl, rfl⟩) ?_
  rintro _ ⟨_, G9, ⟨dv, rfl, hd4⟩, hn9, rfl⟩
  clear hn9
  obtain ⟨d4, e4⟩ : ∃ d4, d4 = crashDev d3 [] (k : Int) := ⟨_, rfl⟩
  have hg4 : GoodDev smallGeo d4 := e4 ▸ good_crash hg3 (by omega)
  rw [← e4] at hd4
  obtain ⟨m, hm⟩ : ∃ m : Nat, m = min k b.length := ⟨_, rfl⟩
  have hv4 : d4.vols = [⟨a ++ b.take m, ((a.length + m : Nat) : Int), false⟩] := by
    rw [e4]
    show d3.vols.map _ = _
    rw [hv3]
    have e : (a.length : Int) + min (k : Int) (((a ++ b).length : Int) - (a.length : Int)) = ((a.length + m : Nat) : Int) := by simp; omega
    simp only [List.map_cons, List.map_nil, volCut, e, Int.toNat_natCast]
    rw [List.take_append, List.take_of_length_le (by omega), show a.length + m - a.length = m by omega]
  clear e4
  obtain ⟨B4, m4, B5, m5, B6, m6, rfl, _⟩ := hd4.form
  simp only [go_sem, Nat.reduceAdd, Nat.reduceSub, Nat.reduceMul, Nat.reduceEqDiff, Nat.reduceLT, Nat.reduceLeDiff, Nat.reduceBEq, Nat.reduceBNe, Int.reduceLT, Int.reduceLE, Int.reduceEq, Int.reduceAdd, Int.reduceSub, Int.reduceNeg, decide_true, decide_false, Bool.not_true, Bool.not_false, cond_true, cond_false, beq_self_eq_true, and_self, ne_eq, not_true_eq_false, not_false_eq_true, reduceCtorEq, Bool.true_beq, Bool.false_beq]
  intro g3
  have hmk : (m : Int) = min (k : Int) (b.length : Int) := by omega
  have hcb : b.length ≤ cb := by obtain ⟨_, _, e, q, _⟩ := ByG.form hbb; cases e; exact q
  have htl : (b.take m).length = m := by rw [List.length_take]; omega
  have hl4 : (a ++ b.take m).length = a.length + m := by rw [List.length_append, htl]
  have r1 : fetErr d4 0 0 ((a.length + m : Nat) : Int) = 0 := by
    have : volLen d4 0 = a.length + m := by simp only [volLen, hv4]; exact hl4
    unfold fetErr
    rw [if_neg (by simp [volOk, hv4]), if_neg (by rw [this]; omega)]
  have r2 : fetBytes d4 0 0 ((a.length + m : Nat) : Int) = a ++ b.take m := by
    simp only [fetBytes, hv4]
    show ((a ++ b.take m).drop 0).take (a.length + m) = _
    rw [List.drop_zero, List.take_of_length_le (by omega)]
  have r3 : fetErr d4 0 0 (((a.length + m : Nat) : Int) + 1) = 2 := by
    have : volLen d4 0 = a.length + m := by simp only [volLen, hv4]; exact hl4
    unfold fetErr
    rw [if_neg (by simp [volOk, hv4]), if_pos (by rw [this]; omega)]
  have r4 : appErr smallGeo d4 2 a.length = 6 := by
    unfold appErr
    rw [if_pos (by simp [appFresh, volOk, hv4])]
  refine draw_ok (N := 3000) (.take 0 (.take 2 (.take 3 (.take 4 (.take 5 (.take 6 (.alt 1 (.alt 7 (.alt 8 (.take 9 (.take 10 .done)) .last) .last) (.alt 7 (.alt 1 (.alt 8 (.take 9 (.take 10 .done)) .last) (.alt 8 (.alt 1 (.take 9 (.take 10 .done)) .last) .last)) .last)))))))) [] (QOk_body _ _ _) follows_mixed (by kernel_rfl) (by kernel_rfl) ?_
  simp only [go_sem, Nat.reduceAdd, Nat.reduceSub, Nat.reduceMul, Nat.reduceEqDiff, Nat.reduceLT, Nat.reduceLeDiff, Nat.reduceBEq, Nat.reduceBNe, Int.reduceLT, Int.reduceLE, Int.reduceEq, Int.reduceAdd, Int.reduceSub, Int.reduceNeg, decide_true, decide_false, Bool.not_true, Bool.not_false, cond_true, cond_false, beq_self_eq_true, and_self, ne_eq, not_true_eq_false, not_false_eq_true, reduceCtorEq, Bool.true_beq, Bool.false_beq]
  refine ⟨?_, ?_⟩
  · refine any_ok2 (N := 3000) (text_does (bs := a) (e := 5) rfl tyStr9 tySlice23 tyInt5 rfl (by simp only [dOk_some, dOk_none, Nat.reduceLT]) (fun G hG => Sl.mono hba (hG.le G2 (by simp)))) (QOk_body _ _ _) rfl (by first | exact .inl rfl | exact .inr ⟨_, _, rfl, rfl⟩) (by intro _ hK; first | (obtain ⟨_, _, _, _, rfl⟩ := hK; exact ⟨rfl, fun _ h => h⟩) | (obtain ⟨_, _, rfl⟩ := hK; exact ⟨rfl, fun _ h => h⟩) | (obtain ⟨_, _, _, _, _, _, rfl⟩ := hK; exact ⟨rfl, fun _ h => List.mem_cons_of_mem _ h⟩) | (obtain ⟨_, _, _, _, _, _, _, rfl⟩ := hK; exact ⟨rfl, fun _ h => List.mem_cons_of_mem _ h⟩) | (obtain rfl := hK; exact ⟨rfl, fun _ h => h⟩)) ?_
    rintro _ rfl
    simp only [go_sem, Nat.reduceAdd, Nat.reduceSub, Nat.reduceMul, Nat.reduceEqDiff, Nat.reduceLT, Nat.reduceLeDiff, Nat.reduceBEq, Nat.reduceBNe, Int.reduceLT, Int.reduceLE, Int.reduceEq, Int.reduceAdd, Int.reduceSub, Int.reduceNeg, decide_true, decide_false, Bool.not_true, Bool.not_false, cond_true, cond_false, beq_self_eq_true, and_self, ne_eq, not_true_eq_false, not_false_eq_true, reduceCtorEq, Bool.true_beq, Bool.false_beq]
    refine any_ok2 (N := 3000) (cut_does 0 m cb rfl tySlice23 tySize5 rfl rfl ⟨_, _, rfl, by omega⟩ (show 0 + cb = cb from by omega) (by simp) (by simp only [dOk_some, dOk_none, Nat.reduceLT]) (by omega) (by omega) (by omega) (fun G hG => (Sl.mono hbb (hG.le G3 (by simp)) : Sl _ _ _ _ _ _))) (QOk_body _ _ _) rfl (by first | exact .inl rfl | exact .inr ⟨_, _, rfl, rfl⟩) (by intro _ hK; first | (obtain ⟨_, _, _, _, rfl⟩ := hK; exact ⟨rfl, fun _ h => h⟩) | (obtain ⟨_, _, rfl⟩ := hK; exact ⟨rfl, fun _ h => h⟩) | (obtain ⟨_, _, _, _, _, _, rfl⟩ := hK; exact ⟨rfl, fun _ h => List.mem_cons_of_mem _ h⟩) | (obtain ⟨_, _, _, _, _, _, _, rfl⟩ := hK; exact ⟨rfl, fun _ h => List.mem_cons_of_mem _ h⟩) | (obtain rfl := hK; exact ⟨rfl, fun _ h => h⟩)) ?_
    rintro _ ⟨Am, G10, hs10, hn10, rfl⟩
    clear hn10
    have hbm : ByG G10 (.slice Am m cb) (b.take m) := by simpa using byG_cut hs10 (by omega)
    simp only [go_sem, Nat.reduceAdd, Nat.reduceSub, Nat.reduceMul, Nat.reduceEqDiff, Nat.reduceLT, Nat.reduceLeDiff, Nat.reduceBEq, Nat.reduceBNe, Int.reduceLT, Int.reduceLE, Int.reduceEq, Int.reduceAdd, Int.reduceSub, Int.reduceNeg, decide_true, decide_false, Bool.not_true, Bool.not_false, cond_true, cond_false, beq_self_eq_true, and_self, ne_eq, not_true_eq_false, not_false_eq_true, reduceCtorEq, Bool.true_beq, Bool.false_beq]
    refine any_ok2 (N := 3000) (text_does (bs := b.take m) (e := 5) rfl tyStr9 tySlice23 tyInt5 rfl (by simp only [dOk_some, dOk_none, Nat.reduceLT]) (fun G hG => Sl.mono hbm (hG.le G10 (by simp)))) (QOk_body _ _ _) rfl (by first | exact .inl rfl | exact .inr ⟨_, _, rfl, rfl⟩) (by intro _ hK; first | (obtain ⟨_, _, _, _, rfl⟩ := hK; exact ⟨rfl, fun _ h => h⟩) | (obtain ⟨_, _, rfl⟩ := hK; exact ⟨rfl, fun _ h => h⟩) | (obtain ⟨_, _, _, _, _, _, rfl⟩ := hK; exact ⟨rfl, fun _ h => List.mem_cons_of_mem _ h⟩) | (obtain ⟨_, _, _, _, _, _, _, rfl⟩ := hK; exact ⟨rfl, fun _ h => List.mem_cons_of_mem _ h⟩) | (obtain rfl := hK; exact ⟨rfl, fun _ h => h⟩)) ?_
    rintro _ rfl
    simp only [go_sem, Nat.reduceAdd, Nat.reduceSub, Nat.reduceMul, Nat.reduceEqDiff, Nat.reduceLT, Nat.reduceLeDiff, Nat.reduceBEq, Nat.reduceBNe, Int.reduceLT, Int.reduceLE, Int.reduceEq, Int.reduceAdd, Int.reduceSub, Int.reduceNeg, decide_true, decide_false, Bool.not_true, Bool.not_false, cond_true, cond_false, beq_self_eq_true, and_self, ne_eq, not_true_eq_false, not_false_eq_true, reduceCtorEq, Bool.true_beq, Bool.false_beq]
    simp only [htl]
    refine ⟨by omega, ?_⟩
    refine plain_ok (N := 3000) (call_does (fun v G => ∃ A c, v = .tuple #[.slice A (a.length + m) c, .int .i64 0] ∧ ByG G (.slice A (a.length + m) c) (a ++ b.take m)) rfl rfl (by kernel_rfl) rfl (by simp only [dOk_some, dOk_none, Nat.reduceLT]) (fun G hG => ret_mono (fetch_does (v := 0) (a := 0) (n := ((a.length + m : Nat) : Int)) smallGood hg4 (by omega) hG.wf (hd4.mono (hG.le G9 (by simp)))) fun v G' _ h => by { obtain ⟨u, rfl, hu⟩ := byt_get h r1; rw [r2] at hu; obtain ⟨A, c, rfl, _⟩ := hu.form; rw [hl4] at hu ⊢; exact ⟨A, c, rfl, hu⟩ })) (QOk_body _ _ _) (by first | exact .inl rfl | exact .inr ⟨_, _, rfl, rfl⟩) ?_
    rintro _ ⟨_, G11, ⟨Af, cf, rfl, hbf⟩, hn11, rfl⟩
    clear hn11
    simp only [go_sem, Nat.reduceAdd, Nat.reduceSub, Nat.reduceMul, Nat.reduceEqDiff, Nat.reduceLT, Nat.reduceLeDiff, Nat.reduceBEq, Nat.reduceBNe, Int.reduceLT, Int.reduceLE, Int.reduceEq, Int.reduceAdd, Int.reduceSub, Int.reduceNeg, decide_true, decide_false, Bool.not_true, Bool.not_false, cond_true, cond_false, beq_self_eq_true, and_self, ne_eq, not_true_eq_false, not_false_eq_true, reduceCtorEq, Bool.true_beq, Bool.false_beq, htl]
    refine ⟨by omega, ?_⟩
    refine plain_ok (N := 3000) (call_does (fun v G => v = .tuple #[.slice none 0 0, .int .i64 2]) rfl rfl (by kernel_rfl) rfl (by simp only [dOk_some, dOk_none, Nat.reduceLT]) (fun G hG => ret_mono (fetch_does (v := 0) (a := 0) (n := ((a.length + m : Nat) : Int) + 1) smallGood hg4 (by omega) hG.wf (hd4.mono (hG.le G9 (by simp)))) fun v G' _ h => byt_bad h r3 (by decide))) (QOk_body _ _ _) (by first | exact .inl rfl | exact .inr ⟨_, _, rfl, rfl⟩) ?_
    rintro _ ⟨_, G12, rfl, hn12, rfl⟩
    clear hn12
    simp only [go_sem, Nat.reduceAdd, Nat.reduceSub, Nat.reduceMul, Nat.reduceEqDiff, Nat.reduceLT, Nat.reduceLeDiff, Nat.reduceBEq, Nat.reduceBNe, Int.reduceLT, Int.reduceLE, Int.reduceEq, Int.reduceAdd, Int.reduceSub, Int.reduceNeg, decide_true, decide_false, Bool.not_true, Bool.not_false, cond_true, cond_false, beq_self_eq_true, and_self, ne_eq, not_true_eq_false, not_false_eq_true, reduceCtorEq, Bool.true_beq, Bool.false_beq]
    refine plain_ok (N := 3000) (call_does (fun v G => v = .tuple #[.agg #[.slice none 0 0, .slice none 0 0, .slice none 0 0, .int .i64 0], .int .i64 6]) rfl rfl (by kernel_rfl) rfl (by simp only [dOk_some, dOk_none, Nat.reduceLT]) (fun G hG => ret_mono (append_does' (v := 2) (bs := a) smallGood hg4 (by omega) hG.wf (tidL hG (by simp) (by simp; decide)) (hd4.mono (hG.le G9 (by simp))) (ByG.mono hba (hG.le G2 (by simp)))) fun v G' _ h => dev_bad h r4 (by decide))) (QOk_body _ _ _) (by first | exact .inl rfl | exact .inr ⟨_, _, rfl, rfl⟩) ?_
    rintro _ ⟨_, G13, rfl, hn13, rfl⟩
    clear hn13
    simp only [go_sem, Nat.reduceAdd, Nat.reduceSub, Nat.reduceMul, Nat.reduceEqDiff, Nat.reduceLT, Nat.reduceLeDiff, Nat.reduceBEq, Nat.reduceBNe, Int.reduceLT, Int.reduceLE, Int.reduceEq, Int.reduceAdd, Int.reduceSub, Int.reduceNeg, decide_true, decide_false, Bool.not_true, Bool.not_false, cond_true, cond_false, beq_self_eq_true, and_self, ne_eq, not_true_eq_false, not_false_eq_true, reduceCtorEq, Bool.true_beq, Bool.false_beq]
    intro g4
    refine plain_ok (N := 3000) (text_does (bs := a ++ b.take m) (e := 5) rfl tyStr9 tySlice23 tyInt5 rfl (by simp only [dOk_some, dOk_none, Nat.reduceLT]) (fun G hG => ByG.mono hbf (hG.le G11 (by simp)))) (QOk_body _ _ _) (by first | exact .inl rfl | exact .inr ⟨_, _, rfl, rfl⟩) ?_
    rintro _ rfl
    simp only [go_sem, Nat.reduceAdd, Nat.reduceSub, Nat.reduceMul, Nat.reduceEqDiff, Nat.reduceLT, Nat.reduceLeDiff, Nat.reduceBEq, Nat.reduceBNe, Int.reduceLT, Int.reduceLE, Int.reduceEq, Int.reduceAdd, Int.reduceSub, Int.reduceNeg, decide_true, decide_false, Bool.not_true, Bool.not_false, cond_true, cond_false, beq_self_eq_true, and_self, ne_eq, not_true_eq_false, not_false_eq_true, reduceCtorEq, Bool.true_beq, Bool.false_beq]
    refine fin_ret (G := ⟨Non, w⟩) Try.results5 ?_
    simp only [go_sem, Nat.reduceAdd, Nat.reduceSub, Nat.reduceMul, Nat.reduceEqDiff, Nat.reduceLT, Nat.reduceLeDiff, Nat.reduceBEq, Nat.reduceBNe, Int.reduceLT, Int.reduceLE, Int.reduceEq, Int.reduceAdd, Int.reduceSub, Int.reduceNeg, decide_true, decide_false, Bool.not_true, Bool.not_false, cond_true, cond_false, beq_self_eq_true, and_self, ne_eq, not_true_eq_false, not_false_eq_true, reduceCtorEq, Bool.true_beq, Bool.false_beq]
    intro aa w' _ _
    rw [bytes_app]
    show Value.bool (_ == _) = _
    rw [beq_self_eq_true]
  · refine any_ok2 (N := 3000) (cut_does 0 m cb rfl tySlice23 tySize5 rfl rfl ⟨_, _, rfl, by omega⟩ (show 0 + cb = cb from by omega) (by simp) (by simp only [dOk_some, dOk_none, Nat.reduceLT]) (by omega) (by omega) (by omega) (fun G hG => (Sl.mono hbb (hG.le G3 (by simp)) : Sl _ _ _ _ _ _))) (QOk_body _ _ _) rfl (by first | exact .inl rfl | exact .inr ⟨_, _, rfl, rfl⟩) (by intro _ hK; first | (obtain ⟨_, _, _, _, rfl⟩ := hK; exact ⟨rfl, fun _ h => h⟩) | (obtain ⟨_, _, rfl⟩ := hK; exact ⟨rfl, fun _ h => h⟩) | (obtain ⟨_, _, _, _, _, _, rfl⟩ := hK; exact ⟨rfl, fun _ h => List.mem_cons_of_mem _ h⟩) | (obtain ⟨_, _, _, _, _, _, _, rfl⟩ := hK; exact ⟨rfl, fun _ h => List.mem_cons_of_mem _ h⟩) | (obtain rfl := hK; exact ⟨rfl, fun _ h => h⟩)) ?_
    rintro _ ⟨Am, G10, hs10, hn10, rfl⟩
    clear hn10
    have hbm : ByG G10 (.slice Am m cb) (b.take m) := by simpa using byG_cut hs10 (by omega)
    simp only [go_sem, Nat.reduceAdd, Nat.reduceSub, Nat.reduceMul, Nat.reduceEqDiff, Nat.reduceLT, Nat.reduceLeDiff, Nat.reduceBEq, Nat.reduceBNe, Int.reduceLT, Int.reduceLE, Int.reduceEq, Int.reduceAdd, Int.reduceSub, Int.reduceNeg, decide_true, decide_false, Bool.not_true, Bool.not_false, cond_true, cond_false, beq_self_eq_true, and_self, ne_eq, not_true_eq_false, not_false_eq_true, reduceCtorEq, Bool.true_beq, Bool.false_beq]
    refine ⟨?_, ?_⟩
    · refine any_ok2 (N := 3000) (text_does (bs := a) (e := 5) rfl tyStr9 tySlice23 tyInt5 rfl (by simp only [dOk_some, dOk_none, Nat.reduceLT]) (fun G hG => Sl.mono hba (hG.le G2 (by simp)))) (QOk_body _ _ _) rfl (by first | exact .inl rfl | exact .inr ⟨_, _, rfl, rfl⟩) (by intro _ hK; first | (obtain ⟨_, _, _, _, rfl⟩ := hK; exact ⟨rfl, fun _ h => h⟩) | (obtain ⟨_, _, rfl⟩ := hK; exact ⟨rfl, fun _ h => h⟩) | (obtain ⟨_, _, _, _, _, _, rfl⟩ := hK; exact ⟨rfl, fun _ h => List.mem_cons_of_mem _ h⟩) | (obtain ⟨_, _, _, _, _, _, _, rfl⟩ := hK; exact ⟨rfl, fun _ h => List.mem_cons_of_mem _ h⟩) | (obtain rfl := hK; exact ⟨rfl, fun _ h => h⟩)) ?_
      rintro _ rfl
      simp only [go_sem, Nat.reduceAdd, Nat.reduceSub, Nat.reduceMul, Nat.reduceEqDiff, Nat.reduceLT, Nat.reduceLeDiff, Nat.reduceBEq, Nat.reduceBNe, Int.reduceLT, Int.reduceLE, Int.reduceEq, Int.reduceAdd, Int.reduceSub, Int.reduceNeg, decide_true, decide_false, Bool.not_true, Bool.not_false, cond_true, cond_false, beq_self_eq_true, and_self, ne_eq, not_true_eq_false, not_false_eq_true, reduceCtorEq, Bool.true_beq, Bool.false_beq]
      refine any_ok2 (N := 3000) (text_does (bs := b.take m) (e := 5) rfl tyStr9 tySlice23 tyInt5 rfl (by simp only [dOk_some, dOk_none, Nat.reduceLT]) (fun G hG => Sl.mono hbm (hG.le G10 (by simp)))) (QOk_body _ _ _) rfl (by first | exact .inl rfl | exact .inr ⟨_, _, rfl, rfl⟩) (by intro _ hK; first | (obtain ⟨_, _, _, _, rfl⟩ := hK; exact ⟨rfl, fun _ h => h⟩) | (obtain ⟨_, _, rfl⟩ := hK; exact ⟨rfl, fun _ h => h⟩) | (obtain ⟨_, _, _, _, _, _, rfl⟩ := hK; exact ⟨rfl, fun _ h => List.mem_cons_of_mem _ h⟩) | (obtain ⟨_, _, _, _, _, _, _, rfl⟩ := hK; exact ⟨rfl, fun _ h => List.mem_cons_of_mem _ h⟩) | (obtain rfl := hK; exact ⟨rfl, fun _ h => h⟩)) ?_
      rintro _ rfl
      simp only [go_sem, Nat.reduceAdd, Nat.reduceSub, Nat.reduceMul, Nat.reduceEqDiff, Nat.reduceLT, Nat.reduceLeDiff, Nat.reduceBEq, Nat.reduceBNe, Int.reduceLT, Int.reduceLE, Int.reduceEq, Int.reduceAdd, Int.reduceSub, Int.reduceNeg, decide_true, decide_false, Bool.not_true, Bool.not_false, cond_true, cond_false, beq_self_eq_true, and_self, ne_eq, not_true_eq_false, not_false_eq_true, reduceCtorEq, Bool.true_beq, Bool.false_beq]
      simp only [htl]
      refine ⟨by omega, ?_⟩
      refine plain_ok (N := 3000) (call_does (fun v G => ∃ A c, v = .tuple #[.slice A (a.length + m) c, .int .i64 0] ∧ ByG G (.slice A (a.length + m) c) (a ++ b.take m)) rfl rfl (by kernel_rfl) rfl (by simp only [dOk_some, dOk_none, Nat.reduceLT]) (fun G hG => ret_mono (fetch_does (v := 0) (a := 0) (n := ((a.length + m : Nat) : Int)) smallGood hg4 (by omega) hG.wf (hd4.mono (hG.le G9 (by simp)))) fun v G' _ h => by { obtain ⟨u, rfl, hu⟩ := byt_get h r1; rw [r2] at hu; obtain ⟨A, c, rfl, _⟩ := hu.form; rw [hl4] at hu ⊢; exact ⟨A, c, rfl, hu⟩ })) (QOk_body _ _ _) (by first | exact .inl rfl | exact .inr ⟨_, _, rfl, rfl⟩) ?_
      rintro _ ⟨_, G11, ⟨Af, cf, rfl, hbf⟩, hn11, rfl⟩
      clear hn11
      simp only [go_sem, Nat.reduceAdd, Nat.reduceSub, Nat.reduceMul, Nat.reduceEqDiff, Nat.reduceLT, Nat.reduceLeDiff, Nat.reduceBEq, Nat.reduceBNe, Int.reduceLT, Int.reduceLE, Int.reduceEq, Int.reduceAdd, Int.reduceSub, Int.reduceNeg, decide_true, decide_false, Bool.not_true, Bool.not_false, cond_true, cond_false, beq_self_eq_true, and_self, ne_eq, not_true_eq_false, not_false_eq_true, reduceCtorEq, Bool.true_beq, Bool.false_beq, htl]
      refine ⟨by omega, ?_⟩
      refine plain_ok (N := 3000) (call_does (fun v G => v = .tuple #[.slice none 0 0, .int .i64 2]) rfl rfl (by kernel_rfl) rfl (by simp only [dOk_some, dOk_none, Nat.reduceLT]) (fun G hG => ret_mono (fetch_does (v := 0) (a := 0) (n := ((a.length + m : Nat) : Int) + 1) smallGood hg4 (by omega) hG.wf (hd4.mono (hG.le G9 (by simp)))) fun v G' _ h => byt_bad h r3 (by decide))) (QOk_body _ _ _) (by first | exact .inl rfl | exact .inr ⟨_, _, rfl, rfl⟩) ?_
      rintro _ ⟨_, G12, rfl, hn12, rfl⟩
      clear hn12
      simp only [go_sem, Nat.reduceAdd, Nat.reduceSub, Nat.reduceMul, Nat.reduceEqDiff, Nat.reduceLT, Nat.reduceLeDiff, Nat.reduceBEq, Nat.reduceBNe, Int.reduceLT, Int.reduceLE, Int.reduceEq, Int.reduceAdd, Int.reduceSub, Int.reduceNeg, decide_true, decide_false, Bool.not_true, Bool.not_false, cond_true, cond_false, beq_self_eq_true, and_self, ne_eq, not_true_eq_false, not_false_eq_true, reduceCtorEq, Bool.true_beq, Bool.false_beq]
      refine plain_ok (N := 3000) (call_does (fun v G => v = .tuple #[.agg #[.slice none 0 0, .slice none 0 0, .slice none 0 0, .int .i64 0], .int .i64 6]) rfl rfl (by kernel_rfl) rfl (by simp only [dOk_some, dOk_none, Nat.reduceLT]) (fun G hG => ret_mono (append_does' (v := 2) (bs := a) smallGood hg4 (by omega) hG.wf (tidL hG (by simp) (by simp; decide)) (hd4.mono (hG.le G9 (by simp))) (ByG.mono hba (hG.le G2 (by simp)))) fun v G' _ h => dev_bad h r4 (by decide))) (QOk_body _ _ _) (by first | exact .inl rfl | exact .inr ⟨_, _, rfl, rfl⟩) ?_
      rintro _ ⟨_, G13, rfl, hn13, rfl⟩
      clear hn13
      simp only [go_sem, Nat.reduceAdd, Nat.reduceSub, Nat.reduceMul, Nat.reduceEqDiff, Nat.reduceLT, Nat.reduceLeDiff, Nat.reduceBEq, Nat.reduceBNe, Int.reduceLT, Int.reduceLE, Int.reduceEq, Int.reduceAdd, Int.reduceSub, Int.reduceNeg, decide_true, decide_false, Bool.not_true, Bool.not_false, cond_true, cond_false, beq_self_eq_true, and_self, ne_eq, not_true_eq_false, not_false_eq_true, reduceCtorEq, Bool.true_beq, Bool.false_beq]
      intro g4
      refine plain_ok (N := 3000) (text_does (bs := a ++ b.take m) (e := 5) rfl tyStr9 tySlice23 tyInt5 rfl (by simp only [dOk_some, dOk_none, Nat.reduceLT]) (fun G hG => ByG.mono hbf (hG.le G11 (by simp)))) (QOk_body _ _ _) (by first | exact .inl rfl | exact .inr ⟨_, _, rfl, rfl⟩) ?_
      rintro _ rfl
      simp only [go_sem, Nat.reduceAdd, Nat.reduceSub, Nat.reduceMul, Nat.reduceEqDiff, Nat.reduceLT, Nat.reduceLeDiff, Nat.reduceBEq, Nat.reduceBNe, Int.reduceLT, Int.reduceLE, Int.reduceEq, Int.reduceAdd, Int.reduceSub, Int.reduceNeg, decide_true, decide_false, Bool.not_true, Bool.not_false, cond_true, cond_false, beq_self_eq_true, and_self, ne_eq, not_true_eq_false, not_false_eq_true, reduceCtorEq, Bool.true_beq, Bool.false_beq]
      refine fin_ret (G := ⟨Non, w⟩) Try.results5 ?_
      simp only [go_sem, Nat.reduceAdd, Nat.reduceSub, Nat.reduceMul, Nat.reduceEqDiff, Nat.reduceLT, Nat.reduceLeDiff, Nat.reduceBEq, Nat.reduceBNe, Int.reduceLT, Int.reduceLE, Int.reduceEq, Int.reduceAdd, Int.reduceSub, Int.reduceNeg, decide_true, decide_false, Bool.not_true, Bool.not_false, cond_true, cond_false, beq_self_eq_true, and_self, ne_eq, not_true_eq_false, not_false_eq_true, reduceCtorEq, Bool.true_beq, Bool.false_beq]
      intro aa w' _ _
      rw [bytes_app]
      show Value.bool (_ == _) = _
      rw [beq_self_eq_true]
    · refine any_ok2 (N := 3000) (text_does (bs := b.take m) (e := 5) rfl tyStr9 tySlice23 tyInt5 rfl (by simp only [dOk_some, dOk_none, Nat.reduceLT]) (fun G hG => Sl.mono hbm (hG.le G10 (by simp)))) (QOk_body _ _ _) rfl (by first | exact .inl rfl | exact .inr ⟨_, _, rfl, rfl⟩) (by intro _ hK; first | (obtain ⟨_, _, _, _, rfl⟩ := hK; exact ⟨rfl, fun _ h => h⟩) | (obtain ⟨_, _, rfl⟩ := hK; exact ⟨rfl, fun _ h => h⟩) | (obtain ⟨_, _, _, _, _, _, rfl⟩ := hK; exact ⟨rfl, fun _ h => List.mem_cons_of_mem _ h⟩) | (obtain ⟨_, _, _, _, _, _, _, rfl⟩ := hK; exact ⟨rfl, fun _ h => List.mem_cons_of_mem _ h⟩) | (obtain rfl := hK; exact ⟨rfl, fun _ h => h⟩)) ?_
      rintro _ rfl
      simp only [go_sem, Nat.reduceAdd, Nat.reduceSub, Nat.reduceMul, Nat.reduceEqDiff, Nat.reduceLT, Nat.reduceLeDiff, Nat.reduceBEq, Nat.reduceBNe, Int.reduceLT, Int.reduceLE, Int.reduceEq, Int.reduceAdd, Int.reduceSub, Int.reduceNeg, decide_true, decide_false, Bool.not_true, Bool.not_false, cond_true, cond_false, beq_self_eq_true, and_self, ne_eq, not_true_eq_false, not_false_eq_true, reduceCtorEq, Bool.true_beq, Bool.false_beq]
      refine any_ok2 (N := 3000) (text_does (bs := a) (e := 5) rfl tyStr9 tySlice23 tyInt5 rfl (by simp only [dOk_some, dOk_none, Nat.reduceLT]) (fun G hG => Sl.mono hba (hG.le G2 (by simp)))) (QOk_body _ _ _) rfl (by first | exact .inl rfl | exact .inr ⟨_, _, rfl, rfl⟩) (by intro _ hK; first | (obtain ⟨_, _, _, _, rfl⟩ := hK; exact ⟨rfl, fun _ h => h⟩) | (obtain ⟨_, _, rfl⟩ := hK; exact ⟨rfl, fun _ h => h⟩) | (obtain ⟨_, _, _, _, _, _, rfl⟩ := hK; exact ⟨rfl, fun _ h => List.mem_cons_of_mem _ h⟩) | (obtain ⟨_, _, _, _, _, _, _, rfl⟩ := hK; exact ⟨rfl, fun _ h => List.mem_cons_of_mem _ h⟩) | (obtain rfl := hK; exact ⟨rfl, fun _ h => h⟩)) ?_
      rintro _ rfl
      simp only [go_sem, Nat.reduceAdd, Nat.reduceSub, Nat.reduceMul, Nat.reduceEqDiff, Nat.reduceLT, Nat.reduceLeDiff, Nat.reduceBEq, Nat.reduceBNe, Int.reduceLT, Int.reduceLE, Int.reduceEq, Int.reduceAdd, Int.reduceSub, Int.reduceNeg, decide_true, decide_false, Bool.not_true, Bool.not_false, cond_true, cond_false, beq_self_eq_true, and_self, ne_eq, not_true_eq_false, not_false_eq_true, reduceCtorEq, Bool.true_beq, Bool.false_beq]
      simp only [htl]
      refine ⟨by omega, ?_⟩
      refine plain_ok (N := 3000) (call_does (fun v G => ∃ A c, v = .tuple #[.slice A (a.length + m) c, .int .i64 0] ∧ ByG G (.slice A (a.length + m) c) (a ++ b.take m)) rfl rfl (by kernel_rfl) rfl (by simp only [dOk_some, dOk_none, Nat.reduceLT]) (fun G hG => ret_mono (fetch_does (v := 0) (a := 0) (n := ((a.length + m : Nat) : Int)) smallGood hg4 (by omega) hG.wf (hd4.mono (hG.le G9 (by simp)))) fun v G' _ h => by { obtain ⟨u, rfl, hu⟩ := byt_get h r1; rw [r2] at hu; obtain ⟨A, c, rfl, _⟩ := hu.form; rw [hl4] at hu ⊢; exact ⟨A, c, rfl, hu⟩ })) (QOk_body _ _ _) (by first | exact .inl rfl | exact .inr ⟨_, _, rfl, rfl⟩) ?_
      rintro _ ⟨_, G11, ⟨Af, cf, rfl, hbf⟩, hn11, rfl⟩
      clear hn11
      simp only [go_sem, Nat.reduceAdd, Nat.reduceSub, Nat.reduceMul, Nat.reduceEqDiff, Nat.reduceLT, Nat.reduceLeDiff, Nat.reduceBEq, Nat.reduceBNe, Int.reduceLT, Int.reduceLE, Int.reduceEq, Int.reduceAdd, Int.reduceSub, Int.reduceNeg, decide_true, decide_false, Bool.not_true, Bool.not_false, cond_true, cond_false, beq_self_eq_true, and_self, ne_eq, not_true_eq_false, not_false_eq_true, reduceCtorEq, Bool.true_beq, Bool.false_beq, htl]
      refine ⟨by omega, ?_⟩
      refine plain_ok (N := 3000) (call_does (fun v G => v = .tuple #[.slice none 0 0, .int .i64 2]) rfl rfl (by kernel_rfl) rfl (by simp only [dOk_some, dOk_none, Nat.reduceLT]) (fun G hG => ret_mono (fetch_does (v := 0) (a := 0) (n := ((a.length + m : Nat) : Int) + 1) smallGood hg4 (by omega) hG.wf (hd4.mono (hG.le G9 (by simp)))) fun v G' _ h => byt_bad h r3 (by decide))) (QOk_body _ _ _) (by first | exact .inl rfl | exact .inr ⟨_, _, rfl, rfl⟩) ?_
      rintro _ ⟨_, G12, rfl, hn12, rfl⟩
      clear hn12
      simp only [go_sem, Nat.reduceAdd, Nat.reduceSub, Nat.reduceMul, Nat.reduceEqDiff, Nat.reduceLT, Nat.reduceLeDiff, Nat.reduceBEq, Nat.reduceBNe, Int.reduceLT, Int.reduceLE, Int.reduceEq, Int.reduceAdd, Int.reduceSub, Int.reduceNeg, decide_true, decide_false, Bool.not_true, Bool.not_false, cond_true, cond_false, beq_self_eq_true, and_self, ne_eq, not_true_eq_false, not_false_eq_true, reduceCtorEq, Bool.true_beq, Bool.false_beq]
      refine plain_ok (N := 3000) (call_does (fun v G => v = .tuple #[.agg #[.slice none 0 0, .slice none 0 0, .slice none 0 0, .int .i64 0], .int .i64 6]) rfl rfl (by kernel_rfl) rfl (by simp only [dOk_some, dOk_none, Nat.reduceLT]) (fun G hG => ret_mono (append_does' (v := 2) (bs := a) smallGood hg4 (by omega) hG.wf (tidL hG (by simp) (by simp; decide)) (hd4.mono (hG.le G9 (by simp))) (ByG.mono hba (hG.le G2 (by simp)))) fun v G' _ h => dev_bad h r4 (by decide))) (QOk_body _ _ _) (by first | exact .inl rfl | exact .inr ⟨_, _, rfl, rfl⟩) ?_
      rintro _ ⟨_, G13, rfl, hn13, rfl⟩
      clear hn13
      simp only [go_sem, Nat.reduceAdd, Nat.reduceSub, Nat.reduceMul, Nat.reduceEqDiff, Nat.reduceLT, Nat.reduceLeDiff, Nat.reduceBEq, Nat.reduceBNe, Int.reduceLT, Int.reduceLE, Int.reduceEq, Int.reduceAdd, Int.reduceSub, Int.reduceNeg, decide_true, decide_false, Bool.not_true, Bool.not_false, cond_true, cond_false, beq_self_eq_true, and_self, ne_eq, not_true_eq_false, not_false_eq_true, reduceCtorEq, Bool.true_beq, Bool.false_beq]
      intro g4
      refine plain_ok (N := 3000) (text_does (bs := a ++ b.take m) (e := 5) rfl tyStr9 tySlice23 tyInt5 rfl (by simp only [dOk_some, dOk_none, Nat.reduceLT]) (fun G hG => ByG.mono hbf (hG.le G11 (by simp)))) (QOk_body _ _ _) (by first | exact .inl rfl | exact .inr ⟨_, _, rfl, rfl⟩) ?_
      rintro _ rfl
      simp only [go_sem, Nat.reduceAdd, Nat.reduceSub, Nat.reduceMul, Nat.reduceEqDiff, Nat.reduceLT, Nat.reduceLeDiff, Nat.reduceBEq, Nat.reduceBNe, Int.reduceLT, Int.reduceLE, Int.reduceEq, Int.reduceAdd, Int.reduceSub, Int.reduceNeg, decide_true, decide_false, Bool.not_true, Bool.not_false, cond_true, cond_false, beq_self_eq_true, and_self, ne_eq, not_true_eq_false, not_false_eq_true, reduceCtorEq, Bool.true_beq, Bool.false_beq]
      refine fin_ret (G := ⟨Non, w⟩) Try.results5 ?_
      simp only [go_sem, Nat.reduceAdd, Nat.reduceSub, Nat.reduceMul, Nat.reduceEqDiff, Nat.reduceLT, Nat.reduceLeDiff, Nat.reduceBEq, Nat.reduceBNe, Int.reduceLT, Int.reduceLE, Int.reduceEq, Int.reduceAdd, Int.reduceSub, Int.reduceNeg, decide_true, decide_false, Bool.not_true, Bool.not_false, cond_true, cond_false, beq_self_eq_true, and_self, ne_eq, not_true_eq_false, not_false_eq_true, reduceCtorEq, Bool.true_beq, Bool.false_beq]
      intro aa w' _ _
      rw [bytes_app]
      show Value.bool (_ == _) = _
      rw [beq_self_eq_true]
theorem tapeTail_walk (s1 : ByteArray) (_ : s1.size ≤ maxLen) (s2 : ByteArray) (_ : s2.size ≤ maxLen) (n : Int) (hn : (Lit.int .i64 n).wf = true) (w : World) :
    Calls Try.prog 5 #[.string s1, .string s2, .int .i64 n] w fun e w' => e = .returned (.bool true) ∧ Below w.heap.size w w' :=
  (tapeTail_ret s1 s2 n hn w).mono fun e w' ⟨v, he, hv, hc⟩ => ⟨by rw [he, hv], hc.below⟩
end Go.Proofs.Ytomfladifefomaa
