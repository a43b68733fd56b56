/- 'icehousekeep.CommitDies' returns true for every two ints, two texts and every slice of booleans. Conditions: the texts are of 1048576 bytes at most. -/
import Derived.Test.YtomfladifefomaaR6
import Derived.Test.YtomfladifefomaaU19
namespace Go.Proofs.Ytomfladifefomaa
open Go.RowKit
set_option linter.unusedSimpArgs false
/-- in a region that draws: an operation that hangs on one that was not carried out -/
theorem any_undef {P : Program} {E : Env} {k : Cont} {N : Nat} {ops : Array Oper} {B : List Bl} {V : List Vw} {fu i : Nat} {listed : Array Bool} {p : Plan} {o : Oper} {σ : St} {j t q : Nat} {want : Bool} (hi : ops[i]? = some o) (hq : o.dst = some q) (hg : o.guard = some (j, want)) (hj : gTmp ops j = some t) (hl : look σ.tmps t = some (.c (.v undef))) (hd : dOk E (some q)) (hk : k.ok)
    (h : W P E N k (.any ops B V fu (listed.setIfInBounds i true) p) (σ.put (some q) (.c (.v undef)))) : AnyStop P E k ops B V fu listed i p o σ := by
  rw [← hq] at hd h
  intro hI a w hr
  obtain ⟨hpl, hpa, hB0, hV0⟩ := hI
  have hy : yielded ops a.tmps j = none := by
    have hd' : (ops[j]?).bind (·.dst) = some t := hj
    have := hr.tmps t _ hl
    simp only [yielded, hd', Option.bind_some, this, SV.den, SC.den]
    rfl
  have hw : Region.wanted o (yielded ops a.tmps) = false := by simp [Region.wanted, hg, hy]
  have hr' := hr.put o.dst (.c (.v undef)) (dOk_lt hd)
  have hB' : ∀ b ∈ B, b ∈ (σ.put o.dst (.c (.v undef))).blks := by rw [(put_blks _ _ _).1]; exact hB0
  have hV' : ∀ v ∈ V, v ∈ (σ.put o.dst (.c (.v undef))).views := by rw [(put_blks _ _ _).2]; exact hV0
  unfold wpOp
  simp only [hi, hw, Bool.false_eq_true, if_false]
  exact ⟨Sof_of hr' hB' hV', W_sound N k _ _ hk h ⟨hpl, hpa, hB', hV'⟩ _ _ hr'⟩
theorem content_fuel (d : Dev) (f : Int) : content { d with fuel := f } = content d := by
  funext n
  unfold content
  have : ∀ i, valTo all_ { d with fuel := f } n i = valTo all_ d n i := by
    intro i
    induction i with
    | zero => rfl
    | succ i ih => unfold valTo; rw [ih]
  exact this _
set_option maxRecDepth 100000 in
set_option maxHeartbeats 32000000 in
theorem commitDies_ret {w : World} (a0 : Int) (w0 : (Lit.int .i64 a0).wf = true) (s : ByteArray) (hs : s.size ≤ maxLen) (t : ByteArray) (ht : t.size + 1 ≤ maxLen) (a3 : Int) (w3 : (Lit.int .i64 a3).wf = true) (v4 : Value) (keep : List Bool) (h4 : BoolsG ⟨Non, w⟩ v4 keep) :
    Calls Try.prog 20 #[.int .i64 a0, .string s, .string t, .int .i64 a3, v4] w (Ret ⟨Non, w⟩ fun v _ => v = .bool true) := by
  obtain ⟨A', c', rfl, _, _⟩ := ScR.form h4
  have i0 : i64 a0 := i64_bd w0
  have i3 : i64 a3 := i64_bd w3
  have ht2 : (t.size : Int) + 1 ≤ 9223372036854775807 := by unfold maxLen at ht; omega
  have hr8 : 8 ≤ (geoK a0 a0 a0).ring := by
    show (8 : Int) ≤ 8 + pick a0 30
    have := pick_bd a0 30 (by omega)
    omega
  refine enter (G := ⟨Non, w⟩) (n := 151) 3000 (wf_nonL w) Try.func20 rfl Try.ntmps20 (by simp) ?_
  simp only [go_sem, Nat.reduceAdd, Nat.reduceSub, Nat.reduceMul, Nat.reduceEqDiff, Nat.reduceLT, Nat.reduceLeDiff, Nat.reduceBEq, Nat.reduceBNe, Int.reduceLT, Int.reduceLE, Int.reduceEq, Int.reduceAdd, Int.reduceSub, Int.reduceNeg, reduceCtorEq]
  refine plain_ok (N := 3000) (call_does (fun v _ => v = .agg #[.int .i64 (geoK a0 a0 a0).ring, .int .i64 (geoK a0 a0 a0).area, .int .i64 (geoK a0 a0 a0).hot, .int .i64 (geoK a0 a0 a0).volume, .int .i64 (geoK a0 a0 a0).volumes]) rfl rfl (by kernel_rfl) rfl (by simp only [dOk_some, dOk_none, Nat.reduceLT]) (fun G hG => geometry_does i0 i0 i0 hG.wf)) (QOk_body _ _ _) (by first | exact .inl rfl | exact .inr ⟨_, _, rfl, rfl⟩) ?_
  rintro _ ⟨_, G1, rfl, hn1, rfl⟩
  clear hn1
  have hg := geoK_good a0 a0 a0
  generalize geoK a0 a0 a0 = g at hg hr8
  simp only [go_sem, Nat.reduceAdd, Nat.reduceSub, Nat.reduceMul, Nat.reduceEqDiff, Nat.reduceLT, Nat.reduceLeDiff, Nat.reduceBEq, Nat.reduceBNe, Int.reduceLT, Int.reduceLE, Int.reduceEq, Int.reduceAdd, Int.reduceSub, Int.reduceNeg, reduceCtorEq]
  intro g1
  refine plain_ok (N := 3000) (call_does (fun v G => ∃ dv, v = .tuple #[dv, jrV firstJ, .bool true] ∧ DevG G dv (fmtDev g)) rfl rfl (by kernel_rfl) rfl (by simp only [dOk_some, dOk_none, Nat.reduceLT]) (fun G hG => formatted_does hg hG.wf (tidL hG (by simp) (by simp; decide)))) (QOk_body _ _ _) (by first | exact .inl rfl | exact .inr ⟨_, _, rfl, rfl⟩) ?_
  rintro _ ⟨_, G2, ⟨dv, rfl, hd0⟩, hn2, rfl⟩
  clear hn2
  obtain ⟨hg0, hf0, hc0⟩ := fmtDev_good hg
  have hk0 := fmt_kept hg
  generalize fmtDev g = d0 at hd0 hg0 hf0 hc0 hk0
  obtain ⟨A1, k1, A2, k2, A3, k3, rfl, hfo⟩ := hd0.form
  clear hfo
  have hfirst : firstJ.gen = 1 ∧ firstJ.epoch = 1 ∧ firstJ.used = 0 ∧ firstJ.next = 1 := ⟨rfl, rfl, rfl, rfl⟩
  have hjv : jrV firstJ = .agg #[.int .i64 firstJ.gen, .int .i64 firstJ.epoch, .int .i64 firstJ.area, .int .i64 firstJ.length, .int .i64 firstJ.start, .int .i64 firstJ.first, .int .i64 firstJ.place, .int .i64 firstJ.next, .int .i64 firstJ.used] := rfl
  rw [hjv]
  clear hjv
  generalize firstJ = j0 at hk0 hfirst
  simp only [go_sem, Nat.reduceAdd, Nat.reduceSub, Nat.reduceMul, Nat.reduceEqDiff, Nat.reduceLT, Nat.reduceLeDiff, Nat.reduceBEq, Nat.reduceBNe, Int.reduceLT, Int.reduceLE, Int.reduceEq, Int.reduceAdd, Int.reduceSub, Int.reduceNeg, reduceCtorEq]
  intro g2 g3
  refine plain_ok (N := 3000) (call_does (fun v _ => v = .string (bodyOf s 250)) rfl rfl (by kernel_rfl) rfl (by simp only [dOk_some, dOk_none, Nat.reduceLT]) (fun G hG => body_does hs ⟨by omega, by omega⟩ hG.wf)) (QOk_body _ _ _) (by first | exact .inl rfl | exact .inr ⟨_, _, rfl, rfl⟩) ?_
  rintro _ ⟨_, G5, rfl, hn5, rfl⟩
  clear hn5
  simp only [go_sem, Nat.reduceAdd, Nat.reduceSub, Nat.reduceMul, Nat.reduceEqDiff, Nat.reduceLT, Nat.reduceLeDiff, Nat.reduceBEq, Nat.reduceBNe, Int.reduceLT, Int.reduceLE, Int.reduceEq, Int.reduceAdd, Int.reduceSub, Int.reduceNeg, reduceCtorEq]
  refine plain_ok (N := 3000) (call_does (fun v _ => v = .string (bodyOf s 250)) rfl rfl (by kernel_rfl) rfl (by simp only [dOk_some, dOk_none, Nat.reduceLT]) (fun G hG => body_does hs ⟨by omega, by omega⟩ hG.wf)) (QOk_body _ _ _) (by first | exact .inl rfl | exact .inr ⟨_, _, rfl, rfl⟩) ?_
  rintro _ ⟨_, G6, rfl, hn6, rfl⟩
  clear hn6
  have hS2 := bodyOf_size s 250
  simp only [go_sem, Nat.reduceAdd, Nat.reduceSub, Nat.reduceMul, Nat.reduceEqDiff, Nat.reduceLT, Nat.reduceLeDiff, Nat.reduceBEq, Nat.reduceBNe, Int.reduceLT, Int.reduceLE, Int.reduceEq, Int.reduceAdd, Int.reduceSub, Int.reduceNeg, reduceCtorEq]
  refine ⟨by omega, ?_⟩
  have hS : ((bodyOf s 250).extract (Int.toNat 0) (min ((bodyOf s 250).size : Int) 150).toNat).size ≤ 150 := by simp; omega
  refine plain_ok (N := 3000) (bytes_does (e := 5) rfl (tyStr9) (tySlice23) (tyInt5) rfl (by simp only [dOk_some, dOk_none, Nat.reduceLT]) (by omega)) (QOk_body _ _ _) (by first | exact .inl rfl | exact .inr ⟨_, _, rfl, rfl⟩) ?_
  rintro _ ⟨Ax, cx, G7, hbx, rfl⟩
  generalize (bodyOf s 250).extract (Int.toNat 0) (min ((bodyOf s 250).size : Int) 150).toNat = q at hbx hS
  have hlx : q.data.toList.length ≤ 150 := by rw [Array.length_toList]; exact hS
  generalize q.data.toList = x at hbx hlx
  clear hS hS2
  simp only [go_sem, Nat.reduceAdd, Nat.reduceSub, Nat.reduceMul, Nat.reduceEqDiff, Nat.reduceLT, Nat.reduceLeDiff, Nat.reduceBEq, Nat.reduceBNe, Int.reduceLT, Int.reduceLE, Int.reduceEq, Int.reduceAdd, Int.reduceSub, Int.reduceNeg, reduceCtorEq]
  refine ⟨ht2, ?_⟩
  obtain ⟨T, hTe⟩ : ∃ T : ByteArray, T = t ++ ⟨#[33]⟩ := ⟨_, rfl⟩
  have hT : T.size ≤ maxLen := by rw [hTe, ByteArray.size_append]; exact ht
  rw [← hTe]
  refine plain_ok (N := 3000) (call_does (fun v _ => v = .string (bodyOf T 280)) rfl rfl (by kernel_rfl) rfl (by simp only [dOk_some, dOk_none, Nat.reduceLT]) (fun G hG => body_does hT ⟨by omega, by omega⟩ hG.wf)) (QOk_body _ _ _) (by first | exact .inl rfl | exact .inr ⟨_, _, rfl, rfl⟩) ?_
  rintro _ ⟨_, G8, rfl, hn8, rfl⟩
  clear hn8
  simp only [go_sem, Nat.reduceAdd, Nat.reduceSub, Nat.reduceMul, Nat.reduceEqDiff, Nat.reduceLT, Nat.reduceLeDiff, Nat.reduceBEq, Nat.reduceBNe, Int.reduceLT, Int.reduceLE, Int.reduceEq, Int.reduceAdd, Int.reduceSub, Int.reduceNeg, reduceCtorEq]
  refine ⟨ht2, ?_⟩
  rw [← hTe]
  refine plain_ok (N := 3000) (call_does (fun v _ => v = .string (bodyOf T 280)) rfl rfl (by kernel_rfl) rfl (by simp only [dOk_some, dOk_none, Nat.reduceLT]) (fun G hG => body_does hT ⟨by omega, by omega⟩ hG.wf)) (QOk_body _ _ _) (by first | exact .inl rfl | exact .inr ⟨_, _, rfl, rfl⟩) ?_
  rintro _ ⟨_, G9, rfl, hn9, rfl⟩
  clear hn9
  have hS2 := bodyOf_size T 280
  simp only [go_sem, Nat.reduceAdd, Nat.reduceSub, Nat.reduceMul, Nat.reduceEqDiff, Nat.reduceLT, Nat.reduceLeDiff, Nat.reduceBEq, Nat.reduceBNe, Int.reduceLT, Int.reduceLE, Int.reduceEq, Int.reduceAdd, Int.reduceSub, Int.reduceNeg, reduceCtorEq]
  refine ⟨by omega, ?_⟩
  have hS : ((bodyOf T 280).extract (Int.toNat 0) (min ((bodyOf T 280).size : Int) 200).toNat).size ≤ 200 := by simp; omega
  refine plain_ok (N := 3000) (bytes_does (e := 5) rfl (tyStr9) (tySlice23) (tyInt5) rfl (by simp only [dOk_some, dOk_none, Nat.reduceLT]) (by omega)) (QOk_body _ _ _) (by first | exact .inl rfl | exact .inr ⟨_, _, rfl, rfl⟩) ?_
  rintro _ ⟨Ay, cy, G10, hby, rfl⟩
  generalize (bodyOf T 280).extract (Int.toNat 0) (min ((bodyOf T 280).size : Int) 200).toNat = q at hby hS
  have hly : q.data.toList.length ≤ 200 := by rw [Array.length_toList]; exact hS
  generalize q.data.toList = y at hby hly
  clear hS hS2
  simp only [go_sem, Nat.reduceAdd, Nat.reduceSub, Nat.reduceMul, Nat.reduceEqDiff, Nat.reduceLT, Nat.reduceLeDiff, Nat.reduceBEq, Nat.reduceBNe, Int.reduceLT, Int.reduceLE, Int.reduceEq, Int.reduceAdd, Int.reduceSub, Int.reduceNeg, reduceCtorEq]
  have hcx : cnt x ≤ 3 ∧ 1 ≤ cnt x := by unfold cnt; omega
  have hcy : cnt y ≤ 4 ∧ 1 ≤ cnt y := by unfold cnt; omega
  have hnf : ¬ fullJ g j0 x := by unfold fullJ; omega
  refine plain_ok (N := 3000) (call_does (fun u G => ∃ dv, u = .tuple #[dv, jrV (moreJ g j0 x), .int .i64 0] ∧ DevG G dv (hFlush (commitTo g d0 j0 x (cnt x))).1) rfl rfl (by kernel_rfl) rfl (by simp only [dOk_some, dOk_none, Nat.reduceLT]) (fun G hG => ret_mono (commit_does hg hg0 hf0 hc0 (kept_weak hk0) (by omega) hG.wf (tidL hG (by simp) (by simp; decide)) (hd0.mono (hG.le G2 (by simp))) (ByG.mono hbx (hG.le G7 (by simp)))) fun u G' _ h => by rcases h with ⟨q, _⟩ | ⟨_, h⟩; exact absurd q hnf; exact h)) (QOk_body _ _ _) (by first | exact .inl rfl | exact .inr ⟨_, _, rfl, rfl⟩) ?_
  rintro _ ⟨_, G11, ⟨dv, rfl, hd1⟩, hn11, rfl⟩
  clear hn11
  obtain ⟨_, hg1, hf1, hc1, hk1⟩ := commit_kept hg hg0 hf0 hc0 (kept_weak hk0) hnf
  generalize (hFlush (commitTo g d0 j0 x (cnt x))).1 = d1 at hd1 hg1 hf1 hc1 hk1
  have hj1 : (moreJ g j0 x).gen = 1 ∧ (moreJ g j0 x).epoch = 1 ∧ (moreJ g j0 x).used = (cnt x : Int) ∧ (moreJ g j0 x).next = 2 := ⟨hfirst.1, hfirst.2.1, by show j0.used + (cnt x : Int) = _; omega, by show j0.next + 1 = 2; omega⟩
  generalize moreJ g j0 x = j1 at hk1 hj1
  rw [List.nil_append] at hk1
  obtain ⟨B1, m1, B2, m2, B3, m3, rfl, hfo⟩ := hd1.form
  clear hfo hk0 hg0 hf0 hc0 hd0
  simp only [go_sem, Nat.reduceAdd, Nat.reduceSub, Nat.reduceMul, Nat.reduceEqDiff, Nat.reduceLT, Nat.reduceLeDiff, Nat.reduceBEq, Nat.reduceBNe, Int.reduceLT, Int.reduceLE, Int.reduceEq, Int.reduceAdd, Int.reduceSub, Int.reduceNeg, reduceCtorEq, jrV]
  refine cut_code2 (N := 3000) (ι := Dev × (Option Addr × Nat) × (Option Addr × Nat) × (Option Addr × Nat) × GW)
    (fun i => match i with | (z, (F1, f1), (F2, f2), (F3, f3), G) => ⟨[(4, .c (.v (.slice A' keep.length c'))), (11, .c (.p 0 g1 0)), (12, .c (.p 1 g2 0)), (13, .c (.p 2 g3 0)), (14, .c (.v (.bool true))), (15, .c (.v (.slice Ax x.length cx))), (16, .c (.v (.slice Ay y.length cy))), (17, .c (.v (.int .i64 0))), (18, .c (.v (.int .i64 0)))],
      [⟨2, g3, 81, [.v (.int .i64 j1.gen), .v (.int .i64 j1.epoch), .v (.int .i64 j1.area), .v (.int .i64 j1.length), .v (.int .i64 j1.start), .v (.int .i64 j1.first), .v (.int .i64 j1.place), .v (.int .i64 j1.next), .v (.int .i64 j1.used)]⟩, ⟨1, g2, 37, [.v (.slice F1 z.safe.length f1), .v (.slice F2 z.cache.length f2), .v (.slice F3 z.vols.length f3), .v (.int .i64 z.fuel)]⟩, ⟨0, g1, 32, [.v (.int .i64 g.ring), .v (.int .i64 g.area), .v (.int .i64 g.hot), .v (.int .i64 g.volume), .v (.int .i64 g.volumes)]⟩], [], [], [G, G10, G7, ⟨Non, w⟩], 3⟩)
    (fun i => match i with | (z, (F1, f1), (F2, f2), (F3, f3), G) => DevG G (.agg #[.slice F1 z.safe.length f1, .slice F2 z.cache.length f2, .slice F3 z.vols.length f3, .int .i64 z.fuel]) z ∧ GoodDev g z ∧ z.cache.length = 0 ∧ Kept g (content z) j1 [] [(j0.epoch, x)] 0) (QOk_body _ _ _) ?_ ?_
  rotate_left
  · intro k' J hk' hJ
    refine draw_ok (N := 3000) (.take 0 (.take 2 (.alt 1 (.alt 3 (.alt 4 (.take 5 (.take 6 (.take 7 (.alt 8 (.take 9 .done) .last)))) .last) .last) (.alt 3 (.alt 1 (.alt 4 (.take 5 (.take 6 (.take 7 (.alt 8 (.take 9 .done) .last)))) .last) .last) .last)))) [1] hk' follows_mixed (by kernel_rfl) (by kernel_rfl) ?_
    simp only [go_sem, Nat.reduceAdd, Nat.reduceSub, Nat.reduceMul, Nat.reduceEqDiff, Nat.reduceLT, Nat.reduceLeDiff, Nat.reduceBEq, Nat.reduceBNe, Int.reduceLT, Int.reduceLE, Int.reduceEq, Int.reduceAdd, Int.reduceSub, Int.reduceNeg, reduceCtorEq]
    refine ⟨?_, ?_⟩
    · refine anyc_ok (N := 3000) (call_does (fun v _ => ∃ k : Nat, (k : Int) = pick a3 9 ∧ (k : Int) < 9 ∧ v = .int .i64 (k : Int)) rfl rfl (by kernel_rfl) rfl (by simp only [dOk_some, dOk_none, Nat.reduceLT]) (fun G hG => picked_does i3.1 i3.2 (by omega) (by omega))) hk' rfl (by first | exact .inl rfl | exact .inr ⟨_, _, rfl, rfl⟩) ?_
      rintro _ ⟨_, G12, ⟨k, _, hk, rfl⟩, hn12, rfl⟩
      clear hn12
      simp only [go_sem, Nat.reduceAdd, Nat.reduceSub, Nat.reduceMul, Nat.reduceEqDiff, Nat.reduceLT, Nat.reduceLeDiff, Nat.reduceBEq, Nat.reduceBNe, Int.reduceLT, Int.reduceLE, Int.reduceEq, Int.reduceAdd, Int.reduceSub, Int.reduceNeg, reduceCtorEq]
      have he : armErr (k : Int) = 0 := by unfold armErr; rw [if_neg (by omega)]
      refine anyc_ok (N := 3000) (call_does (fun v G => ∃ dv, v = .tuple #[dv, .int .i64 0] ∧ DevG G dv { d1 with fuel := (k : Int) }) rfl rfl (by kernel_rfl) rfl (by simp only [dOk_some, dOk_none, Nat.reduceLT]) (fun G hG => ret_mono (arm_does (f := (k : Int)) hg hg1 hG.wf (tidL hG (by simp) (by simp; decide)) (hd1.mono (hG.le G11 (by simp)))) fun v G' _ h => dev_get h he)) hk' rfl (by first | exact .inl rfl | exact .inr ⟨_, _, rfl, rfl⟩) ?_
      rintro _ ⟨_, G13, ⟨dv, rfl, hd2⟩, hn13, rfl⟩
      clear hn13
      obtain ⟨D1, e1, D2, e2, D3, e3, rfl, hfo⟩ := hd2.form
      clear hfo
      simp only [go_sem, Nat.reduceAdd, Nat.reduceSub, Nat.reduceMul, Nat.reduceEqDiff, Nat.reduceLT, Nat.reduceLeDiff, Nat.reduceBEq, Nat.reduceBNe, Int.reduceLT, Int.reduceLE, Int.reduceEq, Int.reduceAdd, Int.reduceSub, Int.reduceNeg, reduceCtorEq]
      exact hJ (_, (D1, e1), (D2, e2), (D3, e3), G13) _ ⟨hd2, good_arm hg1 (by omega) (by omega), hc1, by rw [content_fuel]; exact hk1⟩ (by simp only [go_sem, Nat.reduceAdd, Nat.reduceSub, Nat.reduceMul, Nat.reduceEqDiff, Nat.reduceLT, Nat.reduceLeDiff, Nat.reduceBEq, Nat.reduceBNe, Int.reduceLT, Int.reduceLE, Int.reduceEq, Int.reduceAdd, Int.reduceSub, Int.reduceNeg, reduceCtorEq]; simp)
    · refine anyc_ok (N := 3000) (call_does (fun v _ => ∃ k : Nat, (k : Int) = pick a3 9 ∧ (k : Int) < 9 ∧ v = .int .i64 (k : Int)) rfl rfl (by kernel_rfl) rfl (by simp only [dOk_some, dOk_none, Nat.reduceLT]) (fun G hG => picked_does i3.1 i3.2 (by omega) (by omega))) hk' rfl (by first | exact .inl rfl | exact .inr ⟨_, _, rfl, rfl⟩) ?_
      rintro _ ⟨_, G12, ⟨k, _, hk, rfl⟩, hn12, rfl⟩
      clear hn12
      simp only [go_sem, Nat.reduceAdd, Nat.reduceSub, Nat.reduceMul, Nat.reduceEqDiff, Nat.reduceLT, Nat.reduceLeDiff, Nat.reduceBEq, Nat.reduceBNe, Int.reduceLT, Int.reduceLE, Int.reduceEq, Int.reduceAdd, Int.reduceSub, Int.reduceNeg, reduceCtorEq]
      have he : armErr (k : Int) = 0 := by unfold armErr; rw [if_neg (by omega)]
      refine anyc_ok (N := 3000) (call_does (fun v G => ∃ dv, v = .tuple #[dv, .int .i64 0] ∧ DevG G dv { d1 with fuel := (k : Int) }) rfl rfl (by kernel_rfl) rfl (by simp only [dOk_some, dOk_none, Nat.reduceLT]) (fun G hG => ret_mono (arm_does (f := (k : Int)) hg hg1 hG.wf (tidL hG (by simp) (by simp; decide)) (hd1.mono (hG.le G11 (by simp)))) fun v G' _ h => dev_get h he)) hk' rfl (by first | exact .inl rfl | exact .inr ⟨_, _, rfl, rfl⟩) ?_
      rintro _ ⟨_, G13, ⟨dv, rfl, hd2⟩, hn13, rfl⟩
      clear hn13
      obtain ⟨D1, e1, D2, e2, D3, e3, rfl, hfo⟩ := hd2.form
      clear hfo
      simp only [go_sem, Nat.reduceAdd, Nat.reduceSub, Nat.reduceMul, Nat.reduceEqDiff, Nat.reduceLT, Nat.reduceLeDiff, Nat.reduceBEq, Nat.reduceBNe, Int.reduceLT, Int.reduceLE, Int.reduceEq, Int.reduceAdd, Int.reduceSub, Int.reduceNeg, reduceCtorEq]
      exact hJ (_, (D1, e1), (D2, e2), (D3, e3), G13) _ ⟨hd2, good_arm hg1 (by omega) (by omega), hc1, by rw [content_fuel]; exact hk1⟩ (by simp only [go_sem, Nat.reduceAdd, Nat.reduceSub, Nat.reduceMul, Nat.reduceEqDiff, Nat.reduceLT, Nat.reduceLeDiff, Nat.reduceBEq, Nat.reduceBNe, Int.reduceLT, Int.reduceLE, Int.reduceEq, Int.reduceAdd, Int.reduceSub, Int.reduceNeg, reduceCtorEq]; simp)
  rintro ⟨d2, ⟨D1, e1⟩, ⟨D2, e2⟩, ⟨D3, e3⟩, G13⟩ hC
  obtain ⟨hd2, hg2, hc2, hk2⟩ := hC
  clear hd1 hg1 hf1 hc1 hk1 d1 G11 B1 B2 B3 m1 m2 m3
  simp only
  simp only [go_sem, Nat.reduceAdd, Nat.reduceSub, Nat.reduceMul, Nat.reduceEqDiff, Nat.reduceLT, Nat.reduceLeDiff, Nat.reduceBEq, Nat.reduceBNe, Int.reduceLT, Int.reduceLE, Int.reduceEq, Int.reduceAdd, Int.reduceSub, Int.reduceNeg, reduceCtorEq]
  have hnf2 : ¬ fullJ g j1 y := by unfold fullJ; omega
  obtain ⟨hy2, hgy, hky⟩ := die_kept hg hg2 hc2 hk2 hnf2
  refine plain_ok (N := 3000) (call_does (fun u G => HandE g (hFlush (commitTo g d2 j1 y (cnt y))) (moreJ g j1 y) u G) rfl rfl (by kernel_rfl) rfl (by simp only [dOk_some, dOk_none, Nat.reduceLT]) (fun G hG => ret_mono (commit_any hg hg2 hk2.ok (by omega) hG.wf (tidL hG (by simp) (by simp; decide)) (hd2.mono (hG.le G13 (by simp))) (ByG.mono hby (hG.le G10 (by simp)))) fun u G' _ h => by rcases h with ⟨q, _⟩ | ⟨_, h⟩; exact absurd q hnf2; exact h)) (QOk_body _ _ _) (by first | exact .inl rfl | exact .inr ⟨_, _, rfl, rfl⟩) ?_
  rintro _ ⟨_, G14, ⟨dv, rfl, hE1, _⟩, hn14, rfl⟩
  clear hn14
  have hd3 := hE1 hy2
  have hky := hky keep
  clear hE1
  have hj2 : (moreJ g j1 y).gen = 1 ∧ (moreJ g j1 y).epoch = 1 := ⟨hj1.1, hj1.2.1⟩
  generalize (if (hFlush (commitTo g d2 j1 y (cnt y))).2 = 0 then moreJ g j1 y else zeroJr) = J3
  generalize hFlush (commitTo g d2 j1 y (cnt y)) = yy at *
  generalize moreJ g j1 y = j2 at *
  obtain ⟨d3, e⟩ := yy
  simp only at hy2 hgy hky hd3 ⊢
  obtain ⟨E1, m1, E2, m2, E3, m3, rfl, hfo⟩ := hd3.form
  clear hfo
  rcases hky with hkA | ⟨rfl, hkB, hsB⟩
  · have hx0 : ([x, y] : List (List UInt8))[0]? = some x := rfl
    have hy0 : ([x, y] : List (List UInt8))[1]? = some y := rfl
    have r9 : decide (((2 : Nat) : Int) < 1) = false := rfl
    have r8 : decide (2 < ((2 : Nat) : Int)) = false := rfl
    have r7 : decide (((2 : Nat) : Int) = 2) = true := rfl
    rcases hy2 with rfl | rfl
    all_goals
      simp only [go_sem, Nat.reduceAdd, Nat.reduceSub, Nat.reduceMul, Nat.reduceEqDiff, Nat.reduceLT, Nat.reduceLeDiff, Nat.reduceBEq, Nat.reduceBNe, Int.reduceLT, Int.reduceLE, Int.reduceEq, Int.reduceAdd, Int.reduceSub, Int.reduceNeg, reduceCtorEq, jrV]
      intro g4 g5
      refine plain_ok (N := 3000) (call_does (fun u G => ∃ dv A c A2 c2, u = .tuple #[dv, jrV (upJ j2), .slice A 0 c, .slice A2 2 c2, .bool true] ∧ DevG G dv (backX d3 keep j2) ∧ SafG G (.slice A2 2 c2) [x, y]) rfl rfl (by kernel_rfl) rfl (by simp only [dOk_some, dOk_none, Nat.reduceLT]) (fun G hG => ret_mono (opened_does (keep := keep) hg hgy hkA (hkA.stops _) (by omega) (by omega) hG.wf (tidL hG (by simp) (by simp; decide)) (hd3.mono (hG.le G14 (by simp))) (ScR.mono h4 boolG_mono (hG.le ⟨Non, w⟩ (by simp)))) fun u G' _ h => by obtain ⟨dv, A, c, A2, c2, e, h1, _, h3⟩ := h; exact ⟨dv, A, c, A2, c2, e, h1, h3⟩)) (QOk_body _ _ _) (by first | exact .inl rfl | exact .inr ⟨_, _, rfl, rfl⟩) ?_
      rintro _ ⟨_, G15, ⟨dv, Ao, co, Aa, ca, rfl, hd7, hal⟩, hn15, rfl⟩
      clear hn15
      obtain ⟨L1, s1, L2, s2, L3, s3, rfl, hfo⟩ := hd7.form
      clear hfo
      simp only [go_sem, Nat.reduceAdd, Nat.reduceSub, Nat.reduceMul, Nat.reduceEqDiff, Nat.reduceLT, Nat.reduceLeDiff, Nat.reduceBEq, Nat.reduceBNe, Int.reduceLT, Int.reduceLE, Int.reduceEq, Int.reduceAdd, Int.reduceSub, Int.reduceNeg, reduceCtorEq, jrV, upJ]
      intro g6 g7
      refine preview_ok (R := RowG) (kc := 1) hx0 (fun G hG => (Sq.mono hal rowG_mono (hG G15 (by simp))).sc) fun ga oa csa Ga hA _ hca hlea => ?_
      subst hA
      clear hlea
      obtain ⟨Abb, cbb, rfl, hbx2⟩ := rowcell hca
      simp only [go_sem, Nat.reduceAdd, Nat.reduceSub, Nat.reduceMul, Nat.reduceEqDiff, Nat.reduceLT, Nat.reduceLeDiff, Nat.reduceBEq, Nat.reduceBNe, Int.reduceLT, Int.reduceLE, Int.reduceEq, Int.reduceAdd, Int.reduceSub, Int.reduceNeg, reduceCtorEq]
      refine preview_ok (R := RowG) (kc := 1) hy0 (fun G hG => (Sq.mono hal rowG_mono (hG G15 (by simp))).sc) fun gc oc csc Gc hA _ hcc hlec => ?_
      cases hA
      clear hlec
      obtain ⟨Acc, ccc, rfl, hby2⟩ := rowcell hcc
      simp only [go_sem, Nat.reduceAdd, Nat.reduceSub, Nat.reduceMul, Nat.reduceEqDiff, Nat.reduceLT, Nat.reduceLeDiff, Nat.reduceBEq, Nat.reduceBNe, Int.reduceLT, Int.reduceLE, Int.reduceEq, Int.reduceAdd, Int.reduceSub, Int.reduceNeg, reduceCtorEq]
      refine draw_ok (N := 3000) (.take 0 (.take 1 (.take 2 (.take 3 (.take 4 (.take 5 (.take 6 (.take 7 (.take 8 (.take 9 (.take 10 (.take 11 (.take 13 (.alt 12 (.alt 14 (.take 15 (.take 16 .done)) .last) (.alt 14 (.alt 12 (.take 15 (.take 16 .done)) .last) .last))))))))))))))) [] (QOk_body _ _ _) follows_mixed (by kernel_rfl) (by kernel_rfl) ?_
      simp only [go_sem, Nat.reduceAdd, Nat.reduceSub, Nat.reduceMul, Nat.reduceEqDiff, Nat.reduceLT, Nat.reduceLeDiff, Nat.reduceBEq, Nat.reduceBNe, Int.reduceLT, Int.reduceLE, Int.reduceEq, Int.reduceAdd, Int.reduceSub, Int.reduceNeg, reduceCtorEq, r9, r8]
      refine take_elem 7 (m := 0) rfl tySlice29 tySize23 rfl rfl (by simp only [dOk_some, dOk_none, Nat.reduceLT]) rfl (by omega) ?_
      simp only [go_sem, Nat.reduceAdd, Nat.reduceSub, Nat.reduceMul, Nat.reduceEqDiff, Nat.reduceLT, Nat.reduceLeDiff, Nat.reduceBEq, Nat.reduceBNe, Int.reduceLT, Int.reduceLE, Int.reduceEq, Int.reduceAdd, Int.reduceSub, Int.reduceNeg, reduceCtorEq]
      refine ⟨?_, ?_⟩
      · refine any_ok2 (N := 3000) (text_does (bs := x) (e := 5) rfl tyStr9 tySlice23 tyInt5 rfl (by simp only [dOk_some, dOk_none, Nat.reduceLT]) (fun G hG => hbx2.mono (hG.le Ga (by simp)))) (QOk_body _ _ _) rfl (by first | exact .inl rfl | exact .inr ⟨_, _, rfl, rfl⟩) (by intro _ hK; first | (obtain ⟨_, _, _, _, rfl⟩ := hK; exact ⟨rfl, fun _ h => h⟩) | (obtain ⟨_, _, rfl⟩ := hK; exact ⟨rfl, fun _ h => h⟩) | (obtain ⟨_, _, _, _, _, _, rfl⟩ := hK; exact ⟨rfl, fun _ h => List.mem_cons_of_mem _ h⟩) | (obtain ⟨_, _, _, _, _, _, _, rfl⟩ := hK; exact ⟨rfl, fun _ h => List.mem_cons_of_mem _ h⟩) | (obtain rfl := hK; exact ⟨rfl, fun _ h => h⟩)) ?_
        rintro _ rfl
        simp only [go_sem, Nat.reduceAdd, Nat.reduceSub, Nat.reduceMul, Nat.reduceEqDiff, Nat.reduceLT, Nat.reduceLeDiff, Nat.reduceBEq, Nat.reduceBNe, Int.reduceLT, Int.reduceLE, Int.reduceEq, Int.reduceAdd, Int.reduceSub, Int.reduceNeg, reduceCtorEq]
        refine any_ok2 (N := 3000) (text_does (bs := x) (e := 5) rfl tyStr9 tySlice23 tyInt5 rfl (by simp only [dOk_some, dOk_none, Nat.reduceLT]) (fun G hG => ByG.mono hbx (hG.le G7 (by simp)))) (QOk_body _ _ _) rfl (by first | exact .inl rfl | exact .inr ⟨_, _, rfl, rfl⟩) (by intro _ hK; first | (obtain ⟨_, _, _, _, rfl⟩ := hK; exact ⟨rfl, fun _ h => h⟩) | (obtain ⟨_, _, rfl⟩ := hK; exact ⟨rfl, fun _ h => h⟩) | (obtain ⟨_, _, _, _, _, _, rfl⟩ := hK; exact ⟨rfl, fun _ h => List.mem_cons_of_mem _ h⟩) | (obtain ⟨_, _, _, _, _, _, _, rfl⟩ := hK; exact ⟨rfl, fun _ h => List.mem_cons_of_mem _ h⟩) | (obtain rfl := hK; exact ⟨rfl, fun _ h => h⟩)) ?_
        rintro _ rfl
        simp only [go_sem, Nat.reduceAdd, Nat.reduceSub, Nat.reduceMul, Nat.reduceEqDiff, Nat.reduceLT, Nat.reduceLeDiff, Nat.reduceBEq, Nat.reduceBNe, Int.reduceLT, Int.reduceLE, Int.reduceEq, Int.reduceAdd, Int.reduceSub, Int.reduceNeg, reduceCtorEq]
        refine draw_ok (N := 3000) (.take 0 (.take 1 (.take 2 (.take 3 (.take 4 (.take 5 (.take 6 (.take 8 (.alt 7 (.alt 9 (.take 10 (.take 11 (.take 12 (.take 13 (.take 14 (.take 15 (.take 16 (.alt 17 (.alt 18 (.take 19 (.take 20 (.take 21 .done))) .last) .last)))))))) .last) (.alt 9 (.alt 7 (.take 10 (.take 11 (.take 12 (.take 13 (.take 14 (.take 15 (.take 16 (.alt 17 (.alt 18 (.take 19 (.take 20 (.take 21 .done))) .last) .last)))))))) .last) .last)))))))))) [] (QOk_body _ _ _) follows_mixed (by kernel_rfl) (by kernel_rfl) ?_
        simp only [go_sem, Nat.reduceAdd, Nat.reduceSub, Nat.reduceMul, Nat.reduceEqDiff, Nat.reduceLT, Nat.reduceLeDiff, Nat.reduceBEq, Nat.reduceBNe, Int.reduceLT, Int.reduceLE, Int.reduceEq, Int.reduceAdd, Int.reduceSub, Int.reduceNeg, reduceCtorEq, r7]
        refine take_elem 8 (m := 1) rfl tySlice29 tySize23 rfl rfl (by simp only [dOk_some, dOk_none, Nat.reduceLT]) rfl (by omega) ?_
        simp only [go_sem, Nat.reduceAdd, Nat.reduceSub, Nat.reduceMul, Nat.reduceEqDiff, Nat.reduceLT, Nat.reduceLeDiff, Nat.reduceBEq, Nat.reduceBNe, Int.reduceLT, Int.reduceLE, Int.reduceEq, Int.reduceAdd, Int.reduceSub, Int.reduceNeg, reduceCtorEq]
        refine ⟨?_, ?_⟩
        · refine any_ok2 (N := 3000) (text_does (bs := y) (e := 5) rfl tyStr9 tySlice23 tyInt5 rfl (by simp only [dOk_some, dOk_none, Nat.reduceLT]) (fun G hG => hby2.mono (hG.le Gc (by simp)))) (QOk_body _ _ _) rfl (by first | exact .inl rfl | exact .inr ⟨_, _, rfl, rfl⟩) (by intro _ hK; first | (obtain ⟨_, _, _, _, rfl⟩ := hK; exact ⟨rfl, fun _ h => h⟩) | (obtain ⟨_, _, rfl⟩ := hK; exact ⟨rfl, fun _ h => h⟩) | (obtain ⟨_, _, _, _, _, _, rfl⟩ := hK; exact ⟨rfl, fun _ h => List.mem_cons_of_mem _ h⟩) | (obtain ⟨_, _, _, _, _, _, _, rfl⟩ := hK; exact ⟨rfl, fun _ h => List.mem_cons_of_mem _ h⟩) | (obtain rfl := hK; exact ⟨rfl, fun _ h => h⟩)) ?_
          rintro _ rfl
          simp only [go_sem, Nat.reduceAdd, Nat.reduceSub, Nat.reduceMul, Nat.reduceEqDiff, Nat.reduceLT, Nat.reduceLeDiff, Nat.reduceBEq, Nat.reduceBNe, Int.reduceLT, Int.reduceLE, Int.reduceEq, Int.reduceAdd, Int.reduceSub, Int.reduceNeg, reduceCtorEq]
          refine any_ok2 (N := 3000) (text_does (bs := y) (e := 5) rfl tyStr9 tySlice23 tyInt5 rfl (by simp only [dOk_some, dOk_none, Nat.reduceLT]) (fun G hG => ByG.mono hby (hG.le G10 (by simp)))) (QOk_body _ _ _) rfl (by first | exact .inl rfl | exact .inr ⟨_, _, rfl, rfl⟩) (by intro _ hK; first | (obtain ⟨_, _, _, _, rfl⟩ := hK; exact ⟨rfl, fun _ h => h⟩) | (obtain ⟨_, _, rfl⟩ := hK; exact ⟨rfl, fun _ h => h⟩) | (obtain ⟨_, _, _, _, _, _, rfl⟩ := hK; exact ⟨rfl, fun _ h => List.mem_cons_of_mem _ h⟩) | (obtain ⟨_, _, _, _, _, _, _, rfl⟩ := hK; exact ⟨rfl, fun _ h => List.mem_cons_of_mem _ h⟩) | (obtain rfl := hK; exact ⟨rfl, fun _ h => h⟩)) ?_
          rintro _ rfl
          simp only [go_sem, Nat.reduceAdd, Nat.reduceSub, Nat.reduceMul, Nat.reduceEqDiff, Nat.reduceLT, Nat.reduceLeDiff, Nat.reduceBEq, Nat.reduceBNe, Int.reduceLT, Int.reduceLE, Int.reduceEq, Int.reduceAdd, Int.reduceSub, Int.reduceNeg, reduceCtorEq]
          refine any_undef (N := 3000) rfl rfl rfl rfl rfl (by simp only [dOk_some, dOk_none, Nat.reduceLT]) (by exact QOk_body _ _ _) ?_
          simp only [go_sem, Nat.reduceAdd, Nat.reduceSub, Nat.reduceMul, Nat.reduceEqDiff, Nat.reduceLT, Nat.reduceLeDiff, Nat.reduceBEq, Nat.reduceBNe, Int.reduceLT, Int.reduceLE, Int.reduceEq, Int.reduceAdd, Int.reduceSub, Int.reduceNeg, reduceCtorEq]
          refine any_undef (N := 3000) rfl rfl rfl rfl rfl (by simp only [dOk_some, dOk_none, Nat.reduceLT]) (by exact QOk_body _ _ _) ?_
          simp only [go_sem, Nat.reduceAdd, Nat.reduceSub, Nat.reduceMul, Nat.reduceEqDiff, Nat.reduceLT, Nat.reduceLeDiff, Nat.reduceBEq, Nat.reduceBNe, Int.reduceLT, Int.reduceLE, Int.reduceEq, Int.reduceAdd, Int.reduceSub, Int.reduceNeg, reduceCtorEq]
          refine fin_ret (G := ⟨Non, w⟩) Try.results20 ?_
          simp only [go_sem, Nat.reduceAdd, Nat.reduceSub, Nat.reduceMul, Nat.reduceEqDiff, Nat.reduceLT, Nat.reduceLeDiff, Nat.reduceBEq, Nat.reduceBNe, Int.reduceLT, Int.reduceLE, Int.reduceEq, Int.reduceAdd, Int.reduceSub, Int.reduceNeg, reduceCtorEq]
          intro aa w' _ _
          rfl
        · refine any_ok2 (N := 3000) (text_does (bs := y) (e := 5) rfl tyStr9 tySlice23 tyInt5 rfl (by simp only [dOk_some, dOk_none, Nat.reduceLT]) (fun G hG => ByG.mono hby (hG.le G10 (by simp)))) (QOk_body _ _ _) rfl (by first | exact .inl rfl | exact .inr ⟨_, _, rfl, rfl⟩) (by intro _ hK; first | (obtain ⟨_, _, _, _, rfl⟩ := hK; exact ⟨rfl, fun _ h => h⟩) | (obtain ⟨_, _, rfl⟩ := hK; exact ⟨rfl, fun _ h => h⟩) | (obtain ⟨_, _, _, _, _, _, rfl⟩ := hK; exact ⟨rfl, fun _ h => List.mem_cons_of_mem _ h⟩) | (obtain ⟨_, _, _, _, _, _, _, rfl⟩ := hK; exact ⟨rfl, fun _ h => List.mem_cons_of_mem _ h⟩) | (obtain rfl := hK; exact ⟨rfl, fun _ h => h⟩)) ?_
          rintro _ rfl
          simp only [go_sem, Nat.reduceAdd, Nat.reduceSub, Nat.reduceMul, Nat.reduceEqDiff, Nat.reduceLT, Nat.reduceLeDiff, Nat.reduceBEq, Nat.reduceBNe, Int.reduceLT, Int.reduceLE, Int.reduceEq, Int.reduceAdd, Int.reduceSub, Int.reduceNeg, reduceCtorEq]
          refine any_ok2 (N := 3000) (text_does (bs := y) (e := 5) rfl tyStr9 tySlice23 tyInt5 rfl (by simp only [dOk_some, dOk_none, Nat.reduceLT]) (fun G hG => hby2.mono (hG.le Gc (by simp)))) (QOk_body _ _ _) rfl (by first | exact .inl rfl | exact .inr ⟨_, _, rfl, rfl⟩) (by intro _ hK; first | (obtain ⟨_, _, _, _, rfl⟩ := hK; exact ⟨rfl, fun _ h => h⟩) | (obtain ⟨_, _, rfl⟩ := hK; exact ⟨rfl, fun _ h => h⟩) | (obtain ⟨_, _, _, _, _, _, rfl⟩ := hK; exact ⟨rfl, fun _ h => List.mem_cons_of_mem _ h⟩) | (obtain ⟨_, _, _, _, _, _, _, rfl⟩ := hK; exact ⟨rfl, fun _ h => List.mem_cons_of_mem _ h⟩) | (obtain rfl := hK; exact ⟨rfl, fun _ h => h⟩)) ?_
          rintro _ rfl
          simp only [go_sem, Nat.reduceAdd, Nat.reduceSub, Nat.reduceMul, Nat.reduceEqDiff, Nat.reduceLT, Nat.reduceLeDiff, Nat.reduceBEq, Nat.reduceBNe, Int.reduceLT, Int.reduceLE, Int.reduceEq, Int.reduceAdd, Int.reduceSub, Int.reduceNeg, reduceCtorEq]
          refine any_undef (N := 3000) rfl rfl rfl rfl rfl (by simp only [dOk_some, dOk_none, Nat.reduceLT]) (by exact QOk_body _ _ _) ?_
          simp only [go_sem, Nat.reduceAdd, Nat.reduceSub, Nat.reduceMul, Nat.reduceEqDiff, Nat.reduceLT, Nat.reduceLeDiff, Nat.reduceBEq, Nat.reduceBNe, Int.reduceLT, Int.reduceLE, Int.reduceEq, Int.reduceAdd, Int.reduceSub, Int.reduceNeg, reduceCtorEq]
          refine any_undef (N := 3000) rfl rfl rfl rfl rfl (by simp only [dOk_some, dOk_none, Nat.reduceLT]) (by exact QOk_body _ _ _) ?_
          simp only [go_sem, Nat.reduceAdd, Nat.reduceSub, Nat.reduceMul, Nat.reduceEqDiff, Nat.reduceLT, Nat.reduceLeDiff, Nat.reduceBEq, Nat.reduceBNe, Int.reduceLT, Int.reduceLE, Int.reduceEq, Int.reduceAdd, Int.reduceSub, Int.reduceNeg, reduceCtorEq]
          refine fin_ret (G := ⟨Non, w⟩) Try.results20 ?_
          simp only [go_sem, Nat.reduceAdd, Nat.reduceSub, Nat.reduceMul, Nat.reduceEqDiff, Nat.reduceLT, Nat.reduceLeDiff, Nat.reduceBEq, Nat.reduceBNe, Int.reduceLT, Int.reduceLE, Int.reduceEq, Int.reduceAdd, Int.reduceSub, Int.reduceNeg, reduceCtorEq]
          intro aa w' _ _
          rfl
      · refine any_ok2 (N := 3000) (text_does (bs := x) (e := 5) rfl tyStr9 tySlice23 tyInt5 rfl (by simp only [dOk_some, dOk_none, Nat.reduceLT]) (fun G hG => ByG.mono hbx (hG.le G7 (by simp)))) (QOk_body _ _ _) rfl (by first | exact .inl rfl | exact .inr ⟨_, _, rfl, rfl⟩) (by intro _ hK; first | (obtain ⟨_, _, _, _, rfl⟩ := hK; exact ⟨rfl, fun _ h => h⟩) | (obtain ⟨_, _, rfl⟩ := hK; exact ⟨rfl, fun _ h => h⟩) | (obtain ⟨_, _, _, _, _, _, rfl⟩ := hK; exact ⟨rfl, fun _ h => List.mem_cons_of_mem _ h⟩) | (obtain ⟨_, _, _, _, _, _, _, rfl⟩ := hK; exact ⟨rfl, fun _ h => List.mem_cons_of_mem _ h⟩) | (obtain rfl := hK; exact ⟨rfl, fun _ h => h⟩)) ?_
        rintro _ rfl
        simp only [go_sem, Nat.reduceAdd, Nat.reduceSub, Nat.reduceMul, Nat.reduceEqDiff, Nat.reduceLT, Nat.reduceLeDiff, Nat.reduceBEq, Nat.reduceBNe, Int.reduceLT, Int.reduceLE, Int.reduceEq, Int.reduceAdd, Int.reduceSub, Int.reduceNeg, reduceCtorEq]
        refine any_ok2 (N := 3000) (text_does (bs := x) (e := 5) rfl tyStr9 tySlice23 tyInt5 rfl (by simp only [dOk_some, dOk_none, Nat.reduceLT]) (fun G hG => hbx2.mono (hG.le Ga (by simp)))) (QOk_body _ _ _) rfl (by first | exact .inl rfl | exact .inr ⟨_, _, rfl, rfl⟩) (by intro _ hK; first | (obtain ⟨_, _, _, _, rfl⟩ := hK; exact ⟨rfl, fun _ h => h⟩) | (obtain ⟨_, _, rfl⟩ := hK; exact ⟨rfl, fun _ h => h⟩) | (obtain ⟨_, _, _, _, _, _, rfl⟩ := hK; exact ⟨rfl, fun _ h => List.mem_cons_of_mem _ h⟩) | (obtain ⟨_, _, _, _, _, _, _, rfl⟩ := hK; exact ⟨rfl, fun _ h => List.mem_cons_of_mem _ h⟩) | (obtain rfl := hK; exact ⟨rfl, fun _ h => h⟩)) ?_
        rintro _ rfl
        simp only [go_sem, Nat.reduceAdd, Nat.reduceSub, Nat.reduceMul, Nat.reduceEqDiff, Nat.reduceLT, Nat.reduceLeDiff, Nat.reduceBEq, Nat.reduceBNe, Int.reduceLT, Int.reduceLE, Int.reduceEq, Int.reduceAdd, Int.reduceSub, Int.reduceNeg, reduceCtorEq]
        refine draw_ok (N := 3000) (.take 0 (.take 1 (.take 2 (.take 3 (.take 4 (.take 5 (.take 6 (.take 8 (.alt 7 (.alt 9 (.take 10 (.take 11 (.take 12 (.take 13 (.take 14 (.take 15 (.take 16 (.alt 17 (.alt 18 (.take 19 (.take 20 (.take 21 .done))) .last) .last)))))))) .last) (.alt 9 (.alt 7 (.take 10 (.take 11 (.take 12 (.take 13 (.take 14 (.take 15 (.take 16 (.alt 17 (.alt 18 (.take 19 (.take 20 (.take 21 .done))) .last) .last)))))))) .last) .last)))))))))) [] (QOk_body _ _ _) follows_mixed (by kernel_rfl) (by kernel_rfl) ?_
        simp only [go_sem, Nat.reduceAdd, Nat.reduceSub, Nat.reduceMul, Nat.reduceEqDiff, Nat.reduceLT, Nat.reduceLeDiff, Nat.reduceBEq, Nat.reduceBNe, Int.reduceLT, Int.reduceLE, Int.reduceEq, Int.reduceAdd, Int.reduceSub, Int.reduceNeg, reduceCtorEq, r7]
        refine take_elem 8 (m := 1) rfl tySlice29 tySize23 rfl rfl (by simp only [dOk_some, dOk_none, Nat.reduceLT]) rfl (by omega) ?_
        simp only [go_sem, Nat.reduceAdd, Nat.reduceSub, Nat.reduceMul, Nat.reduceEqDiff, Nat.reduceLT, Nat.reduceLeDiff, Nat.reduceBEq, Nat.reduceBNe, Int.reduceLT, Int.reduceLE, Int.reduceEq, Int.reduceAdd, Int.reduceSub, Int.reduceNeg, reduceCtorEq]
        refine ⟨?_, ?_⟩
        · refine any_ok2 (N := 3000) (text_does (bs := y) (e := 5) rfl tyStr9 tySlice23 tyInt5 rfl (by simp only [dOk_some, dOk_none, Nat.reduceLT]) (fun G hG => hby2.mono (hG.le Gc (by simp)))) (QOk_body _ _ _) rfl (by first | exact .inl rfl | exact .inr ⟨_, _, rfl, rfl⟩) (by intro _ hK; first | (obtain ⟨_, _, _, _, rfl⟩ := hK; exact ⟨rfl, fun _ h => h⟩) | (obtain ⟨_, _, rfl⟩ := hK; exact ⟨rfl, fun _ h => h⟩) | (obtain ⟨_, _, _, _, _, _, rfl⟩ := hK; exact ⟨rfl, fun _ h => List.mem_cons_of_mem _ h⟩) | (obtain ⟨_, _, _, _, _, _, _, rfl⟩ := hK; exact ⟨rfl, fun _ h => List.mem_cons_of_mem _ h⟩) | (obtain rfl := hK; exact ⟨rfl, fun _ h => h⟩)) ?_
          rintro _ rfl
          simp only [go_sem, Nat.reduceAdd, Nat.reduceSub, Nat.reduceMul, Nat.reduceEqDiff, Nat.reduceLT, Nat.reduceLeDiff, Nat.reduceBEq, Nat.reduceBNe, Int.reduceLT, Int.reduceLE, Int.reduceEq, Int.reduceAdd, Int.reduceSub, Int.reduceNeg, reduceCtorEq]
          refine any_ok2 (N := 3000) (text_does (bs := y) (e := 5) rfl tyStr9 tySlice23 tyInt5 rfl (by simp only [dOk_some, dOk_none, Nat.reduceLT]) (fun G hG => ByG.mono hby (hG.le G10 (by simp)))) (QOk_body _ _ _) rfl (by first | exact .inl rfl | exact .inr ⟨_, _, rfl, rfl⟩) (by intro _ hK; first | (obtain ⟨_, _, _, _, rfl⟩ := hK; exact ⟨rfl, fun _ h => h⟩) | (obtain ⟨_, _, rfl⟩ := hK; exact ⟨rfl, fun _ h => h⟩) | (obtain ⟨_, _, _, _, _, _, rfl⟩ := hK; exact ⟨rfl, fun _ h => List.mem_cons_of_mem _ h⟩) | (obtain ⟨_, _, _, _, _, _, _, rfl⟩ := hK; exact ⟨rfl, fun _ h => List.mem_cons_of_mem _ h⟩) | (obtain rfl := hK; exact ⟨rfl, fun _ h => h⟩)) ?_
          rintro _ rfl
          simp only [go_sem, Nat.reduceAdd, Nat.reduceSub, Nat.reduceMul, Nat.reduceEqDiff, Nat.reduceLT, Nat.reduceLeDiff, Nat.reduceBEq, Nat.reduceBNe, Int.reduceLT, Int.reduceLE, Int.reduceEq, Int.reduceAdd, Int.reduceSub, Int.reduceNeg, reduceCtorEq]
          refine any_undef (N := 3000) rfl rfl rfl rfl rfl (by simp only [dOk_some, dOk_none, Nat.reduceLT]) (by exact QOk_body _ _ _) ?_
          simp only [go_sem, Nat.reduceAdd, Nat.reduceSub, Nat.reduceMul, Nat.reduceEqDiff, Nat.reduceLT, Nat.reduceLeDiff, Nat.reduceBEq, Nat.reduceBNe, Int.reduceLT, Int.reduceLE, Int.reduceEq, Int.reduceAdd, Int.reduceSub, Int.reduceNeg, reduceCtorEq]
          refine any_undef (N := 3000) rfl rfl rfl rfl rfl (by simp only [dOk_some, dOk_none, Nat.reduceLT]) (by exact QOk_body _ _ _) ?_
          simp only [go_sem, Nat.reduceAdd, Nat.reduceSub, Nat.reduceMul, Nat.reduceEqDiff, Nat.reduceLT, Nat.reduceLeDiff, Nat.reduceBEq, Nat.reduceBNe, Int.reduceLT, Int.reduceLE, Int.reduceEq, Int.reduceAdd, Int.reduceSub, Int.reduceNeg, reduceCtorEq]
          refine fin_ret (G := ⟨Non, w⟩) Try.results20 ?_
          simp only [go_sem, Nat.reduceAdd, Nat.reduceSub, Nat.reduceMul, Nat.reduceEqDiff, Nat.reduceLT, Nat.reduceLeDiff, Nat.reduceBEq, Nat.reduceBNe, Int.reduceLT, Int.reduceLE, Int.reduceEq, Int.reduceAdd, Int.reduceSub, Int.reduceNeg, reduceCtorEq]
          intro aa w' _ _
          rfl
        · refine any_ok2 (N := 3000) (text_does (bs := y) (e := 5) rfl tyStr9 tySlice23 tyInt5 rfl (by simp only [dOk_some, dOk_none, Nat.reduceLT]) (fun G hG => ByG.mono hby (hG.le G10 (by simp)))) (QOk_body _ _ _) rfl (by first | exact .inl rfl | exact .inr ⟨_, _, rfl, rfl⟩) (by intro _ hK; first | (obtain ⟨_, _, _, _, rfl⟩ := hK; exact ⟨rfl, fun _ h => h⟩) | (obtain ⟨_, _, rfl⟩ := hK; exact ⟨rfl, fun _ h => h⟩) | (obtain ⟨_, _, _, _, _, _, rfl⟩ := hK; exact ⟨rfl, fun _ h => List.mem_cons_of_mem _ h⟩) | (obtain ⟨_, _, _, _, _, _, _, rfl⟩ := hK; exact ⟨rfl, fun _ h => List.mem_cons_of_mem _ h⟩) | (obtain rfl := hK; exact ⟨rfl, fun _ h => h⟩)) ?_
          rintro _ rfl
          simp only [go_sem, Nat.reduceAdd, Nat.reduceSub, Nat.reduceMul, Nat.reduceEqDiff, Nat.reduceLT, Nat.reduceLeDiff, Nat.reduceBEq, Nat.reduceBNe, Int.reduceLT, Int.reduceLE, Int.reduceEq, Int.reduceAdd, Int.reduceSub, Int.reduceNeg, reduceCtorEq]
          refine any_ok2 (N := 3000) (text_does (bs := y) (e := 5) rfl tyStr9 tySlice23 tyInt5 rfl (by simp only [dOk_some, dOk_none, Nat.reduceLT]) (fun G hG => hby2.mono (hG.le Gc (by simp)))) (QOk_body _ _ _) rfl (by first | exact .inl rfl | exact .inr ⟨_, _, rfl, rfl⟩) (by intro _ hK; first | (obtain ⟨_, _, _, _, rfl⟩ := hK; exact ⟨rfl, fun _ h => h⟩) | (obtain ⟨_, _, rfl⟩ := hK; exact ⟨rfl, fun _ h => h⟩) | (obtain ⟨_, _, _, _, _, _, rfl⟩ := hK; exact ⟨rfl, fun _ h => List.mem_cons_of_mem _ h⟩) | (obtain ⟨_, _, _, _, _, _, _, rfl⟩ := hK; exact ⟨rfl, fun _ h => List.mem_cons_of_mem _ h⟩) | (obtain rfl := hK; exact ⟨rfl, fun _ h => h⟩)) ?_
          rintro _ rfl
          simp only [go_sem, Nat.reduceAdd, Nat.reduceSub, Nat.reduceMul, Nat.reduceEqDiff, Nat.reduceLT, Nat.reduceLeDiff, Nat.reduceBEq, Nat.reduceBNe, Int.reduceLT, Int.reduceLE, Int.reduceEq, Int.reduceAdd, Int.reduceSub, Int.reduceNeg, reduceCtorEq]
          refine any_undef (N := 3000) rfl rfl rfl rfl rfl (by simp only [dOk_some, dOk_none, Nat.reduceLT]) (by exact QOk_body _ _ _) ?_
          simp only [go_sem, Nat.reduceAdd, Nat.reduceSub, Nat.reduceMul, Nat.reduceEqDiff, Nat.reduceLT, Nat.reduceLeDiff, Nat.reduceBEq, Nat.reduceBNe, Int.reduceLT, Int.reduceLE, Int.reduceEq, Int.reduceAdd, Int.reduceSub, Int.reduceNeg, reduceCtorEq]
          refine any_undef (N := 3000) rfl rfl rfl rfl rfl (by simp only [dOk_some, dOk_none, Nat.reduceLT]) (by exact QOk_body _ _ _) ?_
          simp only [go_sem, Nat.reduceAdd, Nat.reduceSub, Nat.reduceMul, Nat.reduceEqDiff, Nat.reduceLT, Nat.reduceLeDiff, Nat.reduceBEq, Nat.reduceBNe, Int.reduceLT, Int.reduceLE, Int.reduceEq, Int.reduceAdd, Int.reduceSub, Int.reduceNeg, reduceCtorEq]
          refine fin_ret (G := ⟨Non, w⟩) Try.results20 ?_
          simp only [go_sem, Nat.reduceAdd, Nat.reduceSub, Nat.reduceMul, Nat.reduceEqDiff, Nat.reduceLT, Nat.reduceLeDiff, Nat.reduceBEq, Nat.reduceBNe, Int.reduceLT, Int.reduceLE, Int.reduceEq, Int.reduceAdd, Int.reduceSub, Int.reduceNeg, reduceCtorEq]
          intro aa w' _ _
          rfl
  · have hx0 : ([x] : List (List UInt8))[0]? = some x := rfl
    have r9 : decide (((1 : Nat) : Int) < 1) = false := rfl
    have r8 : decide (2 < ((1 : Nat) : Int)) = false := rfl
    have r7 : decide (((1 : Nat) : Int) = 2) = false := rfl
    have r6 : decide (((1 : Nat) : Int) = 1) = true := rfl
    simp only [go_sem, Nat.reduceAdd, Nat.reduceSub, Nat.reduceMul, Nat.reduceEqDiff, Nat.reduceLT, Nat.reduceLeDiff, Nat.reduceBEq, Nat.reduceBNe, Int.reduceLT, Int.reduceLE, Int.reduceEq, Int.reduceAdd, Int.reduceSub, Int.reduceNeg, reduceCtorEq, jrV]
    intro g4 g5
    refine plain_ok (N := 3000) (call_does (fun u G => ∃ dv A c A2 c2, u = .tuple #[dv, jrV (upJ j1), .slice A 0 c, .slice A2 1 c2, .bool true] ∧ DevG G dv (backX d3 keep j1) ∧ SafG G (.slice A2 1 c2) [x]) rfl rfl (by kernel_rfl) rfl (by simp only [dOk_some, dOk_none, Nat.reduceLT]) (fun G hG => ret_mono (opened_does (keep := keep) hg hgy hkB hsB (by omega) (by omega) hG.wf (tidL hG (by simp) (by simp; decide)) (hd3.mono (hG.le G14 (by simp))) (ScR.mono h4 boolG_mono (hG.le ⟨Non, w⟩ (by simp)))) fun u G' _ h => by obtain ⟨dv, A, c, A2, c2, e, h1, _, h3⟩ := h; exact ⟨dv, A, c, A2, c2, e, h1, h3⟩)) (QOk_body _ _ _) (by first | exact .inl rfl | exact .inr ⟨_, _, rfl, rfl⟩) ?_
    rintro _ ⟨_, G15, ⟨dv, Ao, co, Aa, ca, rfl, hd7, hal⟩, hn15, rfl⟩
    clear hn15
    obtain ⟨L1, s1, L2, s2, L3, s3, rfl, hfo⟩ := hd7.form
    clear hfo
    simp only [go_sem, Nat.reduceAdd, Nat.reduceSub, Nat.reduceMul, Nat.reduceEqDiff, Nat.reduceLT, Nat.reduceLeDiff, Nat.reduceBEq, Nat.reduceBNe, Int.reduceLT, Int.reduceLE, Int.reduceEq, Int.reduceAdd, Int.reduceSub, Int.reduceNeg, reduceCtorEq, jrV, upJ]
    intro g6 g7
    refine preview_ok (R := RowG) (kc := 1) hx0 (fun G hG => (Sq.mono hal rowG_mono (hG G15 (by simp))).sc) fun ga oa csa Ga hA _ hca hlea => ?_
    subst hA
    clear hlea
    obtain ⟨Abb, cbb, rfl, hbx2⟩ := rowcell hca
    simp only [go_sem, Nat.reduceAdd, Nat.reduceSub, Nat.reduceMul, Nat.reduceEqDiff, Nat.reduceLT, Nat.reduceLeDiff, Nat.reduceBEq, Nat.reduceBNe, Int.reduceLT, Int.reduceLE, Int.reduceEq, Int.reduceAdd, Int.reduceSub, Int.reduceNeg, reduceCtorEq]
    refine draw_ok (N := 3000) (.take 0 (.take 1 (.take 2 (.take 3 (.take 4 (.take 5 (.take 6 (.take 7 (.take 8 (.take 9 (.take 10 (.take 11 (.take 13 (.alt 12 (.alt 14 (.take 15 (.take 16 .done)) .last) (.alt 14 (.alt 12 (.take 15 (.take 16 .done)) .last) .last))))))))))))))) [] (QOk_body _ _ _) follows_mixed (by kernel_rfl) (by kernel_rfl) ?_
    simp only [go_sem, Nat.reduceAdd, Nat.reduceSub, Nat.reduceMul, Nat.reduceEqDiff, Nat.reduceLT, Nat.reduceLeDiff, Nat.reduceBEq, Nat.reduceBNe, Int.reduceLT, Int.reduceLE, Int.reduceEq, Int.reduceAdd, Int.reduceSub, Int.reduceNeg, reduceCtorEq, r9, r8]
    refine take_elem 7 (m := 0) rfl tySlice29 tySize23 rfl rfl (by simp only [dOk_some, dOk_none, Nat.reduceLT]) rfl (by omega) ?_
    simp only [go_sem, Nat.reduceAdd, Nat.reduceSub, Nat.reduceMul, Nat.reduceEqDiff, Nat.reduceLT, Nat.reduceLeDiff, Nat.reduceBEq, Nat.reduceBNe, Int.reduceLT, Int.reduceLE, Int.reduceEq, Int.reduceAdd, Int.reduceSub, Int.reduceNeg, reduceCtorEq]
    refine ⟨?_, ?_⟩
    · refine any_ok2 (N := 3000) (text_does (bs := x) (e := 5) rfl tyStr9 tySlice23 tyInt5 rfl (by simp only [dOk_some, dOk_none, Nat.reduceLT]) (fun G hG => hbx2.mono (hG.le Ga (by simp)))) (QOk_body _ _ _) rfl (by first | exact .inl rfl | exact .inr ⟨_, _, rfl, rfl⟩) (by intro _ hK; first | (obtain ⟨_, _, _, _, rfl⟩ := hK; exact ⟨rfl, fun _ h => h⟩) | (obtain ⟨_, _, rfl⟩ := hK; exact ⟨rfl, fun _ h => h⟩) | (obtain ⟨_, _, _, _, _, _, rfl⟩ := hK; exact ⟨rfl, fun _ h => List.mem_cons_of_mem _ h⟩) | (obtain ⟨_, _, _, _, _, _, _, rfl⟩ := hK; exact ⟨rfl, fun _ h => List.mem_cons_of_mem _ h⟩) | (obtain rfl := hK; exact ⟨rfl, fun _ h => h⟩)) ?_
      rintro _ rfl
      simp only [go_sem, Nat.reduceAdd, Nat.reduceSub, Nat.reduceMul, Nat.reduceEqDiff, Nat.reduceLT, Nat.reduceLeDiff, Nat.reduceBEq, Nat.reduceBNe, Int.reduceLT, Int.reduceLE, Int.reduceEq, Int.reduceAdd, Int.reduceSub, Int.reduceNeg, reduceCtorEq]
      refine any_ok2 (N := 3000) (text_does (bs := x) (e := 5) rfl tyStr9 tySlice23 tyInt5 rfl (by simp only [dOk_some, dOk_none, Nat.reduceLT]) (fun G hG => ByG.mono hbx (hG.le G7 (by simp)))) (QOk_body _ _ _) rfl (by first | exact .inl rfl | exact .inr ⟨_, _, rfl, rfl⟩) (by intro _ hK; first | (obtain ⟨_, _, _, _, rfl⟩ := hK; exact ⟨rfl, fun _ h => h⟩) | (obtain ⟨_, _, rfl⟩ := hK; exact ⟨rfl, fun _ h => h⟩) | (obtain ⟨_, _, _, _, _, _, rfl⟩ := hK; exact ⟨rfl, fun _ h => List.mem_cons_of_mem _ h⟩) | (obtain ⟨_, _, _, _, _, _, _, rfl⟩ := hK; exact ⟨rfl, fun _ h => List.mem_cons_of_mem _ h⟩) | (obtain rfl := hK; exact ⟨rfl, fun _ h => h⟩)) ?_
      rintro _ rfl
      simp only [go_sem, Nat.reduceAdd, Nat.reduceSub, Nat.reduceMul, Nat.reduceEqDiff, Nat.reduceLT, Nat.reduceLeDiff, Nat.reduceBEq, Nat.reduceBNe, Int.reduceLT, Int.reduceLE, Int.reduceEq, Int.reduceAdd, Int.reduceSub, Int.reduceNeg, reduceCtorEq]
      refine draw_ok (N := 3000) (.take 0 (.take 1 (.take 2 (.take 3 (.take 4 (.take 5 (.take 6 (.take 8 (.alt 7 (.alt 9 (.take 10 (.take 11 (.take 12 (.take 13 (.take 14 (.take 15 (.take 16 (.alt 17 (.alt 18 (.take 19 (.take 20 (.take 21 .done))) .last) .last)))))))) .last) (.alt 9 (.alt 7 (.take 10 (.take 11 (.take 12 (.take 13 (.take 14 (.take 15 (.take 16 (.alt 17 (.alt 18 (.take 19 (.take 20 (.take 21 .done))) .last) .last)))))))) .last) .last)))))))))) [] (QOk_body _ _ _) follows_mixed (by kernel_rfl) (by kernel_rfl) ?_
      simp only [go_sem, Nat.reduceAdd, Nat.reduceSub, Nat.reduceMul, Nat.reduceEqDiff, Nat.reduceLT, Nat.reduceLeDiff, Nat.reduceBEq, Nat.reduceBNe, Int.reduceLT, Int.reduceLE, Int.reduceEq, Int.reduceAdd, Int.reduceSub, Int.reduceNeg, reduceCtorEq, r7, r6]
      refine ⟨?_, ?_⟩
      · refine fin_ret (G := ⟨Non, w⟩) Try.results20 ?_
        simp only [go_sem, Nat.reduceAdd, Nat.reduceSub, Nat.reduceMul, Nat.reduceEqDiff, Nat.reduceLT, Nat.reduceLeDiff, Nat.reduceBEq, Nat.reduceBNe, Int.reduceLT, Int.reduceLE, Int.reduceEq, Int.reduceAdd, Int.reduceSub, Int.reduceNeg, reduceCtorEq]
        intro aa w' _ _
        rfl
      · refine fin_ret (G := ⟨Non, w⟩) Try.results20 ?_
        simp only [go_sem, Nat.reduceAdd, Nat.reduceSub, Nat.reduceMul, Nat.reduceEqDiff, Nat.reduceLT, Nat.reduceLeDiff, Nat.reduceBEq, Nat.reduceBNe, Int.reduceLT, Int.reduceLE, Int.reduceEq, Int.reduceAdd, Int.reduceSub, Int.reduceNeg, reduceCtorEq]
        intro aa w' _ _
        rfl
    · refine any_ok2 (N := 3000) (text_does (bs := x) (e := 5) rfl tyStr9 tySlice23 tyInt5 rfl (by simp only [dOk_some, dOk_none, Nat.reduceLT]) (fun G hG => ByG.mono hbx (hG.le G7 (by simp)))) (QOk_body _ _ _) rfl (by first | exact .inl rfl | exact .inr ⟨_, _, rfl, rfl⟩) (by intro _ hK; first | (obtain ⟨_, _, _, _, rfl⟩ := hK; exact ⟨rfl, fun _ h => h⟩) | (obtain ⟨_, _, rfl⟩ := hK; exact ⟨rfl, fun _ h => h⟩) | (obtain ⟨_, _, _, _, _, _, rfl⟩ := hK; exact ⟨rfl, fun _ h => List.mem_cons_of_mem _ h⟩) | (obtain ⟨_, _, _, _, _, _, _, rfl⟩ := hK; exact ⟨rfl, fun _ h => List.mem_cons_of_mem _ h⟩) | (obtain rfl := hK; exact ⟨rfl, fun _ h => h⟩)) ?_
      rintro _ rfl
      simp only [go_sem, Nat.reduceAdd, Nat.reduceSub, Nat.reduceMul, Nat.reduceEqDiff, Nat.reduceLT, Nat.reduceLeDiff, Nat.reduceBEq, Nat.reduceBNe, Int.reduceLT, Int.reduceLE, Int.reduceEq, Int.reduceAdd, Int.reduceSub, Int.reduceNeg, reduceCtorEq]
      refine any_ok2 (N := 3000) (text_does (bs := x) (e := 5) rfl tyStr9 tySlice23 tyInt5 rfl (by simp only [dOk_some, dOk_none, Nat.reduceLT]) (fun G hG => hbx2.mono (hG.le Ga (by simp)))) (QOk_body _ _ _) rfl (by first | exact .inl rfl | exact .inr ⟨_, _, rfl, rfl⟩) (by intro _ hK; first | (obtain ⟨_, _, _, _, rfl⟩ := hK; exact ⟨rfl, fun _ h => h⟩) | (obtain ⟨_, _, rfl⟩ := hK; exact ⟨rfl, fun _ h => h⟩) | (obtain ⟨_, _, _, _, _, _, rfl⟩ := hK; exact ⟨rfl, fun _ h => List.mem_cons_of_mem _ h⟩) | (obtain ⟨_, _, _, _, _, _, _, rfl⟩ := hK; exact ⟨rfl, fun _ h => List.mem_cons_of_mem _ h⟩) | (obtain rfl := hK; exact ⟨rfl, fun _ h => h⟩)) ?_
      rintro _ rfl
      simp only [go_sem, Nat.reduceAdd, Nat.reduceSub, Nat.reduceMul, Nat.reduceEqDiff, Nat.reduceLT, Nat.reduceLeDiff, Nat.reduceBEq, Nat.reduceBNe, Int.reduceLT, Int.reduceLE, Int.reduceEq, Int.reduceAdd, Int.reduceSub, Int.reduceNeg, reduceCtorEq]
      refine draw_ok (N := 3000) (.take 0 (.take 1 (.take 2 (.take 3 (.take 4 (.take 5 (.take 6 (.take 8 (.alt 7 (.alt 9 (.take 10 (.take 11 (.take 12 (.take 13 (.take 14 (.take 15 (.take 16 (.alt 17 (.alt 18 (.take 19 (.take 20 (.take 21 .done))) .last) .last)))))))) .last) (.alt 9 (.alt 7 (.take 10 (.take 11 (.take 12 (.take 13 (.take 14 (.take 15 (.take 16 (.alt 17 (.alt 18 (.take 19 (.take 20 (.take 21 .done))) .last) .last)))))))) .last) .last)))))))))) [] (QOk_body _ _ _) follows_mixed (by kernel_rfl) (by kernel_rfl) ?_
      simp only [go_sem, Nat.reduceAdd, Nat.reduceSub, Nat.reduceMul, Nat.reduceEqDiff, Nat.reduceLT, Nat.reduceLeDiff, Nat.reduceBEq, Nat.reduceBNe, Int.reduceLT, Int.reduceLE, Int.reduceEq, Int.reduceAdd, Int.reduceSub, Int.reduceNeg, reduceCtorEq, r7, r6]
      refine ⟨?_, ?_⟩
      · refine fin_ret (G := ⟨Non, w⟩) Try.results20 ?_
        simp only [go_sem, Nat.reduceAdd, Nat.reduceSub, Nat.reduceMul, Nat.reduceEqDiff, Nat.reduceLT, Nat.reduceLeDiff, Nat.reduceBEq, Nat.reduceBNe, Int.reduceLT, Int.reduceLE, Int.reduceEq, Int.reduceAdd, Int.reduceSub, Int.reduceNeg, reduceCtorEq]
        intro aa w' _ _
        rfl
      · refine fin_ret (G := ⟨Non, w⟩) Try.results20 ?_
        simp only [go_sem, Nat.reduceAdd, Nat.reduceSub, Nat.reduceMul, Nat.reduceEqDiff, Nat.reduceLT, Nat.reduceLeDiff, Nat.reduceBEq, Nat.reduceBNe, Int.reduceLT, Int.reduceLE, Int.reduceEq, Int.reduceAdd, Int.reduceSub, Int.reduceNeg, reduceCtorEq]
        intro aa w' _ _
        rfl
theorem commitDies_walk {w : World} (a0 : Int) (w0 : (Lit.int .i64 a0).wf = true) (s : ByteArray) (hs : s.size ≤ 1048576) (t : ByteArray) (ht : t.size ≤ 1048576) (a3 : Int) (w3 : (Lit.int .i64 a3).wf = true) (v4 : Value) (keep : List Bool) (h4 : BoolsG ⟨Non, w⟩ v4 keep) :
    Calls Try.prog 20 #[.int .i64 a0, .string s, .string t, .int .i64 a3, v4] w fun e w' => e = .returned (.bool true) ∧ Below w.heap.size w w' :=
  (commitDies_ret a0 w0 s (by unfold maxLen; omega) t (by unfold maxLen; omega) a3 w3 v4 keep h4).mono fun e w' ⟨v, he, hv, hc⟩ => ⟨by rw [he, hv], hc.below⟩
end Go.Proofs.Ytomfladifefomaa
