/- 'icehousekeep.SaveFound' returns true for every int, two slices of raw things, text and slice of booleans. Conditions: none. -/
import Derived.Test.YtomfladifefomaaR8
import Derived.Test.YtomfladifefomaaU19
namespace Go.Proofs.Ytomfladifefomaa
open Go.RowKit
set_option linter.unusedSimpArgs false
set_option maxRecDepth 100000 in
set_option maxHeartbeats 32000000 in
theorem saveFound_ret {w : World} (a0 : Int) (w0 : (Lit.int .i64 a0).wf = true) (v1 : Value) (l1 : List Raw) (h1 : RawsG ⟨Non, w⟩ v1 l1) (s : ByteArray) (hs : s.size ≤ maxLen) (v3 : Value) (l3 : List Raw) (h3 : RawsG ⟨Non, w⟩ v3 l3) (v4 : Value) (keep : List Bool) (h4 : BoolsG ⟨Non, w⟩ v4 keep) :
    Calls Try.prog 22 #[.int .i64 a0, v1, .string s, v3, v4] w (Ret ⟨Non, w⟩ fun v _ => v = .bool true) := by
  obtain ⟨A', c', rfl, _, _⟩ := ScR.form h1
  obtain ⟨Ah, ch, rfl, _, _⟩ := ScR.form h3
  obtain ⟨A'', c'', rfl, _, _⟩ := ScR.form h4
  have i0 : i64 a0 := i64_bd w0
  have har : 30 ≤ (geoK a0 a0 a0).area := by
    show (30 : Int) ≤ 30 + pick a0 40
    have := pick_bd a0 40 (by omega)
    omega
  refine enter (G := ⟨Non, w⟩) (n := 154) 3000 (wf_nonL w) Try.func22 rfl Try.ntmps22 (by simp) ?_
  simp only [go_sem, Nat.reduceAdd, Nat.reduceSub, Nat.reduceMul, Nat.reduceEqDiff, Nat.reduceLT, Nat.reduceLeDiff, Nat.reduceBEq, Nat.reduceBNe, Int.reduceLT, Int.reduceLE, Int.reduceEq, Int.reduceAdd, Int.reduceSub, Int.reduceNeg, reduceCtorEq]
  refine plain_ok (N := 3000) (call_does (fun v _ => v = .agg #[.int .i64 (geoK a0 a0 a0).ring, .int .i64 (geoK a0 a0 a0).area, .int .i64 (geoK a0 a0 a0).hot, .int .i64 (geoK a0 a0 a0).volume, .int .i64 (geoK a0 a0 a0).volumes]) rfl rfl (by kernel_rfl) rfl (by simp only [dOk_some, dOk_none, Nat.reduceLT]) (fun G hG => geometry_does i0 i0 i0 hG.wf)) (QOk_body _ _ _) (by first | exact .inl rfl | exact .inr ⟨_, _, rfl, rfl⟩) ?_
  rintro _ ⟨_, G1, rfl, hn1, rfl⟩
  clear hn1
  have hg := geoK_good a0 a0 a0
  generalize geoK a0 a0 a0 = g at hg har
  simp only [go_sem, Nat.reduceAdd, Nat.reduceSub, Nat.reduceMul, Nat.reduceEqDiff, Nat.reduceLT, Nat.reduceLeDiff, Nat.reduceBEq, Nat.reduceBNe, Int.reduceLT, Int.reduceLE, Int.reduceEq, Int.reduceAdd, Int.reduceSub, Int.reduceNeg, reduceCtorEq]
  intro g1
  refine plain_ok (N := 3000) (call_does (fun v G => ∃ dv, v = .tuple #[dv, jrV firstJ, .bool true] ∧ DevG G dv (fmtDev g)) rfl rfl (by kernel_rfl) rfl (by simp only [dOk_some, dOk_none, Nat.reduceLT]) (fun G hG => formatted_does hg hG.wf (tidL hG (by simp) (by simp; decide)))) (QOk_body _ _ _) (by first | exact .inl rfl | exact .inr ⟨_, _, rfl, rfl⟩) ?_
  rintro _ ⟨_, G2, ⟨dv, rfl, hd0⟩, hn2, rfl⟩
  clear hn2
  obtain ⟨hg0, hf0, hc0⟩ := fmtDev_good hg
  have hk0 := fmt_kept hg
  generalize fmtDev g = d0 at hd0 hg0 hf0 hc0 hk0
  obtain ⟨A1, k1, A2, k2, A3, k3, rfl, hfo⟩ := hd0.form
  clear hfo
  have hju : firstJ.gen = 1 ∧ firstJ.epoch = 1 := ⟨rfl, rfl⟩
  have hjv : jrV firstJ = .agg #[.int .i64 firstJ.gen, .int .i64 firstJ.epoch, .int .i64 firstJ.area, .int .i64 firstJ.length, .int .i64 firstJ.start, .int .i64 firstJ.first, .int .i64 firstJ.place, .int .i64 firstJ.next, .int .i64 firstJ.used] := rfl
  rw [hjv]
  clear hjv
  generalize firstJ = j0 at hk0 hju
  simp only [go_sem, Nat.reduceAdd, Nat.reduceSub, Nat.reduceMul, Nat.reduceEqDiff, Nat.reduceLT, Nat.reduceLeDiff, Nat.reduceBEq, Nat.reduceBNe, Int.reduceLT, Int.reduceLE, Int.reduceEq, Int.reduceAdd, Int.reduceSub, Int.reduceNeg, reduceCtorEq]
  intro g2 g3
  refine plain_ok (N := 3000) (call_does (fun v G => ∃ A c, v = .slice A ((l1.take 3).map textOf).length c ∧ Sq StrG 9 1 G (.slice A ((l1.take 3).map textOf).length c) ((l1.take 3).map textOf)) rfl rfl (by kernel_rfl) rfl (by simp only [dOk_some, dOk_none, Nat.reduceLT]) (fun G hG => texts_does (most := 3) (by omega) hG.wf (ScR.mono h1 rawG_mono (hG.le ⟨Non, w⟩ (by simp))))) (QOk_body _ _ _) (by first | exact .inl rfl | exact .inr ⟨_, _, rfl, rfl⟩) ?_
  rintro _ ⟨_, G3, ⟨At, ct, rfl, hts⟩, hn3, rfl⟩
  have hl23 : G2.Le G3 := hn3.le G2 (by simp)
  clear hn3
  obtain ⟨T, hTe⟩ : ∃ T, T = (l1.take 3).map textOf := ⟨_, rfl⟩
  have hT150 : ∀ x ∈ T, x.size ≤ 150 := by
    intro x hx
    rw [hTe] at hx
    obtain ⟨z, _, rfl⟩ := List.mem_map.1 hx
    exact textOf_size z
  have hT12 : T.length ≤ 3 := by rw [hTe, List.length_map, List.length_take]; omega
  rw [← hTe] at hts ⊢
  clear hTe h1
  simp only [go_sem, Nat.reduceAdd, Nat.reduceSub, Nat.reduceMul, Nat.reduceEqDiff, Nat.reduceLT, Nat.reduceLeDiff, Nat.reduceBEq, Nat.reduceBNe, Int.reduceLT, Int.reduceLE, Int.reduceEq, Int.reduceAdd, Int.reduceSub, Int.reduceNeg, reduceCtorEq]
  refine loop_ok (N := 3000) (ι := Nat × Dev × (Option Addr × Nat) × (Option Addr × Nat) × (Option Addr × Nat) × Jr × List (Int × List UInt8) × GW)
    (fun i => match i with | (v, d, (A1, k1), (A2, k2), (A3, k3), j, l, G) => ⟨[(2, .c (.v (.string s))), (3, .c (.v (.slice Ah l3.length ch))), (4, .c (.v (.slice A'' keep.length c''))), (11, .c (.p 0 g1 0)), (12, .c (.p 1 g2 0)), (13, .c (.p 2 g3 0)), (14, .c (.v (.bool true))), (45, .c (.v (.slice At T.length ct))), (46, .c (.v (.int .i64 (T.length : Int)))), (47, .c (.v (.int .i64 (v : Int))))],
      [⟨2, g3, 81, [.v (.int .i64 j.gen), .v (.int .i64 j.epoch), .v (.int .i64 j.area), .v (.int .i64 j.length), .v (.int .i64 j.start), .v (.int .i64 j.first), .v (.int .i64 j.place), .v (.int .i64 j.next), .v (.int .i64 j.used)]⟩, ⟨1, g2, 37, [.v (.slice A1 d.safe.length k1), .v (.slice A2 d.cache.length k2), .v (.slice A3 d.vols.length k3), .v (.int .i64 d.fuel)]⟩, ⟨0, g1, 32, [.v (.int .i64 g.ring), .v (.int .i64 g.area), .v (.int .i64 g.hot), .v (.int .i64 g.volume), .v (.int .i64 g.volumes)]⟩], [], [], [G, G3, ⟨Non, w⟩], 3⟩)
    (fun i => match i with | (v, d, (A1, k1), (A2, k2), (A3, k3), j, l, G) => (v ≤ T.length ∧ j.gen = 1 ∧ j.epoch = 1) ∧ (GoodDev g d ∧ d.fuel = -1 ∧ d.cache.length = 0 ∧ Kept g (content d) j [] l 0) ∧ DevG G (.agg #[.slice A1 d.safe.length k1, .slice A2 d.cache.length k2, .slice A3 d.vols.length k3, .int .i64 d.fuel]) d) (fun i => T.length - i.1) (QOk_body _ _ _)
    (0, d0, (A1, k1), (A2, k2), (A3, k3), j0, [], G3) ⟨⟨by omega, hju.1, hju.2⟩, ⟨hg0, hf0, hc0, hk0⟩, hd0.mono hl23⟩ (by simp only [go_sem, Nat.reduceAdd, Nat.reduceSub, Nat.reduceMul, Nat.reduceEqDiff, Nat.reduceLT, Nat.reduceLeDiff, Nat.reduceBEq, Nat.reduceBNe, Int.reduceLT, Int.reduceLE, Int.reduceEq, Int.reduceAdd, Int.reduceSub, Int.reduceNeg, reduceCtorEq]; simp) ?_
  clear hg0 hf0 hc0 hk0 hd0 hju d0 j0 A1 k1 A2 k2 A3 k3 hl23 G2
  rintro ⟨v, d, ⟨A1, k1⟩, ⟨A2, k2⟩, ⟨A3, k3⟩, j, l, G4⟩ ⟨⟨hv, hj1, hj2⟩, ⟨hgd, hf, hc, hk⟩, hd⟩
  simp only
  by_cases hlt : v < T.length
  · have q1 : decide ((v : Int) < (T.length : Int)) = true := decide_eq_true (by omega)
    obtain ⟨x, hx⟩ : ∃ x, T[v]? = some x := ⟨_, List.getElem?_eq_getElem hlt⟩
    have hx150 := hT150 x (List.mem_of_getElem? hx)
    have hxl : x.data.toList.length ≤ 150 := by rw [Array.length_toList]; exact hx150
    simp only [go_sem, Nat.reduceAdd, Nat.reduceSub, Nat.reduceMul, Nat.reduceEqDiff, Nat.reduceLT, Nat.reduceLeDiff, Nat.reduceBEq, Nat.reduceBNe, Int.reduceLT, Int.reduceLE, Int.reduceEq, Int.reduceAdd, Int.reduceSub, Int.reduceNeg, reduceCtorEq, q1]
    refine plain_ok (N := 3000) (elem_does (R := StrG) (l := T) (m := v) rfl tySlice93 tySize9 rfl rfl (by simp only [dOk_some, dOk_none, Nat.reduceLT]) rfl hx (fun G hG => Sq.mono hts strG_mono (hG.le G3 (by simp)))) (QOk_body _ _ _) (by first | exact .inl rfl | exact .inr ⟨_, _, rfl, rfl⟩) ?_
    rintro _ ⟨gw, ow, cs, G5, _, rfl, rfl⟩
    simp only [go_sem, Nat.reduceAdd, Nat.reduceSub, Nat.reduceMul, Nat.reduceEqDiff, Nat.reduceLT, Nat.reduceLeDiff, Nat.reduceBEq, Nat.reduceBNe, Int.reduceLT, Int.reduceLE, Int.reduceEq, Int.reduceAdd, Int.reduceSub, Int.reduceNeg, reduceCtorEq]
    refine plain_ok (N := 3000) (bytes_does (e := 5) rfl (tyStr9) (tySlice23) (tyInt5) rfl (by simp only [dOk_some, dOk_none, Nat.reduceLT]) (by omega)) (QOk_body _ _ _) (by first | exact .inl rfl | exact .inr ⟨_, _, rfl, rfl⟩) ?_
    rintro _ ⟨Ab, cb, G6, hby, rfl⟩
    simp only [go_sem, Nat.reduceAdd, Nat.reduceSub, Nat.reduceMul, Nat.reduceEqDiff, Nat.reduceLT, Nat.reduceLeDiff, Nat.reduceBEq, Nat.reduceBNe, Int.reduceLT, Int.reduceLE, Int.reduceEq, Int.reduceAdd, Int.reduceSub, Int.reduceNeg, reduceCtorEq]
    refine plain_ok (N := 3000) (call_does (fun u G => (fullJ g j x.data.toList ∧ u = .tuple #[zeroDev, jrV zeroJr, .int .i64 8]) ∨ (¬ fullJ g j x.data.toList ∧ ∃ dv, u = .tuple #[dv, jrV (moreJ g j x.data.toList), .int .i64 0] ∧ DevG G dv (hFlush (commitTo g d j x.data.toList (cnt x.data.toList))).1)) rfl rfl (by kernel_rfl) rfl (by simp only [dOk_some, dOk_none, Nat.reduceLT]) (fun G hG => commit_does hg hgd hf hc (kept_weak hk) (by omega) hG.wf (tidL hG (by simp) (by simp; decide)) (hd.mono (hG.le G4 (by simp))) (ByG.mono hby (hG.le G6 (by simp))))) (QOk_body _ _ _) (by first | exact .inl rfl | exact .inr ⟨_, _, rfl, rfl⟩) ?_
    rintro _ ⟨_, G7, hC, hn7, rfl⟩
    have hl47 : G4.Le G7 := hn7.le G4 (by simp)
    clear hn7
    rcases hC with ⟨_, rfl⟩ | ⟨hnf, dv, rfl, hd8⟩
    · simp only [go_sem, Nat.reduceAdd, Nat.reduceSub, Nat.reduceMul, Nat.reduceEqDiff, Nat.reduceLT, Nat.reduceLeDiff, Nat.reduceBEq, Nat.reduceBNe, Int.reduceLT, Int.reduceLE, Int.reduceEq, Int.reduceAdd, Int.reduceSub, Int.reduceNeg, reduceCtorEq, zeroDev, jrV, zeroJr]
      intro g5 g6
      exact ⟨by omega, again_ok (v + 1, d, (A1, k1), (A2, k2), (A3, k3), j, l, G7) ⟨⟨by omega, hj1, hj2⟩, ⟨hgd, hf, hc, hk⟩, hd.mono hl47⟩ (by simp only; omega) (by simp only [go_sem, Nat.reduceAdd, Nat.reduceSub, Nat.reduceMul, Nat.reduceEqDiff, Nat.reduceLT, Nat.reduceLeDiff, Nat.reduceBEq, Nat.reduceBNe, Int.reduceLT, Int.reduceLE, Int.reduceEq, Int.reduceAdd, Int.reduceSub, Int.reduceNeg, reduceCtorEq]; simp)⟩
    · obtain ⟨_, hg8, hf8, hc8, hk8⟩ := commit_kept hg hgd hf hc (kept_weak hk) hnf
      generalize (hFlush (commitTo g d j x.data.toList (cnt x.data.toList))).1 = d8 at hd8 hg8 hf8 hc8 hk8
      have hm1 : (moreJ g j x.data.toList).gen = 1 ∧ (moreJ g j x.data.toList).epoch = 1 := ⟨hj1, hj2⟩
      generalize moreJ g j x.data.toList = j8 at hk8 hm1
      obtain ⟨B1, n1, B2, n2, B3, n3, rfl, hfo⟩ := hd8.form
      clear hfo
      simp only [go_sem, Nat.reduceAdd, Nat.reduceSub, Nat.reduceMul, Nat.reduceEqDiff, Nat.reduceLT, Nat.reduceLeDiff, Nat.reduceBEq, Nat.reduceBNe, Int.reduceLT, Int.reduceLE, Int.reduceEq, Int.reduceAdd, Int.reduceSub, Int.reduceNeg, reduceCtorEq, jrV]
      intro g5 g6
      exact ⟨by omega, again_ok (v + 1, d8, (B1, n1), (B2, n2), (B3, n3), j8, l ++ [(j.epoch, x.data.toList)], G7) ⟨⟨by omega, hm1.1, hm1.2⟩, ⟨hg8, hf8, hc8, hk8⟩, hd8⟩ (by simp only; omega) (by simp only [go_sem, Nat.reduceAdd, Nat.reduceSub, Nat.reduceMul, Nat.reduceEqDiff, Nat.reduceLT, Nat.reduceLeDiff, Nat.reduceBEq, Nat.reduceBNe, Int.reduceLT, Int.reduceLE, Int.reduceEq, Int.reduceAdd, Int.reduceSub, Int.reduceNeg, reduceCtorEq]; simp)⟩
  · have q1 : decide ((v : Int) < (T.length : Int)) = false := decide_eq_false (by omega)
    simp only [go_sem, Nat.reduceAdd, Nat.reduceSub, Nat.reduceMul, Nat.reduceEqDiff, Nat.reduceLT, Nat.reduceLeDiff, Nat.reduceBEq, Nat.reduceBNe, Int.reduceLT, Int.reduceLE, Int.reduceEq, Int.reduceAdd, Int.reduceSub, Int.reduceNeg, reduceCtorEq, q1]
    refine plain_ok (N := 3000) (call_does (fun v _ => v = .string (bodyOf s 299)) rfl rfl (by kernel_rfl) rfl (by simp only [dOk_some, dOk_none, Nat.reduceLT]) (fun G hG => body_does hs ⟨by omega, by omega⟩ hG.wf)) (QOk_body _ _ _) (by first | exact .inl rfl | exact .inr ⟨_, _, rfl, rfl⟩) ?_
    rintro _ ⟨_, G5, rfl, hn5, rfl⟩
    clear hn5
    have hbs := bodyOf_size s 299
    generalize bodyOf s 299 = q at hbs
    simp only [go_sem, Nat.reduceAdd, Nat.reduceSub, Nat.reduceMul, Nat.reduceEqDiff, Nat.reduceLT, Nat.reduceLeDiff, Nat.reduceBEq, Nat.reduceBNe, Int.reduceLT, Int.reduceLE, Int.reduceEq, Int.reduceAdd, Int.reduceSub, Int.reduceNeg, reduceCtorEq]
    refine plain_ok (N := 3000) (bytes_does (e := 5) rfl (tyStr9) (tySlice23) (tyInt5) rfl (by simp only [dOk_some, dOk_none, Nat.reduceLT]) (by omega)) (QOk_body _ _ _) (by first | exact .inl rfl | exact .inr ⟨_, _, rfl, rfl⟩) ?_
    rintro _ ⟨Ab, cb, G6, hbb, rfl⟩
    have hbl : q.data.toList.length ≤ 600 := by rw [Array.length_toList]; exact hbs
    generalize q.data.toList = b at hbb hbl
    simp only [go_sem, Nat.reduceAdd, Nat.reduceSub, Nat.reduceMul, Nat.reduceEqDiff, Nat.reduceLT, Nat.reduceLeDiff, Nat.reduceBEq, Nat.reduceBNe, Int.reduceLT, Int.reduceLE, Int.reduceEq, Int.reduceAdd, Int.reduceSub, Int.reduceNeg, reduceCtorEq]
    have hnf : ¬ fullS g j b := by unfold fullS; omega
    obtain ⟨he, hg7, hf7, hc7, hk7⟩ := save_kept hg hgd hf hc hk hnf
    refine plain_ok (N := 3000) (call_does (fun u G => ∃ dv, u = .tuple #[dv, jrV (nextJ j (b.length : Int)), .int .i64 0] ∧ DevG G dv (saveX g d j b).1) rfl rfl (by kernel_rfl) rfl (by simp only [dOk_some, dOk_none, Nat.reduceLT]) (fun G hG => ret_mono (save_any hg hgd hk.ok hG.wf (tidL hG (by simp) (by simp; decide)) (hd.mono (hG.le G4 (by simp))) (ByG.mono hbb (hG.le G6 (by simp)))) fun u G' _ h => by rcases h with ⟨q, _⟩ | ⟨_, h⟩; exact absurd q hnf; exact handE_good h he)) (QOk_body _ _ _) (by first | exact .inl rfl | exact .inr ⟨_, _, rfl, rfl⟩) ?_
    rintro _ ⟨_, G7, ⟨dv, rfl, hd7⟩, hn7, rfl⟩
    clear hn7 he
    have hj7 : (nextJ j (b.length : Int)).gen = 2 ∧ (nextJ j (b.length : Int)).epoch = 1 := ⟨by show j.gen + 1 = 2; omega, hj2⟩
    generalize (saveX g d j b).1 = d7 at hd7 hg7 hf7 hc7 hk7
    generalize nextJ j (b.length : Int) = j7 at hk7 hj7
    obtain ⟨E1, m1, E2, m2, E3, m3, rfl, hfo⟩ := hd7.form
    clear hfo hd hgd hf hc hk hj1 hj2
    simp only [go_sem, Nat.reduceAdd, Nat.reduceSub, Nat.reduceMul, Nat.reduceEqDiff, Nat.reduceLT, Nat.reduceLeDiff, Nat.reduceBEq, Nat.reduceBNe, Int.reduceLT, Int.reduceLE, Int.reduceEq, Int.reduceAdd, Int.reduceSub, Int.reduceNeg, reduceCtorEq, jrV]
    refine row_ok 9 1 ?_
    simp only [go_sem, Nat.reduceAdd, Nat.reduceSub, Nat.reduceMul, Nat.reduceEqDiff, Nat.reduceLT, Nat.reduceLeDiff, Nat.reduceBEq, Nat.reduceBNe, Int.reduceLT, Int.reduceLE, Int.reduceEq, Int.reduceAdd, Int.reduceSub, Int.reduceNeg, reduceCtorEq]
    refine plain_ok (N := 3000) (call_does (fun v G => ∃ A c, v = .slice A ((l3.take 3).map textOf).length c ∧ Sq StrG 9 1 G (.slice A ((l3.take 3).map textOf).length c) ((l3.take 3).map textOf)) rfl rfl (by kernel_rfl) rfl (by simp only [dOk_some, dOk_none, Nat.reduceLT]) (fun G hG => texts_does (most := 3) (by omega) hG.wf (ScR.mono h3 rawG_mono (hG.le ⟨Non, w⟩ (by simp))))) (QOk_body _ _ _) (by first | exact .inl rfl | exact .inr ⟨_, _, rfl, rfl⟩) ?_
    rintro _ ⟨_, G8, ⟨Au, cu, rfl, htu⟩, hn8, rfl⟩
    have hl78 : G7.Le G8 := hn8.le G7 (by simp)
    clear hn8
    obtain ⟨U, hUe⟩ : ∃ U, U = (l3.take 3).map textOf := ⟨_, rfl⟩
    have hU150 : ∀ x ∈ U, x.size ≤ 150 := by
      intro x hx
      rw [hUe] at hx
      obtain ⟨z, _, rfl⟩ := List.mem_map.1 hx
      exact textOf_size z
    have hU3 : U.length ≤ 3 := by rw [hUe, List.length_map, List.length_take]; omega
    rw [← hUe] at htu ⊢
    clear hUe
    simp only [go_sem, Nat.reduceAdd, Nat.reduceSub, Nat.reduceMul, Nat.reduceEqDiff, Nat.reduceLT, Nat.reduceLeDiff, Nat.reduceBEq, Nat.reduceBNe, Int.reduceLT, Int.reduceLE, Int.reduceEq, Int.reduceAdd, Int.reduceSub, Int.reduceNeg, reduceCtorEq]
    refine loop_ok (N := 3000) (ι := Nat × Dev × (Option Addr × Nat) × (Option Addr × Nat) × (Option Addr × Nat) × Jr × List (Int × List UInt8) × List ByteArray × (Option Addr × Nat) × GW)
      (fun i => match i with | (v, d, (A1, k1), (A2, k2), (A3, k3), j, l, ws, (W, wc), G) => ⟨[(4, .c (.v (.slice A'' keep.length c''))), (11, .c (.p 0 g1 0)), (12, .c (.p 1 g2 0)), (13, .c (.p 2 g3 0)), (14, .c (.v (.bool true))), (20, .c (.v (.slice Ab b.length cb))), (21, .c (.v (.int .i64 0))), (22, .c (.v (.slice W ws.length wc))), (79, .c (.v (.slice Au U.length cu))), (80, .c (.v (.int .i64 (U.length : Int)))), (81, .c (.v (.int .i64 (v : Int))))],
        [⟨2, g3, 81, [.v (.int .i64 j.gen), .v (.int .i64 j.epoch), .v (.int .i64 j.area), .v (.int .i64 j.length), .v (.int .i64 j.start), .v (.int .i64 j.first), .v (.int .i64 j.place), .v (.int .i64 j.next), .v (.int .i64 j.used)]⟩, ⟨1, g2, 37, [.v (.slice A1 d.safe.length k1), .v (.slice A2 d.cache.length k2), .v (.slice A3 d.vols.length k3), .v (.int .i64 d.fuel)]⟩, ⟨0, g1, 32, [.v (.int .i64 g.ring), .v (.int .i64 g.area), .v (.int .i64 g.hot), .v (.int .i64 g.volume), .v (.int .i64 g.volumes)]⟩], [⟨.slice W ws.length wc, 9, 1, ws.length, ws.map Value.string⟩], [], [G, G8, G6, ⟨Non, w⟩], 3⟩)
      (fun i => match i with | (v, d, (A1, k1), (A2, k2), (A3, k3), j, l, ws, _, G) => (v ≤ U.length ∧ ws.length ≤ v ∧ l.map (·.2) = ws.map (fun x => x.data.toList) ∧ j.gen = 2 ∧ j.epoch = 1) ∧ (GoodDev g d ∧ d.fuel = -1 ∧ d.cache.length = 0 ∧ Kept g (content d) j b l 0) ∧ DevG G (.agg #[.slice A1 d.safe.length k1, .slice A2 d.cache.length k2, .slice A3 d.vols.length k3, .int .i64 d.fuel]) d) (fun i => U.length - i.1) (QOk_body _ _ _)
      (0, d7, (E1, m1), (E2, m2), (E3, m3), j7, [], [], (none, 0), G8) ⟨⟨by omega, by simp, rfl, hj7.1, hj7.2⟩, ⟨hg7, hf7, hc7, hk7⟩, hd7.mono hl78⟩ (by simp only [go_sem, Nat.reduceAdd, Nat.reduceSub, Nat.reduceMul, Nat.reduceEqDiff, Nat.reduceLT, Nat.reduceLeDiff, Nat.reduceBEq, Nat.reduceBNe, Int.reduceLT, Int.reduceLE, Int.reduceEq, Int.reduceAdd, Int.reduceSub, Int.reduceNeg, reduceCtorEq]; simp) ?_
    clear hg7 hf7 hc7 hk7 hd7 hj7 d7 j7 E1 m1 E2 m2 E3 m3 hl78 G7 hlt hv hnf q1 v j d
    rintro ⟨v, d, ⟨A1, k1⟩, ⟨A2, k2⟩, ⟨A3, k3⟩, j, l, ws, ⟨W, wc⟩, G9⟩ ⟨⟨hv, hwv, hlT, hj1, hj2⟩, ⟨hgd, hf, hc, hk⟩, hd⟩
    simp only
    have hlen : l.length = ws.length := by
      have := congrArg List.length hlT
      rw [List.length_map, List.length_map] at this
      exact this
    by_cases hlu : v < U.length
    · have q1 : decide ((v : Int) < (U.length : Int)) = true := decide_eq_true (by omega)
      obtain ⟨x, hx⟩ : ∃ x, U[v]? = some x := ⟨_, List.getElem?_eq_getElem hlu⟩
      have hx150 := hU150 x (List.mem_of_getElem? hx)
      have hxl : x.data.toList.length ≤ 150 := by rw [Array.length_toList]; exact hx150
      simp only [go_sem, Nat.reduceAdd, Nat.reduceSub, Nat.reduceMul, Nat.reduceEqDiff, Nat.reduceLT, Nat.reduceLeDiff, Nat.reduceBEq, Nat.reduceBNe, Int.reduceLT, Int.reduceLE, Int.reduceEq, Int.reduceAdd, Int.reduceSub, Int.reduceNeg, reduceCtorEq, q1]
      refine plain_ok (N := 3000) (elem_does (R := StrG) (l := U) (m := v) rfl tySlice93 tySize9 rfl rfl (by simp only [dOk_some, dOk_none, Nat.reduceLT]) rfl hx (fun G hG => Sq.mono htu strG_mono (hG.le G8 (by simp)))) (QOk_body _ _ _) (by first | exact .inl rfl | exact .inr ⟨_, _, rfl, rfl⟩) ?_
      rintro _ ⟨gw, ow, cs, H5, _, rfl, rfl⟩
      simp only [go_sem, Nat.reduceAdd, Nat.reduceSub, Nat.reduceMul, Nat.reduceEqDiff, Nat.reduceLT, Nat.reduceLeDiff, Nat.reduceBEq, Nat.reduceBNe, Int.reduceLT, Int.reduceLE, Int.reduceEq, Int.reduceAdd, Int.reduceSub, Int.reduceNeg, reduceCtorEq]
      refine plain_ok (N := 3000) (bytes_does (e := 5) rfl (tyStr9) (tySlice23) (tyInt5) rfl (by simp only [dOk_some, dOk_none, Nat.reduceLT]) (by omega)) (QOk_body _ _ _) (by first | exact .inl rfl | exact .inr ⟨_, _, rfl, rfl⟩) ?_
      rintro _ ⟨Ab, cb, H6, hby, rfl⟩
      simp only [go_sem, Nat.reduceAdd, Nat.reduceSub, Nat.reduceMul, Nat.reduceEqDiff, Nat.reduceLT, Nat.reduceLeDiff, Nat.reduceBEq, Nat.reduceBNe, Int.reduceLT, Int.reduceLE, Int.reduceEq, Int.reduceAdd, Int.reduceSub, Int.reduceNeg, reduceCtorEq]
      refine plain_ok (N := 3000) (call_does (fun u G => (fullJ g j x.data.toList ∧ u = .tuple #[zeroDev, jrV zeroJr, .int .i64 8]) ∨ (¬ fullJ g j x.data.toList ∧ ∃ dv, u = .tuple #[dv, jrV (moreJ g j x.data.toList), .int .i64 0] ∧ DevG G dv (hFlush (commitTo g d j x.data.toList (cnt x.data.toList))).1)) rfl rfl (by kernel_rfl) rfl (by simp only [dOk_some, dOk_none, Nat.reduceLT]) (fun G hG => commit_does hg hgd hf hc (kept_weak hk) (by omega) hG.wf (tidL hG (by simp; decide) (by simp; decide)) (hd.mono (hG.le G9 (by simp))) (ByG.mono hby (hG.le H6 (by simp))))) (QOk_body _ _ _) (by first | exact .inl rfl | exact .inr ⟨_, _, rfl, rfl⟩) ?_
      rintro _ ⟨_, H7, hC, hn7, rfl⟩
      have hl97 : G9.Le H7 := hn7.le G9 (by simp)
      clear hn7
      rcases hC with ⟨_, rfl⟩ | ⟨hnf, dv, rfl, hd8⟩
      · simp only [go_sem, Nat.reduceAdd, Nat.reduceSub, Nat.reduceMul, Nat.reduceEqDiff, Nat.reduceLT, Nat.reduceLeDiff, Nat.reduceBEq, Nat.reduceBNe, Int.reduceLT, Int.reduceLE, Int.reduceEq, Int.reduceAdd, Int.reduceSub, Int.reduceNeg, reduceCtorEq, zeroDev, jrV, zeroJr]
        intro g5 g6
        exact ⟨by omega, again_ok (v + 1, d, (A1, k1), (A2, k2), (A3, k3), j, l, ws, (W, wc), H7) ⟨⟨by omega, (show ws.length ≤ v + 1 by omega), hlT, hj1, hj2⟩, ⟨hgd, hf, hc, hk⟩, hd.mono hl97⟩ (by simp only; omega) (by simp only [go_sem, Nat.reduceAdd, Nat.reduceSub, Nat.reduceMul, Nat.reduceEqDiff, Nat.reduceLT, Nat.reduceLeDiff, Nat.reduceBEq, Nat.reduceBNe, Int.reduceLT, Int.reduceLE, Int.reduceEq, Int.reduceAdd, Int.reduceSub, Int.reduceNeg, reduceCtorEq]; simp)⟩
      · obtain ⟨_, hg8, hf8, hc8, hk8⟩ := commit_kept hg hgd hf hc (kept_weak hk) hnf
        generalize (hFlush (commitTo g d j x.data.toList (cnt x.data.toList))).1 = d8 at hd8 hg8 hf8 hc8 hk8
        have hm1 : (moreJ g j x.data.toList).gen = 2 ∧ (moreJ g j x.data.toList).epoch = 1 := ⟨hj1, hj2⟩
        generalize moreJ g j x.data.toList = j8 at hk8 hm1
        obtain ⟨B1, n1, B2, n2, B3, n3, rfl, hfo⟩ := hd8.form
        clear hfo
        simp only [go_sem, Nat.reduceAdd, Nat.reduceSub, Nat.reduceMul, Nat.reduceEqDiff, Nat.reduceLT, Nat.reduceLeDiff, Nat.reduceBEq, Nat.reduceBNe, Int.reduceLT, Int.reduceLE, Int.reduceEq, Int.reduceAdd, Int.reduceSub, Int.reduceNeg, reduceCtorEq, jrV]
        intro g5 g6 g7
        refine plain_ok (N := 3000) (append_does (R1 := []) (m := 1) (news := [.string x]) rfl tySlice93 tyApp9 rfl rfl rfl rfl (by simp only [dOk_some, dOk_none, Nat.reduceLT]) (by intro u hu; simp at hu; rcases hu with rfl; rfl) (by unfold maxLen; omega) (by omega) (fun G hG => tsl_blk hG (b := ⟨6, g7, 9, [.v (.string x)]⟩) (by simp) rfl (by unfold maxLen; omega))) (QOk_body _ _ _) (by first | exact .inl rfl | exact .inr ⟨_, _, rfl, rfl⟩) ?_
        rintro _ ⟨A9, c9, rfl⟩
        simp only [go_sem, Nat.reduceAdd, Nat.reduceSub, Nat.reduceMul, Nat.reduceEqDiff, Nat.reduceLT, Nat.reduceLeDiff, Nat.reduceBEq, Nat.reduceBNe, Int.reduceLT, Int.reduceLE, Int.reduceEq, Int.reduceAdd, Int.reduceSub, Int.reduceNeg, reduceCtorEq]
        have eI : ws.map Value.string ++ [.string x] = (ws ++ [x]).map Value.string := by simp
        have eL : ws.length + 1 = (ws ++ [x]).length := by simp
        rw [eI, eL]
        exact ⟨by omega, again_ok (v + 1, d8, (B1, n1), (B2, n2), (B3, n3), j8, l ++ [(j.epoch, x.data.toList)], ws ++ [x], (A9, c9), H7) ⟨⟨by omega, (show (ws ++ [x]).length ≤ v + 1 by rw [← eL]; omega), by rw [List.map_append, hlT, List.map_append]; rfl, hm1.1, hm1.2⟩, ⟨hg8, hf8, hc8, hk8⟩, hd8⟩ (by simp only; omega) (by simp only [go_sem, Nat.reduceAdd, Nat.reduceSub, Nat.reduceMul, Nat.reduceEqDiff, Nat.reduceLT, Nat.reduceLeDiff, Nat.reduceBEq, Nat.reduceBNe, Int.reduceLT, Int.reduceLE, Int.reduceEq, Int.reduceAdd, Int.reduceSub, Int.reduceNeg, reduceCtorEq]; simp)⟩
    · have q2 : decide ((v : Int) < (U.length : Int)) = false := decide_eq_false (by omega)
      simp only [go_sem, Nat.reduceAdd, Nat.reduceSub, Nat.reduceMul, Nat.reduceEqDiff, Nat.reduceLT, Nat.reduceLeDiff, Nat.reduceBEq, Nat.reduceBNe, Int.reduceLT, Int.reduceLE, Int.reduceEq, Int.reduceAdd, Int.reduceSub, Int.reduceNeg, reduceCtorEq, q2]
      have hk1 := kept_crash hg hgd hc keep hk
      refine plain_ok (N := 3000) (call_does (fun u G => ∃ dv A c A2 c2, u = .tuple #[dv, jrV (upJ j), .slice A b.length c, .slice A2 ws.length c2, .bool true] ∧ DevG G dv (backX d keep j) ∧ ByG G (.slice A b.length c) b ∧ SafG G (.slice A2 ws.length c2) (ws.map (fun x => x.data.toList))) rfl rfl (by kernel_rfl) rfl (by simp only [dOk_some, dOk_none, Nat.reduceLT]) (fun G hG => ret_mono (opened_does (keep := keep) hg hgd hk1 (hk1.stops _) (by omega) (by omega) hG.wf (tidL hG (by simp; decide) (by simp; decide)) (hd.mono (hG.le G9 (by simp))) (ScR.mono h4 boolG_mono (hG.le ⟨Non, w⟩ (by simp)))) fun u G' _ h => by rw [hlT, hlen] at h; exact h)) (QOk_body _ _ _) (by first | exact .inl rfl | exact .inr ⟨_, _, rfl, rfl⟩) ?_
      rintro _ ⟨_, G10, ⟨dv, Ao, co, Aa, ca, rfl, hd8, hgot, hal⟩, hn10, rfl⟩
      clear hn10
      obtain ⟨E1, m1, E2, m2, E3, m3, rfl, hfo⟩ := hd8.form
      clear hfo
      have r1 : decide (((ws.length : Nat) : Int) = ((ws.length : Nat) : Int)) = true := decide_eq_true rfl
      simp only [go_sem, Nat.reduceAdd, Nat.reduceSub, Nat.reduceMul, Nat.reduceEqDiff, Nat.reduceLT, Nat.reduceLeDiff, Nat.reduceBEq, Nat.reduceBNe, Int.reduceLT, Int.reduceLE, Int.reduceEq, Int.reduceAdd, Int.reduceSub, Int.reduceNeg, reduceCtorEq, jrV, upJ, r1]
      intro g8 g9
      refine plain_ok (N := 3000) (text_does (bs := b) (e := 5) rfl tyStr9 tySlice23 tyInt5 rfl (by simp only [dOk_some, dOk_none, Nat.reduceLT]) (fun G hG => hgot.mono (hG.le G10 (by simp)))) (QOk_body _ _ _) (by first | exact .inl rfl | exact .inr ⟨_, _, rfl, rfl⟩) ?_
      rintro _ rfl
      simp only [go_sem, Nat.reduceAdd, Nat.reduceSub, Nat.reduceMul, Nat.reduceEqDiff, Nat.reduceLT, Nat.reduceLeDiff, Nat.reduceBEq, Nat.reduceBNe, Int.reduceLT, Int.reduceLE, Int.reduceEq, Int.reduceAdd, Int.reduceSub, Int.reduceNeg, reduceCtorEq]
      refine plain_ok (N := 3000) (text_does (bs := b) (e := 5) rfl tyStr9 tySlice23 tyInt5 rfl (by simp only [dOk_some, dOk_none, Nat.reduceLT]) (fun G hG => ByG.mono hbb (hG.le G6 (by simp)))) (QOk_body _ _ _) (by first | exact .inl rfl | exact .inr ⟨_, _, rfl, rfl⟩) ?_
      rintro _ rfl
      simp only [go_sem, Nat.reduceAdd, Nat.reduceSub, Nat.reduceMul, Nat.reduceEqDiff, Nat.reduceLT, Nat.reduceLeDiff, Nat.reduceBEq, Nat.reduceBNe, Int.reduceLT, Int.reduceLE, Int.reduceEq, Int.reduceAdd, Int.reduceSub, Int.reduceNeg, reduceCtorEq, r1]
      refine read_ok (R1 := []) rfl fun G11 hle11 hs11 => ?_
      have hal8 := Sq.mono hal rowG_mono (hle11 G10 (by simp))
      have hW8 : Sq StrG 9 1 G11 (.slice W ws.length wc) ws := str_of hs11
      simp only [go_sem, Nat.reduceAdd, Nat.reduceSub, Nat.reduceMul, Nat.reduceEqDiff, Nat.reduceLT, Nat.reduceLeDiff, Nat.reduceBEq, Nat.reduceBNe, Int.reduceLT, Int.reduceLE, Int.reduceEq, Int.reduceAdd, Int.reduceSub, Int.reduceNeg, reduceCtorEq]
      refine loop_ok (N := 3000) (ι := Nat × GW)
        (fun i => match i with | (i, G) => ⟨[(22, .c (.v (.slice W ws.length wc))), (31, .c (.v (.slice Aa ws.length ca))), (139, .c (.v (.int .i64 (ws.length : Int)))), (140, .c (.v (.int .i64 (i : Int))))], [], [], [], [G], 9⟩)
        (fun i => match i with | (i, G) => i ≤ ws.length ∧ Sq StrG 9 1 G (.slice W ws.length wc) ws ∧ SafG G (.slice Aa ws.length ca) (ws.map (fun x => x.data.toList))) (fun i => ws.length - i.1) (QOk_body _ _ _) (0, G11) ⟨by omega, hW8, hal8⟩ (by simp only [go_sem, Nat.reduceAdd, Nat.reduceSub, Nat.reduceMul, Nat.reduceEqDiff, Nat.reduceLT, Nat.reduceLeDiff, Nat.reduceBEq, Nat.reduceBNe, Int.reduceLT, Int.reduceLE, Int.reduceEq, Int.reduceAdd, Int.reduceSub, Int.reduceNeg, reduceCtorEq]; simp) ?_
      clear hW8 hal8 hal hle11 hs11
      rintro ⟨i, G11⟩ ⟨hi, hW8, hal8⟩
      simp only
      by_cases hiv : i < ws.length
      · have s1 : decide ((i : Int) < (ws.length : Int)) = true := decide_eq_true (by omega)
        obtain ⟨y, hy⟩ : ∃ y, ws[i]? = some y := ⟨_, List.getElem?_eq_getElem (by omega)⟩
        have hy2 : (ws.map (fun x => x.data.toList))[i]? = some y.data.toList := by rw [List.getElem?_map, hy]; rfl
        simp only [go_sem, Nat.reduceAdd, Nat.reduceSub, Nat.reduceMul, Nat.reduceEqDiff, Nat.reduceLT, Nat.reduceLeDiff, Nat.reduceBEq, Nat.reduceBNe, Int.reduceLT, Int.reduceLE, Int.reduceEq, Int.reduceAdd, Int.reduceSub, Int.reduceNeg, reduceCtorEq, s1]
        refine preview_ok (R := RowG) (kc := 1) hy2 (fun G hG => (Sq.mono hal8 rowG_mono (hG G11 (by simp))).sc) fun ga oa csa Ga hA _ hca hlea => ?_
        subst hA
        clear hlea
        obtain ⟨Abb, cbb, rfl, hby⟩ := rowcell hca
        simp only [go_sem, Nat.reduceAdd, Nat.reduceSub, Nat.reduceMul, Nat.reduceEqDiff, Nat.reduceLT, Nat.reduceLeDiff, Nat.reduceBEq, Nat.reduceBNe, Int.reduceLT, Int.reduceLE, Int.reduceEq, Int.reduceAdd, Int.reduceSub, Int.reduceNeg, reduceCtorEq]
        refine preview_ok (R := StrG) (kc := 1) hy (fun G hG => (Sq.mono hW8 strG_mono (hG G11 (by simp))).sc) fun gb ob csb Gb hB _ hcb hleb => ?_
        subst hB
        clear hleb
        obtain rfl := hcb
        simp only [go_sem, Nat.reduceAdd, Nat.reduceSub, Nat.reduceMul, Nat.reduceEqDiff, Nat.reduceLT, Nat.reduceLeDiff, Nat.reduceBEq, Nat.reduceBNe, Int.reduceLT, Int.reduceLE, Int.reduceEq, Int.reduceAdd, Int.reduceSub, Int.reduceNeg, reduceCtorEq]
        refine draw_ok (N := 3000) (.take 0 (.take 1 (.take 2 (.take 3 (.take 5 (.take 6 (.take 7 (.take 8 (.alt 4 (.take 9 .done) .last))))))))) [] (QOk_body _ _ _) follows_mixed (by kernel_rfl) (by kernel_rfl) ?_
        simp only [go_sem, Nat.reduceAdd, Nat.reduceSub, Nat.reduceMul, Nat.reduceEqDiff, Nat.reduceLT, Nat.reduceLeDiff, Nat.reduceBEq, Nat.reduceBNe, Int.reduceLT, Int.reduceLE, Int.reduceEq, Int.reduceAdd, Int.reduceSub, Int.reduceNeg, reduceCtorEq]
        refine take_elem 9 (m := i) rfl tySlice29 tySize23 rfl rfl (by simp only [dOk_some, dOk_none, Nat.reduceLT]) rfl (by omega) ?_
        simp only [go_sem, Nat.reduceAdd, Nat.reduceSub, Nat.reduceMul, Nat.reduceEqDiff, Nat.reduceLT, Nat.reduceLeDiff, Nat.reduceBEq, Nat.reduceBNe, Int.reduceLT, Int.reduceLE, Int.reduceEq, Int.reduceAdd, Int.reduceSub, Int.reduceNeg, reduceCtorEq]
        refine take_elem 10 (m := i) rfl tySlice93 tySize9 rfl rfl (by simp only [dOk_some, dOk_none, Nat.reduceLT]) rfl (by omega) ?_
        simp only [go_sem, Nat.reduceAdd, Nat.reduceSub, Nat.reduceMul, Nat.reduceEqDiff, Nat.reduceLT, Nat.reduceLeDiff, Nat.reduceBEq, Nat.reduceBNe, Int.reduceLT, Int.reduceLE, Int.reduceEq, Int.reduceAdd, Int.reduceSub, Int.reduceNeg, reduceCtorEq]
        refine any_ok2 (N := 3000) (text_does (bs := y.data.toList) (e := 5) rfl tyStr9 tySlice23 tyInt5 rfl (by simp only [dOk_some, dOk_none, Nat.reduceLT]) (fun G hG => hby.mono (hG.le Ga (by simp)))) (QOk_body _ _ _) rfl (by first | exact .inl rfl | exact .inr ⟨_, _, rfl, rfl⟩) (by intro _ hK; first | (obtain ⟨_, _, _, _, rfl⟩ := hK; exact ⟨rfl, fun _ h => h⟩) | (obtain ⟨_, _, rfl⟩ := hK; exact ⟨rfl, fun _ h => h⟩) | (obtain ⟨_, _, _, _, _, _, rfl⟩ := hK; exact ⟨rfl, fun _ h => List.mem_cons_of_mem _ h⟩) | (obtain ⟨_, _, _, _, _, _, _, rfl⟩ := hK; exact ⟨rfl, fun _ h => List.mem_cons_of_mem _ h⟩) | (obtain rfl := hK; exact ⟨rfl, fun _ h => h⟩)) ?_
        rintro _ rfl
        rw [bytes_back]
        simp only [go_sem, Nat.reduceAdd, Nat.reduceSub, Nat.reduceMul, Nat.reduceEqDiff, Nat.reduceLT, Nat.reduceLeDiff, Nat.reduceBEq, Nat.reduceBNe, Int.reduceLT, Int.reduceLE, Int.reduceEq, Int.reduceAdd, Int.reduceSub, Int.reduceNeg, reduceCtorEq]
        exact ⟨by omega, again_ok (i + 1, G11) ⟨by omega, hW8, hal8⟩ (by simp only; omega) (by simp only [go_sem, Nat.reduceAdd, Nat.reduceSub, Nat.reduceMul, Nat.reduceEqDiff, Nat.reduceLT, Nat.reduceLeDiff, Nat.reduceBEq, Nat.reduceBNe, Int.reduceLT, Int.reduceLE, Int.reduceEq, Int.reduceAdd, Int.reduceSub, Int.reduceNeg, reduceCtorEq]; simp)⟩
      · have s1 : decide ((i : Int) < (ws.length : Int)) = false := decide_eq_false (by omega)
        simp only [go_sem, Nat.reduceAdd, Nat.reduceSub, Nat.reduceMul, Nat.reduceEqDiff, Nat.reduceLT, Nat.reduceLeDiff, Nat.reduceBEq, Nat.reduceBNe, Int.reduceLT, Int.reduceLE, Int.reduceEq, Int.reduceAdd, Int.reduceSub, Int.reduceNeg, reduceCtorEq, s1]
        refine fin_ret (G := ⟨Non, w⟩) Try.results22 ?_
        simp only [go_sem, Nat.reduceAdd, Nat.reduceSub, Nat.reduceMul, Nat.reduceEqDiff, Nat.reduceLT, Nat.reduceLeDiff, Nat.reduceBEq, Nat.reduceBNe, Int.reduceLT, Int.reduceLE, Int.reduceEq, Int.reduceAdd, Int.reduceSub, Int.reduceNeg, reduceCtorEq]
        intro aa w' _ _
        rfl
theorem saveFound_walk {w : World} (a0 : Int) (w0 : (Lit.int .i64 a0).wf = true) (v1 : Value) (l1 : List Raw) (h1 : RawsG ⟨Non, w⟩ v1 l1) (s : ByteArray) (hs : s.size ≤ maxLen) (v3 : Value) (l3 : List Raw) (h3 : RawsG ⟨Non, w⟩ v3 l3) (v4 : Value) (keep : List Bool) (h4 : BoolsG ⟨Non, w⟩ v4 keep) :
    Calls Try.prog 22 #[.int .i64 a0, v1, .string s, v3, v4] w fun e w' => e = .returned (.bool true) ∧ Below w.heap.size w w' :=
  (saveFound_ret a0 w0 v1 l1 h1 s hs v3 l3 h3 v4 keep h4).mono fun e w' ⟨v, he, hv, hc⟩ => ⟨by rw [he, hv], hc.below⟩
end Go.Proofs.Ytomfladifefomaa
