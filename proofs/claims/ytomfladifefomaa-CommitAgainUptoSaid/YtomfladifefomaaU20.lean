/- 'icehousekeep.OpenOften' returns true for every two ints and slice of raw things. Conditions: none. -/
import Derived.Test.YtomfladifefomaaU19
namespace Go.Proofs.Ytomfladifefomaa
open Go.RowKit
set_option linter.unusedSimpArgs false
theorem back_kept {g : Geo} (hg : GoodGeo g) {d : Dev} (hd : GoodDev g d) (keep : List Bool) {j : Jr} {snap : List UInt8} {l : List (Int × List UInt8)} {w : Int} (h : Kept g (content (crashDev d keep 0)) j snap l w) (hge : j.gen < 1048576) (hep : j.epoch < 1048576) :
    Kept g (content (backX d keep j)) (upJ j) snap l w ∧ GoodDev g (backX d keep j) ∧ (backX d keep j).fuel = -1 ∧ (backX d keep j).cache.length = 0 :=
  open_kept hg (good_crash hd (by omega)) rfl rfl h hge hep
set_option maxRecDepth 100000 in
set_option maxHeartbeats 32000000 in
theorem openOften_ret {w : World} (a0 : Int) (w0 : (Lit.int .i64 a0).wf = true) (v1 : Value) (l1 : List Raw) (h1 : RawsG ⟨Non, w⟩ v1 l1) (a2 : Int) (w2 : (Lit.int .i64 a2).wf = true) :
    Calls Try.prog 19 #[.int .i64 a0, v1, .int .i64 a2] w (Ret ⟨Non, w⟩ fun v _ => v = .bool true) := by
  obtain ⟨A', c', rfl, _, _⟩ := ScR.form h1
  have i0 : i64 a0 := i64_bd w0
  obtain ⟨x1, x2⟩ := i64_bd w2
  refine enter (G := ⟨Non, w⟩) (n := 100) 3000 (wf_nonL w) Try.func19 rfl Try.ntmps19 (by simp) ?_
  simp only [go_sem, Nat.reduceAdd, Nat.reduceSub, Nat.reduceMul, Nat.reduceEqDiff, Nat.reduceLT, Nat.reduceLeDiff, Nat.reduceBEq, Nat.reduceBNe, Int.reduceLT, Int.reduceLE, Int.reduceEq, Int.reduceAdd, Int.reduceSub, Int.reduceNeg, reduceCtorEq]
  refine plain_ok (N := 3000) (call_does (fun v _ => v = .agg #[.int .i64 (geoK a0 a0 a0).ring, .int .i64 (geoK a0 a0 a0).area, .int .i64 (geoK a0 a0 a0).hot, .int .i64 (geoK a0 a0 a0).volume, .int .i64 (geoK a0 a0 a0).volumes]) rfl rfl (by kernel_rfl) rfl (by simp only [dOk_some, dOk_none, Nat.reduceLT]) (fun G hG => geometry_does i0 i0 i0 hG.wf)) (QOk_body _ _ _) (by first | exact .inl rfl | exact .inr ⟨_, _, rfl, rfl⟩) ?_
  rintro _ ⟨_, G1, rfl, hn1, rfl⟩
  clear hn1
  have hg := geoK_good a0 a0 a0
  generalize geoK a0 a0 a0 = g at hg
  simp only [go_sem, Nat.reduceAdd, Nat.reduceSub, Nat.reduceMul, Nat.reduceEqDiff, Nat.reduceLT, Nat.reduceLeDiff, Nat.reduceBEq, Nat.reduceBNe, Int.reduceLT, Int.reduceLE, Int.reduceEq, Int.reduceAdd, Int.reduceSub, Int.reduceNeg, reduceCtorEq]
  intro g1
  refine plain_ok (N := 3000) (call_does (fun v G => ∃ dv, v = .tuple #[dv, jrV firstJ, .bool true] ∧ DevG G dv (fmtDev g)) rfl rfl (by kernel_rfl) rfl (by simp only [dOk_some, dOk_none, Nat.reduceLT]) (fun G hG => formatted_does hg hG.wf (tidL hG (by simp) (by simp; decide)))) (QOk_body _ _ _) (by first | exact .inl rfl | exact .inr ⟨_, _, rfl, rfl⟩) ?_
  rintro _ ⟨_, G2, ⟨dv, rfl, hd0⟩, hn2, rfl⟩
  clear hn2
  obtain ⟨hg0, hf0, hc0⟩ := fmtDev_good hg
  have hk0 := fmt_kept hg
  generalize fmtDev g = d0 at hd0 hg0 hf0 hc0 hk0
  obtain ⟨A1, k1, A2, k2, A3, k3, rfl, hfo⟩ := hd0.form
  clear hfo
  have hju : firstJ.gen = 1 ∧ firstJ.epoch = 1 := ⟨rfl, rfl⟩
  have hjv : jrV firstJ = .agg #[.int .i64 firstJ.gen, .int .i64 firstJ.epoch, .int .i64 firstJ.area, .int .i64 firstJ.length, .int .i64 firstJ.start, .int .i64 firstJ.first, .int .i64 firstJ.place, .int .i64 firstJ.next, .int .i64 firstJ.used] := rfl
  rw [hjv]
  clear hjv
  generalize firstJ = j0 at hk0 hju
  simp only [go_sem, Nat.reduceAdd, Nat.reduceSub, Nat.reduceMul, Nat.reduceEqDiff, Nat.reduceLT, Nat.reduceLeDiff, Nat.reduceBEq, Nat.reduceBNe, Int.reduceLT, Int.reduceLE, Int.reduceEq, Int.reduceAdd, Int.reduceSub, Int.reduceNeg, reduceCtorEq]
  intro g2 g3
  refine plain_ok (N := 3000) (call_does (fun v G => ∃ A c, v = .slice A ((l1.take 6).map textOf).length c ∧ Sq StrG 9 1 G (.slice A ((l1.take 6).map textOf).length c) ((l1.take 6).map textOf)) rfl rfl (by kernel_rfl) rfl (by simp only [dOk_some, dOk_none, Nat.reduceLT]) (fun G hG => texts_does (most := 6) (by omega) hG.wf (ScR.mono h1 rawG_mono (hG.le ⟨Non, w⟩ (by simp))))) (QOk_body _ _ _) (by first | exact .inl rfl | exact .inr ⟨_, _, rfl, rfl⟩) ?_
  rintro _ ⟨_, G3, ⟨At, ct, rfl, hts⟩, hn3, rfl⟩
  have hl23 : G2.Le G3 := hn3.le G2 (by simp)
  clear hn3
  obtain ⟨T, hTe⟩ : ∃ T, T = (l1.take 6).map textOf := ⟨_, rfl⟩
  have hT150 : ∀ x ∈ T, x.size ≤ 150 := by
    intro x hx
    rw [hTe] at hx
    obtain ⟨z, _, rfl⟩ := List.mem_map.1 hx
    exact textOf_size z
  have hT12 : T.length ≤ 6 := by rw [hTe, List.length_map, List.length_take]; omega
  rw [← hTe] at hts ⊢
  clear hTe h1
  simp only [go_sem, Nat.reduceAdd, Nat.reduceSub, Nat.reduceMul, Nat.reduceEqDiff, Nat.reduceLT, Nat.reduceLeDiff, Nat.reduceBEq, Nat.reduceBNe, Int.reduceLT, Int.reduceLE, Int.reduceEq, Int.reduceAdd, Int.reduceSub, Int.reduceNeg, reduceCtorEq]
  refine loop_ok (N := 3000) (ι := Nat × Dev × (Option Addr × Nat) × (Option Addr × Nat) × (Option Addr × Nat) × Jr × List (Int × List UInt8) × GW)
    (fun i => match i with | (v, d, (A1, k1), (A2, k2), (A3, k3), j, l, G) => ⟨[(2, .c (.v (.int .i64 a2))), (7, .c (.p 0 g1 0)), (8, .c (.p 1 g2 0)), (9, .c (.p 2 g3 0)), (10, .c (.v (.bool true))), (11, .c (.v (.int .i64 (l.length : Int)))), (34, .c (.v (.slice At T.length ct))), (35, .c (.v (.int .i64 (T.length : Int)))), (36, .c (.v (.int .i64 (v : Int))))],
      [⟨2, g3, 81, [.v (.int .i64 j.gen), .v (.int .i64 j.epoch), .v (.int .i64 j.area), .v (.int .i64 j.length), .v (.int .i64 j.start), .v (.int .i64 j.first), .v (.int .i64 j.place), .v (.int .i64 j.next), .v (.int .i64 j.used)]⟩, ⟨1, g2, 37, [.v (.slice A1 d.safe.length k1), .v (.slice A2 d.cache.length k2), .v (.slice A3 d.vols.length k3), .v (.int .i64 d.fuel)]⟩, ⟨0, g1, 32, [.v (.int .i64 g.ring), .v (.int .i64 g.area), .v (.int .i64 g.hot), .v (.int .i64 g.volume), .v (.int .i64 g.volumes)]⟩], [], [], [G, G3, ⟨Non, w⟩], 3⟩)
    (fun i => match i with | (v, d, (A1, k1), (A2, k2), (A3, k3), j, l, G) => (v ≤ T.length ∧ l.length ≤ v ∧ j.gen = 1 ∧ j.epoch = 1) ∧ (GoodDev g d ∧ d.fuel = -1 ∧ d.cache.length = 0 ∧ Kept g (content d) j [] l 0) ∧ DevG G (.agg #[.slice A1 d.safe.length k1, .slice A2 d.cache.length k2, .slice A3 d.vols.length k3, .int .i64 d.fuel]) d) (fun i => T.length - i.1) (QOk_body _ _ _)
    (0, d0, (A1, k1), (A2, k2), (A3, k3), j0, [], G3) ⟨⟨by omega, by simp, hju.1, hju.2⟩, ⟨hg0, hf0, hc0, hk0⟩, hd0.mono hl23⟩ (by simp only [go_sem, Nat.reduceAdd, Nat.reduceSub, Nat.reduceMul, Nat.reduceEqDiff, Nat.reduceLT, Nat.reduceLeDiff, Nat.reduceBEq, Nat.reduceBNe, Int.reduceLT, Int.reduceLE, Int.reduceEq, Int.reduceAdd, Int.reduceSub, Int.reduceNeg, reduceCtorEq]; simp) ?_
  clear hg0 hf0 hc0 hk0 hd0 hju d0 j0 A1 k1 A2 k2 A3 k3 hl23 G2
  rintro ⟨v, d, ⟨A1, k1⟩, ⟨A2, k2⟩, ⟨A3, k3⟩, j, l, G4⟩ ⟨⟨hv, hlv, hj1, hj2⟩, ⟨hgd, hf, hc, hk⟩, hd⟩
  simp only
  by_cases hlt : v < T.length
  · have q1 : decide ((v : Int) < (T.length : Int)) = true := decide_eq_true (by omega)
    obtain ⟨x, hx⟩ : ∃ x, T[v]? = some x := ⟨_, List.getElem?_eq_getElem hlt⟩
    have hx150 := hT150 x (List.mem_of_getElem? hx)
    have hxl : x.data.toList.length ≤ 150 := by rw [Array.length_toList]; exact hx150
    simp only [go_sem, Nat.reduceAdd, Nat.reduceSub, Nat.reduceMul, Nat.reduceEqDiff, Nat.reduceLT, Nat.reduceLeDiff, Nat.reduceBEq, Nat.reduceBNe, Int.reduceLT, Int.reduceLE, Int.reduceEq, Int.reduceAdd, Int.reduceSub, Int.reduceNeg, reduceCtorEq, q1]
    refine plain_ok (N := 3000) (elem_does (R := StrG) (l := T) (m := v) rfl tySlice93 tySize9 rfl rfl (by simp only [dOk_some, dOk_none, Nat.reduceLT]) rfl hx (fun G hG => Sq.mono hts strG_mono (hG.le G3 (by simp)))) (QOk_body _ _ _) (by first | exact .inl rfl | exact .inr ⟨_, _, rfl, rfl⟩) ?_
    rintro _ ⟨gw, ow, cs, G5, _, rfl, rfl⟩
    simp only [go_sem, Nat.reduceAdd, Nat.reduceSub, Nat.reduceMul, Nat.reduceEqDiff, Nat.reduceLT, Nat.reduceLeDiff, Nat.reduceBEq, Nat.reduceBNe, Int.reduceLT, Int.reduceLE, Int.reduceEq, Int.reduceAdd, Int.reduceSub, Int.reduceNeg, reduceCtorEq]
    refine plain_ok (N := 3000) (bytes_does (e := 5) rfl (tyStr9) (tySlice23) (tyInt5) rfl (by simp only [dOk_some, dOk_none, Nat.reduceLT]) (by omega)) (QOk_body _ _ _) (by first | exact .inl rfl | exact .inr ⟨_, _, rfl, rfl⟩) ?_
    rintro _ ⟨Ab, cb, G6, hby, rfl⟩
    simp only [go_sem, Nat.reduceAdd, Nat.reduceSub, Nat.reduceMul, Nat.reduceEqDiff, Nat.reduceLT, Nat.reduceLeDiff, Nat.reduceBEq, Nat.reduceBNe, Int.reduceLT, Int.reduceLE, Int.reduceEq, Int.reduceAdd, Int.reduceSub, Int.reduceNeg, reduceCtorEq]
    refine plain_ok (N := 3000) (call_does (fun u G => (fullJ g j x.data.toList ∧ u = .tuple #[zeroDev, jrV zeroJr, .int .i64 8]) ∨ (¬ fullJ g j x.data.toList ∧ ∃ dv, u = .tuple #[dv, jrV (moreJ g j x.data.toList), .int .i64 0] ∧ DevG G dv (hFlush (commitTo g d j x.data.toList (cnt x.data.toList))).1)) rfl rfl (by kernel_rfl) rfl (by simp only [dOk_some, dOk_none, Nat.reduceLT]) (fun G hG => commit_does hg hgd hf hc (kept_weak hk) (by omega) hG.wf (tidL hG (by simp) (by simp; decide)) (hd.mono (hG.le G4 (by simp))) (ByG.mono hby (hG.le G6 (by simp))))) (QOk_body _ _ _) (by first | exact .inl rfl | exact .inr ⟨_, _, rfl, rfl⟩) ?_
    rintro _ ⟨_, G7, hC, hn7, rfl⟩
    have hl47 : G4.Le G7 := hn7.le G4 (by simp)
    clear hn7
    rcases hC with ⟨_, rfl⟩ | ⟨hnf, dv, rfl, hd8⟩
    · simp only [go_sem, Nat.reduceAdd, Nat.reduceSub, Nat.reduceMul, Nat.reduceEqDiff, Nat.reduceLT, Nat.reduceLeDiff, Nat.reduceBEq, Nat.reduceBNe, Int.reduceLT, Int.reduceLE, Int.reduceEq, Int.reduceAdd, Int.reduceSub, Int.reduceNeg, reduceCtorEq, zeroDev, jrV, zeroJr]
      intro g5 g6
      exact ⟨by omega, again_ok (v + 1, d, (A1, k1), (A2, k2), (A3, k3), j, l, G7) ⟨⟨by omega, (show l.length ≤ v + 1 by omega), hj1, hj2⟩, ⟨hgd, hf, hc, hk⟩, hd.mono hl47⟩ (by simp only; omega) (by simp only [go_sem, Nat.reduceAdd, Nat.reduceSub, Nat.reduceMul, Nat.reduceEqDiff, Nat.reduceLT, Nat.reduceLeDiff, Nat.reduceBEq, Nat.reduceBNe, Int.reduceLT, Int.reduceLE, Int.reduceEq, Int.reduceAdd, Int.reduceSub, Int.reduceNeg, reduceCtorEq]; simp)⟩
    · obtain ⟨_, hg8, hf8, hc8, hk8⟩ := commit_kept hg hgd hf hc (kept_weak hk) hnf
      generalize (hFlush (commitTo g d j x.data.toList (cnt x.data.toList))).1 = d8 at hd8 hg8 hf8 hc8 hk8
      have hm1 : (moreJ g j x.data.toList).gen = 1 ∧ (moreJ g j x.data.toList).epoch = 1 := ⟨hj1, hj2⟩
      generalize moreJ g j x.data.toList = j8 at hk8 hm1
      obtain ⟨B1, n1, B2, n2, B3, n3, rfl, hfo⟩ := hd8.form
      clear hfo
      have el : ((l.length : Nat) : Int) + 1 = (((l ++ [(j.epoch, x.data.toList)]).length : Nat) : Int) := by rw [List.length_append, List.length_singleton]; omega
      have el2 : (l ++ [(j.epoch, x.data.toList)]).length = l.length + 1 := by rw [List.length_append, List.length_singleton]
      simp only [go_sem, Nat.reduceAdd, Nat.reduceSub, Nat.reduceMul, Nat.reduceEqDiff, Nat.reduceLT, Nat.reduceLeDiff, Nat.reduceBEq, Nat.reduceBNe, Int.reduceLT, Int.reduceLE, Int.reduceEq, Int.reduceAdd, Int.reduceSub, Int.reduceNeg, reduceCtorEq, jrV, el]
      intro g5 g6
      exact ⟨by omega, by omega, again_ok (v + 1, d8, (B1, n1), (B2, n2), (B3, n3), j8, l ++ [(j.epoch, x.data.toList)], G7) ⟨⟨by omega, by rw [el2]; omega, hm1.1, hm1.2⟩, ⟨hg8, hf8, hc8, hk8⟩, hd8⟩ (by simp only; omega) (by simp only [go_sem, Nat.reduceAdd, Nat.reduceSub, Nat.reduceMul, Nat.reduceEqDiff, Nat.reduceLT, Nat.reduceLeDiff, Nat.reduceBEq, Nat.reduceBNe, Int.reduceLT, Int.reduceLE, Int.reduceEq, Int.reduceAdd, Int.reduceSub, Int.reduceNeg, reduceCtorEq]; simp)⟩
  · have q1 : decide ((v : Int) < (T.length : Int)) = false := decide_eq_false (by omega)
    simp only [go_sem, Nat.reduceAdd, Nat.reduceSub, Nat.reduceMul, Nat.reduceEqDiff, Nat.reduceLT, Nat.reduceLeDiff, Nat.reduceBEq, Nat.reduceBNe, Int.reduceLT, Int.reduceLE, Int.reduceEq, Int.reduceAdd, Int.reduceSub, Int.reduceNeg, reduceCtorEq, q1]
    obtain ⟨k, hkp⟩ : ∃ k : Nat, (k : Int) = pick a2 5 := ⟨(pick a2 5).toNat, by have := pick_bd a2 5 (by omega); omega⟩
    have hk5 : k < 5 := by have := pick_bd a2 5 (by omega); omega
    refine loop_ok (N := 3000) (ι := Nat × Dev × (Option Addr × Nat) × (Option Addr × Nat) × (Option Addr × Nat) × Jr × GW)
      (fun i => match i with | (v, d, (A1, k1), (A2, k2), (A3, k3), j, G) => ⟨[(2, .c (.v (.int .i64 a2))), (7, .c (.p 0 g1 0)), (8, .c (.p 1 g2 0)), (9, .c (.p 2 g3 0)), (10, .c (.v (.bool true))), (11, .c (.v (.int .i64 (l.length : Int)))), (17, .c (.v (.int .i64 (v : Int))))],
        [⟨2, g3, 81, [.v (.int .i64 j.gen), .v (.int .i64 j.epoch), .v (.int .i64 j.area), .v (.int .i64 j.length), .v (.int .i64 j.start), .v (.int .i64 j.first), .v (.int .i64 j.place), .v (.int .i64 j.next), .v (.int .i64 j.used)]⟩, ⟨1, g2, 37, [.v (.slice A1 d.safe.length k1), .v (.slice A2 d.cache.length k2), .v (.slice A3 d.vols.length k3), .v (.int .i64 d.fuel)]⟩, ⟨0, g1, 32, [.v (.int .i64 g.ring), .v (.int .i64 g.area), .v (.int .i64 g.hot), .v (.int .i64 g.volume), .v (.int .i64 g.volumes)]⟩], [], [], [G], 3⟩)
      (fun i => match i with | (v, d, (A1, k1), (A2, k2), (A3, k3), j, G) => (v ≤ 1 + k ∧ j.gen = 1 + (v : Int) ∧ j.epoch = 1 + (v : Int)) ∧ (GoodDev g d ∧ d.fuel = -1 ∧ d.cache.length = 0 ∧ Kept g (content d) j [] l 0) ∧ DevG G (.agg #[.slice A1 d.safe.length k1, .slice A2 d.cache.length k2, .slice A3 d.vols.length k3, .int .i64 d.fuel]) d) (fun i => 1 + k - i.1) (QOk_body _ _ _)
      (0, d, (A1, k1), (A2, k2), (A3, k3), j, G4) ⟨⟨by omega, by omega, by omega⟩, ⟨hgd, hf, hc, hk⟩, hd⟩ (by simp only [go_sem, Nat.reduceAdd, Nat.reduceSub, Nat.reduceMul, Nat.reduceEqDiff, Nat.reduceLT, Nat.reduceLeDiff, Nat.reduceBEq, Nat.reduceBNe, Int.reduceLT, Int.reduceLE, Int.reduceEq, Int.reduceAdd, Int.reduceSub, Int.reduceNeg, reduceCtorEq]; simp) ?_
    clear hgd hf hc hk hd hj1 hj2 d j A1 k1 A2 k2 A3 k3 G4
    rintro ⟨i, d, ⟨A1, k1⟩, ⟨A2, k2⟩, ⟨A3, k3⟩, j, G4⟩ ⟨⟨hi, hj1, hj2⟩, ⟨hgd, hf, hc, hk⟩, hd⟩
    simp only
    simp only [go_sem, Nat.reduceAdd, Nat.reduceSub, Nat.reduceMul, Nat.reduceEqDiff, Nat.reduceLT, Nat.reduceLeDiff, Nat.reduceBEq, Nat.reduceBNe, Int.reduceLT, Int.reduceLE, Int.reduceEq, Int.reduceAdd, Int.reduceSub, Int.reduceNeg, reduceCtorEq]
    refine plain_ok (N := 3000) (call_does (fun u _ => u = .int .i64 (k : Int)) rfl rfl (by kernel_rfl) rfl (by simp only [dOk_some, dOk_none, Nat.reduceLT]) (fun G hG => ret_mono (picked_does x1 x2 (by omega) (by omega)) fun u G' _ h => by obtain ⟨k', e1, _, rfl⟩ := h; rw [e1, hkp])) (QOk_body _ _ _) (by first | exact .inl rfl | exact .inr ⟨_, _, rfl, rfl⟩) ?_
    rintro _ ⟨_, G5, rfl, hn5, rfl⟩
    have hl45 : G4.Le G5 := hn5.le G4 (by simp)
    clear hn5
    by_cases hik : i < 1 + k
    · have s1 : decide ((i : Int) < 1 + (k : Int)) = true := decide_eq_true (by omega)
      simp only [go_sem, Nat.reduceAdd, Nat.reduceSub, Nat.reduceMul, Nat.reduceEqDiff, Nat.reduceLT, Nat.reduceLeDiff, Nat.reduceBEq, Nat.reduceBNe, Int.reduceLT, Int.reduceLE, Int.reduceEq, Int.reduceAdd, Int.reduceSub, Int.reduceNeg, reduceCtorEq, s1]
      refine ⟨by omega, ?_⟩
      have hk1 := kept_crash hg hgd hc [] hk
      refine plain_ok (N := 3000) (call_does (fun u G => ∃ dv A c A2 c2, u = .tuple #[dv, jrV (upJ j), .slice A 0 c, .slice A2 l.length c2, .bool true] ∧ DevG G dv (backX d [] j)) rfl rfl (by kernel_rfl) rfl (by simp only [dOk_some, dOk_none, Nat.reduceLT]) (fun G hG => ret_mono (opened_does (keep := []) hg hgd hk1 (hk1.stops _) (by omega) (by omega) hG.wf (tidL hG (by simp) (by simp; decide)) (hd.mono (hG.le G4 (by simp))) (bools_none G)) fun u G' _ h => by obtain ⟨dv, A, c, A2, c2, e, h1, _, h3⟩ := h; exact ⟨dv, A, c, A2, c2, e, h1⟩)) (QOk_body _ _ _) (by first | exact .inl rfl | exact .inr ⟨_, _, rfl, rfl⟩) ?_
      rintro _ ⟨_, G7, ⟨dv, Ao, co, Aa, ca, rfl, hd7⟩, hn7, rfl⟩
      clear hn7
      obtain ⟨hk7, hg7, hf7, hc7⟩ := back_kept hg hgd [] hk1 (by omega) (by omega)
      generalize backX d [] j = d7 at hd7 hk7 hg7 hf7 hc7
      obtain ⟨E1, m1, E2, m2, E3, m3, rfl, hfo⟩ := hd7.form
      clear hfo
      have r1 : decide (((l.length : Nat) : Int) = ((l.length : Nat) : Int)) = true := decide_eq_true rfl
      have r2 : decide (j.epoch + 1 = j.epoch + 1) = true := decide_eq_true rfl
      have r3 : decide (j.gen + 1 = j.gen + 1) = true := decide_eq_true rfl
      simp only [go_sem, Nat.reduceAdd, Nat.reduceSub, Nat.reduceMul, Nat.reduceEqDiff, Nat.reduceLT, Nat.reduceLeDiff, Nat.reduceBEq, Nat.reduceBNe, Int.reduceLT, Int.reduceLE, Int.reduceEq, Int.reduceAdd, Int.reduceSub, Int.reduceNeg, reduceCtorEq, jrV, upJ, r1, r2, r3]
      intro g5 g6
      repeat (refine And.intro (by omega) ?_)
      exact again_ok (i + 1, d7, (E1, m1), (E2, m2), (E3, m3), upJ j, G7) ⟨⟨by omega, by show j.gen + 1 = 1 + ((i + 1 : Nat) : Int); omega, by show j.epoch + 1 = 1 + ((i + 1 : Nat) : Int); omega⟩, ⟨hg7, hf7, hc7, hk7⟩, hd7⟩ (by simp only; omega) (by simp only [go_sem, Nat.reduceAdd, Nat.reduceSub, Nat.reduceMul, Nat.reduceEqDiff, Nat.reduceLT, Nat.reduceLeDiff, Nat.reduceBEq, Nat.reduceBNe, Int.reduceLT, Int.reduceLE, Int.reduceEq, Int.reduceAdd, Int.reduceSub, Int.reduceNeg, reduceCtorEq, upJ]; simp)
    · have s1 : decide ((i : Int) < 1 + (k : Int)) = false := decide_eq_false (by omega)
      simp only [go_sem, Nat.reduceAdd, Nat.reduceSub, Nat.reduceMul, Nat.reduceEqDiff, Nat.reduceLT, Nat.reduceLeDiff, Nat.reduceBEq, Nat.reduceBNe, Int.reduceLT, Int.reduceLE, Int.reduceEq, Int.reduceAdd, Int.reduceSub, Int.reduceNeg, reduceCtorEq, s1]
      refine ⟨by omega, ?_⟩
      refine fin_ret (G := ⟨Non, w⟩) Try.results19 ?_
      simp only [go_sem, Nat.reduceAdd, Nat.reduceSub, Nat.reduceMul, Nat.reduceEqDiff, Nat.reduceLT, Nat.reduceLeDiff, Nat.reduceBEq, Nat.reduceBNe, Int.reduceLT, Int.reduceLE, Int.reduceEq, Int.reduceAdd, Int.reduceSub, Int.reduceNeg, reduceCtorEq]
      intro aa w' _ _
      rfl
theorem openOften_walk {w : World} (a0 : Int) (w0 : (Lit.int .i64 a0).wf = true) (v1 : Value) (l1 : List Raw) (h1 : RawsG ⟨Non, w⟩ v1 l1) (a2 : Int) (w2 : (Lit.int .i64 a2).wf = true) :
    Calls Try.prog 19 #[.int .i64 a0, v1, .int .i64 a2] w fun e w' => e = .returned (.bool true) ∧ Below w.heap.size w w' :=
  (openOften_ret a0 w0 v1 l1 h1 a2 w2).mono fun e w' ⟨v, he, hv, hc⟩ => ⟨by rw [he, hv], hc.below⟩
end Go.Proofs.Ytomfladifefomaa
