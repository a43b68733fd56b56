/- 'icehousekeep.CommitFound' returns true for every int, slice of raw things and slice of booleans. Conditions: none. -/
import Derived.Test.YtomfladifefomaaN12
import Derived.Test.YtomfladifefomaaU18
namespace Go.Proofs.Ytomfladifefomaa
open Go.RowKit
set_option linter.unusedSimpArgs false
theorem commit_does {g : Geo} (hg : GoodGeo g) {d : Dev} (hd : GoodDev g d) (hf : d.fuel = -1) (hc : d.cache.length = 0) {j : Jr} {b snap : List UInt8} {l : List (Int × List UInt8)} (hk : Kept g (content d) j snap l 1) (hbl : b.length ≤ 5000) {dv bv : Value} {G0 : GW} (hW : G0.Wf) (hT : Tid bX G0) (h : DevG G0 dv d) (hb : ByG G0 bv b) :
    Calls Try.prog 50 #[geoV g, dv, jrV j, bv] G0.w (Ret G0 fun v G => (fullJ g j b ∧ v = .tuple #[zeroDev, jrV zeroJr, .int .i64 8]) ∨ (¬ fullJ g j b ∧ ∃ dv, v = .tuple #[dv, jrV (moreJ g j b), .int .i64 0] ∧ DevG G dv (hFlush (commitTo g d j b (cnt b))).1)) :=
  ret_mono (commit_any hg hd hk.ok hbl hW hT h hb) fun _ _ _ h => h.imp id fun ⟨h1, h2⟩ => ⟨h1, handE_good h2 (commit_kept hg hd hf hc hk h1).1⟩
theorem bytes_back (x : ByteArray) : (⟨x.data.toList.toArray⟩ : ByteArray) = x := by simp
set_option maxRecDepth 100000 in
set_option maxHeartbeats 32000000 in
theorem commitFound_ret {w : World} (a0 : Int) (w0 : (Lit.int .i64 a0).wf = true) (v1 : Value) (l1 : List Raw) (h1 : RawsG ⟨Non, w⟩ v1 l1) (v2 : Value) (keep : List Bool) (h2 : BoolsG ⟨Non, w⟩ v2 keep) :
    Calls Try.prog 18 #[.int .i64 a0, v1, v2] w (Ret ⟨Non, w⟩ fun v _ => v = .bool true) := by
  obtain ⟨A', c', rfl, _, _⟩ := ScR.form h1
  obtain ⟨A'', c'', rfl, _, _⟩ := ScR.form h2
  have i0 : i64 a0 := i64_bd w0
  refine enter (G := ⟨Non, w⟩) (n := 114) 3000 (wf_nonL w) Try.func18 rfl Try.ntmps18 (by simp) ?_
  simp only [go_sem, Nat.reduceAdd, Nat.reduceSub, Nat.reduceMul, Nat.reduceEqDiff, Nat.reduceLT, Nat.reduceLeDiff, Nat.reduceBEq, Nat.reduceBNe, Int.reduceLT, Int.reduceLE, Int.reduceEq, Int.reduceAdd, Int.reduceSub, Int.reduceNeg, reduceCtorEq]
  refine plain_ok (N := 3000) (call_does (fun v _ => v = .agg #[.int .i64 (geoK a0 a0 a0).ring, .int .i64 (geoK a0 a0 a0).area, .int .i64 (geoK a0 a0 a0).hot, .int .i64 (geoK a0 a0 a0).volume, .int .i64 (geoK a0 a0 a0).volumes]) rfl rfl (by kernel_rfl) rfl (by simp only [dOk_some, dOk_none, Nat.reduceLT]) (fun G hG => geometry_does i0 i0 i0 hG.wf)) (QOk_body _ _ _) (by first | exact .inl rfl | exact .inr ⟨_, _, rfl, rfl⟩) ?_
  rintro _ ⟨_, G1, rfl, hn1, rfl⟩
  clear hn1
  have hg := geoK_good a0 a0 a0
  generalize geoK a0 a0 a0 = g at hg
  simp only [go_sem, Nat.reduceAdd, Nat.reduceSub, Nat.reduceMul, Nat.reduceEqDiff, Nat.reduceLT, Nat.reduceLeDiff, Nat.reduceBEq, Nat.reduceBNe, Int.reduceLT, Int.reduceLE, Int.reduceEq, Int.reduceAdd, Int.reduceSub, Int.reduceNeg, reduceCtorEq]
  intro g1
  refine plain_ok (N := 3000) (call_does (fun v G => ∃ dv, v = .tuple #[dv, jrV firstJ, .bool true] ∧ DevG G dv (fmtDev g)) rfl rfl (by kernel_rfl) rfl (by simp only [dOk_some, dOk_none, Nat.reduceLT]) (fun G hG => formatted_does hg hG.wf (tidL hG (by simp) (by simp; decide)))) (QOk_body _ _ _) (by first | exact .inl rfl | exact .inr ⟨_, _, rfl, rfl⟩) ?_
  rintro _ ⟨_, G2, ⟨dv, rfl, hd0⟩, hn2, rfl⟩
  clear hn2
  obtain ⟨hg0, hf0, hc0⟩ := fmtDev_good hg
  have hk0 := fmt_kept hg
  generalize fmtDev g = d0 at hd0 hg0 hf0 hc0 hk0
  obtain ⟨A1, k1, A2, k2, A3, k3, rfl, hfo⟩ := hd0.form
  clear hfo
  have hju : firstJ.gen = 1 ∧ firstJ.epoch = 1 := ⟨rfl, rfl⟩
  have hjv : jrV firstJ = .agg #[.int .i64 firstJ.gen, .int .i64 firstJ.epoch, .int .i64 firstJ.area, .int .i64 firstJ.length, .int .i64 firstJ.start, .int .i64 firstJ.first, .int .i64 firstJ.place, .int .i64 firstJ.next, .int .i64 firstJ.used] := rfl
  rw [hjv]
  clear hjv
  generalize firstJ = j0 at hk0 hju
  simp only [go_sem, Nat.reduceAdd, Nat.reduceSub, Nat.reduceMul, Nat.reduceEqDiff, Nat.reduceLT, Nat.reduceLeDiff, Nat.reduceBEq, Nat.reduceBNe, Int.reduceLT, Int.reduceLE, Int.reduceEq, Int.reduceAdd, Int.reduceSub, Int.reduceNeg, reduceCtorEq]
  intro g2 g3
  refine row_ok 9 1 ?_
  simp only [go_sem, Nat.reduceAdd, Nat.reduceSub, Nat.reduceMul, Nat.reduceEqDiff, Nat.reduceLT, Nat.reduceLeDiff, Nat.reduceBEq, Nat.reduceBNe, Int.reduceLT, Int.reduceLE, Int.reduceEq, Int.reduceAdd, Int.reduceSub, Int.reduceNeg, reduceCtorEq]
  refine plain_ok (N := 3000) (call_does (fun v G => ∃ A c, v = .slice A ((l1.take 12).map textOf).length c ∧ Sq StrG 9 1 G (.slice A ((l1.take 12).map textOf).length c) ((l1.take 12).map textOf)) rfl rfl (by kernel_rfl) rfl (by simp only [dOk_some, dOk_none, Nat.reduceLT]) (fun G hG => texts_does (most := 12) (by omega) hG.wf (ScR.mono h1 rawG_mono (hG.le ⟨Non, w⟩ (by simp))))) (QOk_body _ _ _) (by first | exact .inl rfl | exact .inr ⟨_, _, rfl, rfl⟩) ?_
  rintro _ ⟨_, G3, ⟨At, ct, rfl, hts⟩, hn3, rfl⟩
  have hl23 : G2.Le G3 := hn3.le G2 (by simp)
  clear hn3
  obtain ⟨T, hTe⟩ : ∃ T, T = (l1.take 12).map textOf := ⟨_, rfl⟩
  have hT150 : ∀ x ∈ T, x.size ≤ 150 := by
    intro x hx
    rw [hTe] at hx
    obtain ⟨z, _, rfl⟩ := List.mem_map.1 hx
    exact textOf_size z
  have hT12 : T.length ≤ 12 := by rw [hTe, List.length_map, List.length_take]; omega
  rw [← hTe] at hts ⊢
  clear hTe h1
  simp only [go_sem, Nat.reduceAdd, Nat.reduceSub, Nat.reduceMul, Nat.reduceEqDiff, Nat.reduceLT, Nat.reduceLeDiff, Nat.reduceBEq, Nat.reduceBNe, Int.reduceLT, Int.reduceLE, Int.reduceEq, Int.reduceAdd, Int.reduceSub, Int.reduceNeg, reduceCtorEq]
  refine loop_ok (N := 3000) (ι := Nat × Dev × (Option Addr × Nat) × (Option Addr × Nat) × (Option Addr × Nat) × Jr × List (Int × List UInt8) × (Option Addr × Nat) × GW)
    (fun i => match i with | (v, d, (A1, k1), (A2, k2), (A3, k3), j, l, (W, wc), G) => ⟨[(2, .c (.v (.slice A'' keep.length c''))), (7, .c (.p 0 g1 0)), (8, .c (.p 1 g2 0)), (9, .c (.p 2 g3 0)), (10, .c (.v (.bool true))), (11, .c (.v (.slice W v wc))), (34, .c (.v (.slice At T.length ct))), (35, .c (.v (.int .i64 (T.length : Int)))), (36, .c (.v (.int .i64 (v : Int))))],
      [⟨2, g3, 81, [.v (.int .i64 j.gen), .v (.int .i64 j.epoch), .v (.int .i64 j.area), .v (.int .i64 j.length), .v (.int .i64 j.start), .v (.int .i64 j.first), .v (.int .i64 j.place), .v (.int .i64 j.next), .v (.int .i64 j.used)]⟩, ⟨1, g2, 37, [.v (.slice A1 d.safe.length k1), .v (.slice A2 d.cache.length k2), .v (.slice A3 d.vols.length k3), .v (.int .i64 d.fuel)]⟩, ⟨0, g1, 32, [.v (.int .i64 g.ring), .v (.int .i64 g.area), .v (.int .i64 g.hot), .v (.int .i64 g.volume), .v (.int .i64 g.volumes)]⟩], [⟨.slice W v wc, 9, 1, v, (T.take v).map Value.string⟩], [], [G, G3, ⟨Non, w⟩], 3⟩)
    (fun i => match i with | (v, d, (A1, k1), (A2, k2), (A3, k3), j, l, _, G) => (v ≤ T.length ∧ l.map (·.2) = (T.take v).map (fun x => x.data.toList) ∧ j.gen = 1 ∧ j.epoch = 1) ∧ (GoodDev g d ∧ d.fuel = -1 ∧ d.cache.length = 0 ∧ Kept g (content d) j [] l 0) ∧ DevG G (.agg #[.slice A1 d.safe.length k1, .slice A2 d.cache.length k2, .slice A3 d.vols.length k3, .int .i64 d.fuel]) d) (fun i => T.length - i.1) (QOk_body _ _ _)
    (0, d0, (A1, k1), (A2, k2), (A3, k3), j0, [], (none, 0), G3) ⟨⟨by omega, rfl, hju.1, hju.2⟩, ⟨hg0, hf0, hc0, hk0⟩, hd0.mono hl23⟩ (by simp only [go_sem, Nat.reduceAdd, Nat.reduceSub, Nat.reduceMul, Nat.reduceEqDiff, Nat.reduceLT, Nat.reduceLeDiff, Nat.reduceBEq, Nat.reduceBNe, Int.reduceLT, Int.reduceLE, Int.reduceEq, Int.reduceAdd, Int.reduceSub, Int.reduceNeg, reduceCtorEq]; simp) ?_
  clear hg0 hf0 hc0 hk0 hd0 hju d0 j0 A1 k1 A2 k2 A3 k3 hl23 G2
  rintro ⟨v, d, ⟨A1, k1⟩, ⟨A2, k2⟩, ⟨A3, k3⟩, j, l, ⟨W, wc⟩, G4⟩ ⟨⟨hv, hlT, hj1, hj2⟩, ⟨hgd, hf, hc, hk⟩, hd⟩
  simp only
  have hlen : l.length = v := by
    have := congrArg List.length hlT
    rw [List.length_map, List.length_map, List.length_take] at this
    omega
  by_cases hlt : v < T.length
  · have q1 : decide ((v : Int) < (T.length : Int)) = true := decide_eq_true (by omega)
    obtain ⟨x, hx⟩ : ∃ x, T[v]? = some x := ⟨_, List.getElem?_eq_getElem hlt⟩
    have hx150 := hT150 x (List.mem_of_getElem? hx)
    have hxl : x.data.toList.length ≤ 150 := by rw [Array.length_toList]; exact hx150
    simp only [go_sem, Nat.reduceAdd, Nat.reduceSub, Nat.reduceMul, Nat.reduceEqDiff, Nat.reduceLT, Nat.reduceLeDiff, Nat.reduceBEq, Nat.reduceBNe, Int.reduceLT, Int.reduceLE, Int.reduceEq, Int.reduceAdd, Int.reduceSub, Int.reduceNeg, reduceCtorEq, q1]
    refine plain_ok (N := 3000) (elem_does (R := StrG) (l := T) (m := v) rfl tySlice93 tySize9 rfl rfl (by simp only [dOk_some, dOk_none, Nat.reduceLT]) rfl hx (fun G hG => Sq.mono hts strG_mono (hG.le G3 (by simp)))) (QOk_body _ _ _) (by first | exact .inl rfl | exact .inr ⟨_, _, rfl, rfl⟩) ?_
    rintro _ ⟨gw, ow, cs, G5, _, rfl, rfl⟩
    simp only [go_sem, Nat.reduceAdd, Nat.reduceSub, Nat.reduceMul, Nat.reduceEqDiff, Nat.reduceLT, Nat.reduceLeDiff, Nat.reduceBEq, Nat.reduceBNe, Int.reduceLT, Int.reduceLE, Int.reduceEq, Int.reduceAdd, Int.reduceSub, Int.reduceNeg, reduceCtorEq]
    refine plain_ok (N := 3000) (bytes_does (e := 5) rfl (tyStr9) (tySlice23) (tyInt5) rfl (by simp only [dOk_some, dOk_none, Nat.reduceLT]) (by omega)) (QOk_body _ _ _) (by first | exact .inl rfl | exact .inr ⟨_, _, rfl, rfl⟩) ?_
    rintro _ ⟨Ab, cb, G6, hby, rfl⟩
    simp only [go_sem, Nat.reduceAdd, Nat.reduceSub, Nat.reduceMul, Nat.reduceEqDiff, Nat.reduceLT, Nat.reduceLeDiff, Nat.reduceBEq, Nat.reduceBNe, Int.reduceLT, Int.reduceLE, Int.reduceEq, Int.reduceAdd, Int.reduceSub, Int.reduceNeg, reduceCtorEq]
    refine plain_ok (N := 3000) (call_does (fun u G => (fullJ g j x.data.toList ∧ u = .tuple #[zeroDev, jrV zeroJr, .int .i64 8]) ∨ (¬ fullJ g j x.data.toList ∧ ∃ dv, u = .tuple #[dv, jrV (moreJ g j x.data.toList), .int .i64 0] ∧ DevG G dv (hFlush (commitTo g d j x.data.toList (cnt x.data.toList))).1)) rfl rfl (by kernel_rfl) rfl (by simp only [dOk_some, dOk_none, Nat.reduceLT]) (fun G hG => commit_does hg hgd hf hc (kept_weak hk) (by omega) hG.wf (tidL hG (by simp; decide) (by simp; decide)) (hd.mono (hG.le G4 (by simp))) (ByG.mono hby (hG.le G6 (by simp))))) (QOk_body _ _ _) (by first | exact .inl rfl | exact .inr ⟨_, _, rfl, rfl⟩) ?_
    rintro _ ⟨_, G7, hC, hn7, rfl⟩
    clear hn7
    rcases hC with ⟨_, rfl⟩ | ⟨hnf, dv, rfl, hd8⟩
    · simp only [go_sem, Nat.reduceAdd, Nat.reduceSub, Nat.reduceMul, Nat.reduceEqDiff, Nat.reduceLT, Nat.reduceLeDiff, Nat.reduceBEq, Nat.reduceBNe, Int.reduceLT, Int.reduceLE, Int.reduceEq, Int.reduceAdd, Int.reduceSub, Int.reduceNeg, reduceCtorEq, zeroDev, jrV, zeroJr]
      intro g5 g6
      have hk1 := kept_crash hg hgd hc keep hk
      refine plain_ok (N := 3000) (call_does (fun u G => ∃ dv A c A2 c2, u = .tuple #[dv, jrV (upJ j), .slice A 0 c, .slice A2 v c2, .bool true] ∧ DevG G dv (backX d keep j) ∧ SafG G (.slice A2 v c2) ((T.take v).map (fun x => x.data.toList))) rfl rfl (by kernel_rfl) rfl (by simp only [dOk_some, dOk_none, Nat.reduceLT]) (fun G hG => ret_mono (opened_does (keep := keep) hg hgd hk1 (hk1.stops _) (by omega) (by omega) hG.wf (tidL hG (by simp; decide) (by simp; decide)) (hd.mono (hG.le G4 (by simp))) (ScR.mono h2 boolG_mono (hG.le ⟨Non, w⟩ (by simp)))) fun u G' _ h => by obtain ⟨dv, A, c, A2, c2, e, h1, _, h3⟩ := h; rw [hlT, hlen] at h3; rw [hlen] at e; exact ⟨dv, A, c, A2, c2, e, h1, h3⟩)) (QOk_body _ _ _) (by first | exact .inl rfl | exact .inr ⟨_, _, rfl, rfl⟩) ?_
      rintro _ ⟨_, G7, ⟨dv, Ao, co, Aa, ca, rfl, hd7, hal⟩, hn7, rfl⟩
      clear hn7
      obtain ⟨E1, m1, E2, m2, E3, m3, rfl, hfo⟩ := hd7.form
      clear hfo
      have r1 : decide (((v : Nat) : Int) = ((v : Nat) : Int)) = true := decide_eq_true rfl
      have r2 : decide (j.next = j.next) = true := decide_eq_true rfl
      have r3 : decide (j.place = j.place) = true := decide_eq_true rfl
      simp only [go_sem, Nat.reduceAdd, Nat.reduceSub, Nat.reduceMul, Nat.reduceEqDiff, Nat.reduceLT, Nat.reduceLeDiff, Nat.reduceBEq, Nat.reduceBNe, Int.reduceLT, Int.reduceLE, Int.reduceEq, Int.reduceAdd, Int.reduceSub, Int.reduceNeg, reduceCtorEq, jrV, upJ, r1, r2, r3]
      intro g8 g9
      refine read_ok (R1 := []) rfl fun G8 hle8 hs8 => ?_
      have hal8 := Sq.mono hal rowG_mono (hle8 G7 (by simp))
      have htl : (T.take v).length = v := by rw [List.length_take]; omega
      have hW8 : Sq StrG 9 1 G8 (.slice W v wc) (T.take v) := str_of (by rw [htl]; exact hs8)
      simp only [go_sem, Nat.reduceAdd, Nat.reduceSub, Nat.reduceMul, Nat.reduceEqDiff, Nat.reduceLT, Nat.reduceLeDiff, Nat.reduceBEq, Nat.reduceBNe, Int.reduceLT, Int.reduceLE, Int.reduceEq, Int.reduceAdd, Int.reduceSub, Int.reduceNeg, reduceCtorEq]
      refine loop_ok (N := 3000) (ι := Nat × GW)
        (fun i => match i with | (i, G) => ⟨[(11, .c (.v (.slice W v wc))), (20, .c (.v (.slice Aa v ca))), (99, .c (.v (.int .i64 (v : Int)))), (100, .c (.v (.int .i64 (i : Int))))], [], [], [], [G], 9⟩)
        (fun i => match i with | (i, G) => i ≤ v ∧ Sq StrG 9 1 G (.slice W v wc) (T.take v) ∧ SafG G (.slice Aa v ca) ((T.take v).map (fun x => x.data.toList))) (fun i => v - i.1) (QOk_body _ _ _) (0, G8) ⟨by omega, hW8, hal8⟩ (by simp only [go_sem, Nat.reduceAdd, Nat.reduceSub, Nat.reduceMul, Nat.reduceEqDiff, Nat.reduceLT, Nat.reduceLeDiff, Nat.reduceBEq, Nat.reduceBNe, Int.reduceLT, Int.reduceLE, Int.reduceEq, Int.reduceAdd, Int.reduceSub, Int.reduceNeg, reduceCtorEq]; simp) ?_
      clear hW8 hal8 hal hle8 hs8
      rintro ⟨i, G8⟩ ⟨hi, hW8, hal8⟩
      simp only
      by_cases hiv : i < v
      · have s1 : decide ((i : Int) < (v : Int)) = true := decide_eq_true (by omega)
        obtain ⟨y, hy⟩ : ∃ y, (T.take v)[i]? = some y := ⟨_, List.getElem?_eq_getElem (by omega)⟩
        have hy2 : ((T.take v).map (fun x => x.data.toList))[i]? = some y.data.toList := by rw [List.getElem?_map, hy]; rfl
        simp only [go_sem, Nat.reduceAdd, Nat.reduceSub, Nat.reduceMul, Nat.reduceEqDiff, Nat.reduceLT, Nat.reduceLeDiff, Nat.reduceBEq, Nat.reduceBNe, Int.reduceLT, Int.reduceLE, Int.reduceEq, Int.reduceAdd, Int.reduceSub, Int.reduceNeg, reduceCtorEq, s1]
        refine preview_ok (R := RowG) (kc := 1) hy2 (fun G hG => (Sq.mono hal8 rowG_mono (hG G8 (by simp))).sc) fun ga oa csa Ga hA _ hca hlea => ?_
        subst hA
        clear hlea
        obtain ⟨Abb, cbb, rfl, hbb⟩ := rowcell hca
        simp only [go_sem, Nat.reduceAdd, Nat.reduceSub, Nat.reduceMul, Nat.reduceEqDiff, Nat.reduceLT, Nat.reduceLeDiff, Nat.reduceBEq, Nat.reduceBNe, Int.reduceLT, Int.reduceLE, Int.reduceEq, Int.reduceAdd, Int.reduceSub, Int.reduceNeg, reduceCtorEq]
        refine preview_ok (R := StrG) (kc := 1) hy (fun G hG => (Sq.mono hW8 strG_mono (hG G8 (by simp))).sc) fun gb ob csb Gb hB _ hcb hleb => ?_
        subst hB
        clear hleb
        obtain rfl := hcb
        simp only [go_sem, Nat.reduceAdd, Nat.reduceSub, Nat.reduceMul, Nat.reduceEqDiff, Nat.reduceLT, Nat.reduceLeDiff, Nat.reduceBEq, Nat.reduceBNe, Int.reduceLT, Int.reduceLE, Int.reduceEq, Int.reduceAdd, Int.reduceSub, Int.reduceNeg, reduceCtorEq]
        refine draw_ok (N := 3000) (.take 0 (.take 1 (.take 2 (.take 3 (.take 5 (.take 6 (.take 7 (.take 8 (.alt 4 (.take 9 .done) .last))))))))) [] (QOk_body _ _ _) follows_mixed (by kernel_rfl) (by kernel_rfl) ?_
        simp only [go_sem, Nat.reduceAdd, Nat.reduceSub, Nat.reduceMul, Nat.reduceEqDiff, Nat.reduceLT, Nat.reduceLeDiff, Nat.reduceBEq, Nat.reduceBNe, Int.reduceLT, Int.reduceLE, Int.reduceEq, Int.reduceAdd, Int.reduceSub, Int.reduceNeg, reduceCtorEq]
        refine take_elem 9 (m := i) rfl tySlice29 tySize23 rfl rfl (by simp only [dOk_some, dOk_none, Nat.reduceLT]) rfl (by omega) ?_
        simp only [go_sem, Nat.reduceAdd, Nat.reduceSub, Nat.reduceMul, Nat.reduceEqDiff, Nat.reduceLT, Nat.reduceLeDiff, Nat.reduceBEq, Nat.reduceBNe, Int.reduceLT, Int.reduceLE, Int.reduceEq, Int.reduceAdd, Int.reduceSub, Int.reduceNeg, reduceCtorEq]
        refine take_elem 10 (m := i) rfl tySlice93 tySize9 rfl rfl (by simp only [dOk_some, dOk_none, Nat.reduceLT]) rfl (by omega) ?_
        simp only [go_sem, Nat.reduceAdd, Nat.reduceSub, Nat.reduceMul, Nat.reduceEqDiff, Nat.reduceLT, Nat.reduceLeDiff, Nat.reduceBEq, Nat.reduceBNe, Int.reduceLT, Int.reduceLE, Int.reduceEq, Int.reduceAdd, Int.reduceSub, Int.reduceNeg, reduceCtorEq]
        refine any_ok2 (N := 3000) (text_does (bs := y.data.toList) (e := 5) rfl tyStr9 tySlice23 tyInt5 rfl (by simp only [dOk_some, dOk_none, Nat.reduceLT]) (fun G hG => hbb.mono (hG.le Ga (by simp)))) (QOk_body _ _ _) rfl (by first | exact .inl rfl | exact .inr ⟨_, _, rfl, rfl⟩) (by intro _ hK; first | (obtain ⟨_, _, _, _, rfl⟩ := hK; exact ⟨rfl, fun _ h => h⟩) | (obtain ⟨_, _, rfl⟩ := hK; exact ⟨rfl, fun _ h => h⟩) | (obtain ⟨_, _, _, _, _, _, rfl⟩ := hK; exact ⟨rfl, fun _ h => List.mem_cons_of_mem _ h⟩) | (obtain ⟨_, _, _, _, _, _, _, rfl⟩ := hK; exact ⟨rfl, fun _ h => List.mem_cons_of_mem _ h⟩) | (obtain rfl := hK; exact ⟨rfl, fun _ h => h⟩)) ?_
        rintro _ rfl
        rw [bytes_back]
        simp only [go_sem, Nat.reduceAdd, Nat.reduceSub, Nat.reduceMul, Nat.reduceEqDiff, Nat.reduceLT, Nat.reduceLeDiff, Nat.reduceBEq, Nat.reduceBNe, Int.reduceLT, Int.reduceLE, Int.reduceEq, Int.reduceAdd, Int.reduceSub, Int.reduceNeg, reduceCtorEq]
        exact ⟨by omega, again_ok (i + 1, G8) ⟨by omega, hW8, hal8⟩ (by simp only; omega) (by simp only [go_sem, Nat.reduceAdd, Nat.reduceSub, Nat.reduceMul, Nat.reduceEqDiff, Nat.reduceLT, Nat.reduceLeDiff, Nat.reduceBEq, Nat.reduceBNe, Int.reduceLT, Int.reduceLE, Int.reduceEq, Int.reduceAdd, Int.reduceSub, Int.reduceNeg, reduceCtorEq]; simp)⟩
      · have s1 : decide ((i : Int) < (v : Int)) = false := decide_eq_false (by omega)
        simp only [go_sem, Nat.reduceAdd, Nat.reduceSub, Nat.reduceMul, Nat.reduceEqDiff, Nat.reduceLT, Nat.reduceLeDiff, Nat.reduceBEq, Nat.reduceBNe, Int.reduceLT, Int.reduceLE, Int.reduceEq, Int.reduceAdd, Int.reduceSub, Int.reduceNeg, reduceCtorEq, s1]
        refine fin_ret (G := ⟨Non, w⟩) Try.results18 ?_
        simp only [go_sem, Nat.reduceAdd, Nat.reduceSub, Nat.reduceMul, Nat.reduceEqDiff, Nat.reduceLT, Nat.reduceLeDiff, Nat.reduceBEq, Nat.reduceBNe, Int.reduceLT, Int.reduceLE, Int.reduceEq, Int.reduceAdd, Int.reduceSub, Int.reduceNeg, reduceCtorEq]
        intro aa w' _ _
        rfl
    · obtain ⟨_, hg8, hf8, hc8, hk8⟩ := commit_kept hg hgd hf hc (kept_weak hk) hnf
      generalize (hFlush (commitTo g d j x.data.toList (cnt x.data.toList))).1 = d8 at hd8 hg8 hf8 hc8 hk8
      have hm1 : (moreJ g j x.data.toList).gen = 1 ∧ (moreJ g j x.data.toList).epoch = 1 := ⟨hj1, hj2⟩
      generalize moreJ g j x.data.toList = j8 at hk8 hm1
      obtain ⟨B1, n1, B2, n2, B3, n3, rfl, hfo⟩ := hd8.form
      clear hfo
      simp only [go_sem, Nat.reduceAdd, Nat.reduceSub, Nat.reduceMul, Nat.reduceEqDiff, Nat.reduceLT, Nat.reduceLeDiff, Nat.reduceBEq, Nat.reduceBNe, Int.reduceLT, Int.reduceLE, Int.reduceEq, Int.reduceAdd, Int.reduceSub, Int.reduceNeg, reduceCtorEq, jrV]
      intro g5 g6 g7
      refine plain_ok (N := 3000) (append_does (R1 := []) (m := 1) (news := [.string x]) rfl tySlice93 tyApp9 rfl rfl rfl rfl (by simp only [dOk_some, dOk_none, Nat.reduceLT]) (by intro u hu; simp at hu; rcases hu with rfl; rfl) (by unfold maxLen; omega) (by omega) (fun G hG => tsl_blk hG (b := ⟨6, g7, 9, [.v (.string x)]⟩) (by simp) rfl (by unfold maxLen; omega))) (QOk_body _ _ _) (by first | exact .inl rfl | exact .inr ⟨_, _, rfl, rfl⟩) ?_
      rintro _ ⟨A9, c9, rfl⟩
      simp only [go_sem, Nat.reduceAdd, Nat.reduceSub, Nat.reduceMul, Nat.reduceEqDiff, Nat.reduceLT, Nat.reduceLeDiff, Nat.reduceBEq, Nat.reduceBNe, Int.reduceLT, Int.reduceLE, Int.reduceEq, Int.reduceAdd, Int.reduceSub, Int.reduceNeg, reduceCtorEq]
      have eI : (T.take v).map Value.string ++ [.string x] = (T.take (v + 1)).map Value.string := by rw [List.take_add_one, hx]; simp
      rw [eI]
      exact ⟨by omega, again_ok (v + 1, d8, (B1, n1), (B2, n2), (B3, n3), j8, l ++ [(j.epoch, x.data.toList)], (A9, c9), G7) ⟨⟨by omega, by rw [List.map_append, hlT, List.take_add_one, hx]; simp, hm1.1, hm1.2⟩, ⟨hg8, hf8, hc8, hk8⟩, hd8⟩ (by simp only; omega) (by simp only [go_sem, Nat.reduceAdd, Nat.reduceSub, Nat.reduceMul, Nat.reduceEqDiff, Nat.reduceLT, Nat.reduceLeDiff, Nat.reduceBEq, Nat.reduceBNe, Int.reduceLT, Int.reduceLE, Int.reduceEq, Int.reduceAdd, Int.reduceSub, Int.reduceNeg, reduceCtorEq]; simp)⟩
  · have q1 : decide ((v : Int) < (T.length : Int)) = false := decide_eq_false (by omega)
    simp only [go_sem, Nat.reduceAdd, Nat.reduceSub, Nat.reduceMul, Nat.reduceEqDiff, Nat.reduceLT, Nat.reduceLeDiff, Nat.reduceBEq, Nat.reduceBNe, Int.reduceLT, Int.reduceLE, Int.reduceEq, Int.reduceAdd, Int.reduceSub, Int.reduceNeg, reduceCtorEq, q1]
    have hk1 := kept_crash hg hgd hc keep hk
    refine plain_ok (N := 3000) (call_does (fun u G => ∃ dv A c A2 c2, u = .tuple #[dv, jrV (upJ j), .slice A 0 c, .slice A2 v c2, .bool true] ∧ DevG G dv (backX d keep j) ∧ SafG G (.slice A2 v c2) ((T.take v).map (fun x => x.data.toList))) rfl rfl (by kernel_rfl) rfl (by simp only [dOk_some, dOk_none, Nat.reduceLT]) (fun G hG => ret_mono (opened_does (keep := keep) hg hgd hk1 (hk1.stops _) (by omega) (by omega) hG.wf (tidL hG (by simp; decide) (by simp; decide)) (hd.mono (hG.le G4 (by simp))) (ScR.mono h2 boolG_mono (hG.le ⟨Non, w⟩ (by simp)))) fun u G' _ h => by obtain ⟨dv, A, c, A2, c2, e, h1, _, h3⟩ := h; rw [hlT, hlen] at h3; rw [hlen] at e; exact ⟨dv, A, c, A2, c2, e, h1, h3⟩)) (QOk_body _ _ _) (by first | exact .inl rfl | exact .inr ⟨_, _, rfl, rfl⟩) ?_
    rintro _ ⟨_, G7, ⟨dv, Ao, co, Aa, ca, rfl, hd7, hal⟩, hn7, rfl⟩
    clear hn7
    obtain ⟨E1, m1, E2, m2, E3, m3, rfl, hfo⟩ := hd7.form
    clear hfo
    have r1 : decide (((v : Nat) : Int) = ((v : Nat) : Int)) = true := decide_eq_true rfl
    have r2 : decide (j.next = j.next) = true := decide_eq_true rfl
    have r3 : decide (j.place = j.place) = true := decide_eq_true rfl
    simp only [go_sem, Nat.reduceAdd, Nat.reduceSub, Nat.reduceMul, Nat.reduceEqDiff, Nat.reduceLT, Nat.reduceLeDiff, Nat.reduceBEq, Nat.reduceBNe, Int.reduceLT, Int.reduceLE, Int.reduceEq, Int.reduceAdd, Int.reduceSub, Int.reduceNeg, reduceCtorEq, jrV, upJ, r1, r2, r3]
    intro g8 g9
    refine read_ok (R1 := []) rfl fun G8 hle8 hs8 => ?_
    have hal8 := Sq.mono hal rowG_mono (hle8 G7 (by simp))
    have htl : (T.take v).length = v := by rw [List.length_take]; omega
    have hW8 : Sq StrG 9 1 G8 (.slice W v wc) (T.take v) := str_of (by rw [htl]; exact hs8)
    simp only [go_sem, Nat.reduceAdd, Nat.reduceSub, Nat.reduceMul, Nat.reduceEqDiff, Nat.reduceLT, Nat.reduceLeDiff, Nat.reduceBEq, Nat.reduceBNe, Int.reduceLT, Int.reduceLE, Int.reduceEq, Int.reduceAdd, Int.reduceSub, Int.reduceNeg, reduceCtorEq]
    refine loop_ok (N := 3000) (ι := Nat × GW)
      (fun i => match i with | (i, G) => ⟨[(11, .c (.v (.slice W v wc))), (20, .c (.v (.slice Aa v ca))), (99, .c (.v (.int .i64 (v : Int)))), (100, .c (.v (.int .i64 (i : Int))))], [], [], [], [G], 9⟩)
      (fun i => match i with | (i, G) => i ≤ v ∧ Sq StrG 9 1 G (.slice W v wc) (T.take v) ∧ SafG G (.slice Aa v ca) ((T.take v).map (fun x => x.data.toList))) (fun i => v - i.1) (QOk_body _ _ _) (0, G8) ⟨by omega, hW8, hal8⟩ (by simp only [go_sem, Nat.reduceAdd, Nat.reduceSub, Nat.reduceMul, Nat.reduceEqDiff, Nat.reduceLT, Nat.reduceLeDiff, Nat.reduceBEq, Nat.reduceBNe, Int.reduceLT, Int.reduceLE, Int.reduceEq, Int.reduceAdd, Int.reduceSub, Int.reduceNeg, reduceCtorEq]; simp) ?_
    clear hW8 hal8 hal hle8 hs8
    rintro ⟨i, G8⟩ ⟨hi, hW8, hal8⟩
    simp only
    by_cases hiv : i < v
    · have s1 : decide ((i : Int) < (v : Int)) = true := decide_eq_true (by omega)
      obtain ⟨y, hy⟩ : ∃ y, (T.take v)[i]? = some y := ⟨_, List.getElem?_eq_getElem (by omega)⟩
      have hy2 : ((T.take v).map (fun x => x.data.toList))[i]? = some y.data.toList := by rw [List.getElem?_map, hy]; rfl
      simp only [go_sem, Nat.reduceAdd, Nat.reduceSub, Nat.reduceMul, Nat.reduceEqDiff, Nat.reduceLT, Nat.reduceLeDiff, Nat.reduceBEq, Nat.reduceBNe, Int.reduceLT, Int.reduceLE, Int.reduceEq, Int.reduceAdd, Int.reduceSub, Int.reduceNeg, reduceCtorEq, s1]
      refine preview_ok (R := RowG) (kc := 1) hy2 (fun G hG => (Sq.mono hal8 rowG_mono (hG G8 (by simp))).sc) fun ga oa csa Ga hA _ hca hlea => ?_
      subst hA
      clear hlea
      obtain ⟨Abb, cbb, rfl, hbb⟩ := rowcell hca
      simp only [go_sem, Nat.reduceAdd, Nat.reduceSub, Nat.reduceMul, Nat.reduceEqDiff, Nat.reduceLT, Nat.reduceLeDiff, Nat.reduceBEq, Nat.reduceBNe, Int.reduceLT, Int.reduceLE, Int.reduceEq, Int.reduceAdd, Int.reduceSub, Int.reduceNeg, reduceCtorEq]
      refine preview_ok (R := StrG) (kc := 1) hy (fun G hG => (Sq.mono hW8 strG_mono (hG G8 (by simp))).sc) fun gb ob csb Gb hB _ hcb hleb => ?_
      subst hB
      clear hleb
      obtain rfl := hcb
      simp only [go_sem, Nat.reduceAdd, Nat.reduceSub, Nat.reduceMul, Nat.reduceEqDiff, Nat.reduceLT, Nat.reduceLeDiff, Nat.reduceBEq, Nat.reduceBNe, Int.reduceLT, Int.reduceLE, Int.reduceEq, Int.reduceAdd, Int.reduceSub, Int.reduceNeg, reduceCtorEq]
      refine draw_ok (N := 3000) (.take 0 (.take 1 (.take 2 (.take 3 (.take 5 (.take 6 (.take 7 (.take 8 (.alt 4 (.take 9 .done) .last))))))))) [] (QOk_body _ _ _) follows_mixed (by kernel_rfl) (by kernel_rfl) ?_
      simp only [go_sem, Nat.reduceAdd, Nat.reduceSub, Nat.reduceMul, Nat.reduceEqDiff, Nat.reduceLT, Nat.reduceLeDiff, Nat.reduceBEq, Nat.reduceBNe, Int.reduceLT, Int.reduceLE, Int.reduceEq, Int.reduceAdd, Int.reduceSub, Int.reduceNeg, reduceCtorEq]
      refine take_elem 9 (m := i) rfl tySlice29 tySize23 rfl rfl (by simp only [dOk_some, dOk_none, Nat.reduceLT]) rfl (by omega) ?_
      simp only [go_sem, Nat.reduceAdd, Nat.reduceSub, Nat.reduceMul, Nat.reduceEqDiff, Nat.reduceLT, Nat.reduceLeDiff, Nat.reduceBEq, Nat.reduceBNe, Int.reduceLT, Int.reduceLE, Int.reduceEq, Int.reduceAdd, Int.reduceSub, Int.reduceNeg, reduceCtorEq]
      refine take_elem 10 (m := i) rfl tySlice93 tySize9 rfl rfl (by simp only [dOk_some, dOk_none, Nat.reduceLT]) rfl (by omega) ?_
      simp only [go_sem, Nat.reduceAdd, Nat.reduceSub, Nat.reduceMul, Nat.reduceEqDiff, Nat.reduceLT, Nat.reduceLeDiff, Nat.reduceBEq, Nat.reduceBNe, Int.reduceLT, Int.reduceLE, Int.reduceEq, Int.reduceAdd, Int.reduceSub, Int.reduceNeg, reduceCtorEq]
      refine any_ok2 (N := 3000) (text_does (bs := y.data.toList) (e := 5) rfl tyStr9 tySlice23 tyInt5 rfl (by simp only [dOk_some, dOk_none, Nat.reduceLT]) (fun G hG => hbb.mono (hG.le Ga (by simp)))) (QOk_body _ _ _) rfl (by first | exact .inl rfl | exact .inr ⟨_, _, rfl, rfl⟩) (by intro _ hK; first | (obtain ⟨_, _, _, _, rfl⟩ := hK; exact ⟨rfl, fun _ h => h⟩) | (obtain ⟨_, _, rfl⟩ := hK; exact ⟨rfl, fun _ h => h⟩) | (obtain ⟨_, _, _, _, _, _, rfl⟩ := hK; exact ⟨rfl, fun _ h => List.mem_cons_of_mem _ h⟩) | (obtain ⟨_, _, _, _, _, _, _, rfl⟩ := hK; exact ⟨rfl, fun _ h => List.mem_cons_of_mem _ h⟩) | (obtain rfl := hK; exact ⟨rfl, fun _ h => h⟩)) ?_
      rintro _ rfl
      rw [bytes_back]
      simp only [go_sem, Nat.reduceAdd, Nat.reduceSub, Nat.reduceMul, Nat.reduceEqDiff, Nat.reduceLT, Nat.reduceLeDiff, Nat.reduceBEq, Nat.reduceBNe, Int.reduceLT, Int.reduceLE, Int.reduceEq, Int.reduceAdd, Int.reduceSub, Int.reduceNeg, reduceCtorEq]
      exact ⟨by omega, again_ok (i + 1, G8) ⟨by omega, hW8, hal8⟩ (by simp only; omega) (by simp only [go_sem, Nat.reduceAdd, Nat.reduceSub, Nat.reduceMul, Nat.reduceEqDiff, Nat.reduceLT, Nat.reduceLeDiff, Nat.reduceBEq, Nat.reduceBNe, Int.reduceLT, Int.reduceLE, Int.reduceEq, Int.reduceAdd, Int.reduceSub, Int.reduceNeg, reduceCtorEq]; simp)⟩
    · have s1 : decide ((i : Int) < (v : Int)) = false := decide_eq_false (by omega)
      simp only [go_sem, Nat.reduceAdd, Nat.reduceSub, Nat.reduceMul, Nat.reduceEqDiff, Nat.reduceLT, Nat.reduceLeDiff, Nat.reduceBEq, Nat.reduceBNe, Int.reduceLT, Int.reduceLE, Int.reduceEq, Int.reduceAdd, Int.reduceSub, Int.reduceNeg, reduceCtorEq, s1]
      refine fin_ret (G := ⟨Non, w⟩) Try.results18 ?_
      simp only [go_sem, Nat.reduceAdd, Nat.reduceSub, Nat.reduceMul, Nat.reduceEqDiff, Nat.reduceLT, Nat.reduceLeDiff, Nat.reduceBEq, Nat.reduceBNe, Int.reduceLT, Int.reduceLE, Int.reduceEq, Int.reduceAdd, Int.reduceSub, Int.reduceNeg, reduceCtorEq]
      intro aa w' _ _
      rfl
theorem commitFound_walk {w : World} (a0 : Int) (w0 : (Lit.int .i64 a0).wf = true) (v1 : Value) (l1 : List Raw) (h1 : RawsG ⟨Non, w⟩ v1 l1) (v2 : Value) (keep : List Bool) (h2 : BoolsG ⟨Non, w⟩ v2 keep) :
    Calls Try.prog 18 #[.int .i64 a0, v1, v2] w fun e w' => e = .returned (.bool true) ∧ Below w.heap.size w w' :=
  (commitFound_ret a0 w0 v1 l1 h1 v2 keep h2).mono fun e w' ⟨v, he, hv, hc⟩ => ⟨by rw [he, hv], hc.below⟩
end Go.Proofs.Ytomfladifefomaa
