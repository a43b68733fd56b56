/- ring.Save. Conditions: as each law states them. -/
import Derived.Test.YtomfladifefomaaN7
namespace Go.Proofs.Ytomfladifefomaa
open Go.RowKit
set_option linter.unusedSimpArgs false
def piece (b : List UInt8) (i : Nat) : List UInt8 := (b.drop (64 * i)).take 64
def pieces (b : List UInt8) : Nat := (b.length + 63) / 64
theorem piece_len (b : List UInt8) {i : Nat} (hi : i < pieces b) : 64 * i + (piece b i).length = min (64 * i + 64) b.length ∧ 64 * i < b.length ∧ (piece b i).length ≤ 64 := by
  unfold pieces at hi
  simp only [piece, List.length_take, List.length_drop]
  omega
def saveTo (g : Geo) (d : Dev) (j : Jr) (b : List UInt8) : Nat → Dev × Int
  | 0 => (d, 0)
  | i + 1 => hPut (saveTo g d j b i) (areaAt g (1 - j.area) + (i : Int)) (piece b i)
theorem saveTo_good {g : Geo} {d : Dev} (hd : GoodDev g d) (j : Jr) (b : List UInt8) : ∀ i, GoodDev g (saveTo g d j b i).1
  | 0 => hd
  | i + 1 => hPut_good (saveTo_good hd j b i) _ _
def nextJ (j : Jr) (n : Int) : Jr := ⟨j.gen + 1, j.epoch, 1 - j.area, n, j.place, j.next, j.place, j.next, 0⟩
def saveX (g : Geo) (d : Dev) (j : Jr) (b : List UInt8) : Dev × Int := hFlush (hPut (hFlush (saveTo g d j b (pieces b))) (HMod.hMod (j.gen + 1) 2) (superB (nextJ j (b.length : Int))))
def fullS (g : Geo) (j : Jr) (b : List UInt8) : Prop := g.area * 64 < (b.length : Int) ∨ j.gen = 1048576
set_option maxRecDepth 100000 in
set_option maxHeartbeats 16000000 in
theorem save_any {g : Geo} (hg : GoodGeo g) {d : Dev} (hd : GoodDev g d) {j : Jr} (hj : okJ g j = true) {b : List UInt8} {dv bv : Value} {G0 : GW} (hW : G0.Wf) (hT : Tid bX G0) (h : DevG G0 dv d) (hb : ByG G0 bv b) :
    Calls Try.prog 51 #[geoV g, dv, jrV j, bv] G0.w (Ret G0 fun v G => (fullS g j b ∧ v = .tuple #[zeroDev, jrV zeroJr, .int .i64 8]) ∨ (¬ fullS g j b ∧ HandE g (saveX g d j b) (nextJ j (b.length : Int)) v G)) := by
  have hjj := of_decide_eq_true hj
  have := hg.r1; have := hg.r2; have := hg.a1; have := hg.a2
  obtain ⟨hpl0, hpl1⟩ := okJ_place hg hj
  obtain ⟨A1, k1, A2, k2, A3, k3, rfl, hfo⟩ := h.form
  clear hfo
  obtain ⟨Ab, cb, rfl, hb1, hb2⟩ := hb.form
  have hml := max_le
  obtain ⟨k, hk⟩ : ∃ k, k = pieces b := ⟨_, rfl⟩
  have hkv : k = (b.length + 63) / 64 := hk
  refine enter (G := G0) (n := 108) 3000 hW Try.func51 rfl Try.ntmps51 (by simp) ?_
  simp only [go_sem, Nat.reduceAdd, Nat.reduceSub, Nat.reduceMul, Nat.reduceEqDiff, Nat.reduceLT, Nat.reduceLeDiff, Nat.reduceBEq, Nat.reduceBNe, Int.reduceLT, Int.reduceLE, Int.reduceEq, Int.reduceAdd, Int.reduceSub, Int.reduceNeg, reduceCtorEq, geoV, jrV]
  intro g1 g2 g3 g4 g5
  refine plain_ok (N := 3000) (call_does (fun v G => v = .int .i64 0) rfl rfl (by kernel_rfl) rfl (by simp only [dOk_some, dOk_none, Nat.reduceLT]) (fun G hG => chk hg hd (h.mono (hG.le G0 (by simp))))) (QOk_body _ _ _) (by first | exact .inl rfl | exact .inr ⟨_, _, rfl, rfl⟩) ?_
  rintro _ ⟨_, G1, rfl, hn1, rfl⟩
  clear hn1
  simp only [go_sem, Nat.reduceAdd, Nat.reduceSub, Nat.reduceMul, Nat.reduceEqDiff, Nat.reduceLT, Nat.reduceLeDiff, Nat.reduceBEq, Nat.reduceBNe, Int.reduceLT, Int.reduceLE, Int.reduceEq, Int.reduceAdd, Int.reduceSub, Int.reduceNeg, reduceCtorEq]
  refine plain_ok (N := 3000) (call_does (fun v G => v = .int .i64 0) rfl rfl (by kernel_rfl) rfl (by simp only [dOk_some, dOk_none, Nat.reduceLT]) (fun G hG => ret_mono (checkJ_does (j := j) hg hG.wf) fun v G' _ h => by rw [h, hj]; rfl)) (QOk_body _ _ _) (by first | exact .inl rfl | exact .inr ⟨_, _, rfl, rfl⟩) ?_
  rintro _ ⟨_, G2, rfl, hn2, rfl⟩
  have hl02 : G0.Le G2 := hn2.le G0 (by simp)
  clear hn2
  simp only [go_sem, Nat.reduceAdd, Nat.reduceSub, Nat.reduceMul, Nat.reduceEqDiff, Nat.reduceLT, Nat.reduceLeDiff, Nat.reduceBEq, Nat.reduceBNe, Int.reduceLT, Int.reduceLE, Int.reduceEq, Int.reduceAdd, Int.reduceSub, Int.reduceNeg, reduceCtorEq]
  refine ⟨by omega, ?_⟩
  by_cases c1 : g.area * 64 < (b.length : Int)
  · have q1 : decide (g.area * 64 < (b.length : Int)) = true := decide_eq_true c1
    simp only [go_sem, Nat.reduceAdd, Nat.reduceSub, Nat.reduceMul, Nat.reduceEqDiff, Nat.reduceLT, Nat.reduceLeDiff, Nat.reduceBEq, Nat.reduceBNe, Int.reduceLT, Int.reduceLE, Int.reduceEq, Int.reduceAdd, Int.reduceSub, Int.reduceNeg, reduceCtorEq, q1]
    refine fin_ret (G := G0) Try.results51 ?_
    simp only [go_sem, Nat.reduceAdd, Nat.reduceSub, Nat.reduceMul, Nat.reduceEqDiff, Nat.reduceLT, Nat.reduceLeDiff, Nat.reduceBEq, Nat.reduceBNe, Int.reduceLT, Int.reduceLE, Int.reduceEq, Int.reduceAdd, Int.reduceSub, Int.reduceNeg, reduceCtorEq]
    intro aa w' _ _
    exact .inl ⟨.inl c1, rfl⟩
  have q1 : decide (g.area * 64 < (b.length : Int)) = false := decide_eq_false c1
  by_cases c2 : j.gen = 1048576
  · have q2 : decide (j.gen = 1048576) = true := decide_eq_true c2
    simp only [go_sem, Nat.reduceAdd, Nat.reduceSub, Nat.reduceMul, Nat.reduceEqDiff, Nat.reduceLT, Nat.reduceLeDiff, Nat.reduceBEq, Nat.reduceBNe, Int.reduceLT, Int.reduceLE, Int.reduceEq, Int.reduceAdd, Int.reduceSub, Int.reduceNeg, reduceCtorEq, q1, q2]
    refine fin_ret (G := G0) Try.results51 ?_
    simp only [go_sem, Nat.reduceAdd, Nat.reduceSub, Nat.reduceMul, Nat.reduceEqDiff, Nat.reduceLT, Nat.reduceLeDiff, Nat.reduceBEq, Nat.reduceBNe, Int.reduceLT, Int.reduceLE, Int.reduceEq, Int.reduceAdd, Int.reduceSub, Int.reduceNeg, reduceCtorEq]
    intro aa w' _ _
    exact .inl ⟨.inr c2, rfl⟩
  have q2 : decide (j.gen = 1048576) = false := decide_eq_false c2
  have hnf : ¬ fullS g j b := by
    rintro (q | q)
    · exact c1 q
    · exact c2 q
  simp only [go_sem, Nat.reduceAdd, Nat.reduceSub, Nat.reduceMul, Nat.reduceEqDiff, Nat.reduceLT, Nat.reduceLeDiff, Nat.reduceBEq, Nat.reduceBNe, Int.reduceLT, Int.reduceLE, Int.reduceEq, Int.reduceAdd, Int.reduceSub, Int.reduceNeg, reduceCtorEq, q1, q2]
  refine ⟨by omega, by omega, ?_⟩
  intro g6 g7
  refine loop_ok (N := 3000) (ι := Nat × (Dev × Int) × (Option Addr × Nat) × (Option Addr × Nat) × (Option Addr × Nat) × GW)
    (fun i => match i with | (v, x, (B1, m1), (B2, m2), (B3, m3), G) => ⟨[(3, .c (.v (.slice Ab b.length cb))), (4, .c (.p 0 g1 0)), (8, .c (.p 3 g4 0)), (9, .c (.p 4 g5 0)), (13, .c (.p 5 g6 0)), (14, .c (.p 6 g7 0)), (15, .c (.v (.int .i64 ((64 * v : Nat) : Int))))],
      [⟨6, g7, handT, [.v (.int .i64 g.ring), .v (.int .i64 g.area), .v (.int .i64 g.hot), .v (.int .i64 g.volume), .v (.int .i64 g.volumes), .v (.slice B1 x.1.safe.length m1), .v (.slice B2 x.1.cache.length m2), .v (.slice B3 x.1.vols.length m3), .v (.int .i64 x.1.fuel), .v (.int .i64 x.2)]⟩, ⟨5, g6, 81, [.v (.int .i64 (j.gen + 1)), .v (.int .i64 j.epoch), .v (.int .i64 (1 - j.area)), .v (.int .i64 (b.length : Int)), .v (.int .i64 j.place), .v (.int .i64 j.next), .v (.int .i64 j.place), .v (.int .i64 j.next), .v (.int .i64 0)]⟩, ⟨4, g5, 81, [.v (.int .i64 0), .v (.int .i64 0), .v (.int .i64 0), .v (.int .i64 0), .v (.int .i64 0), .v (.int .i64 0), .v (.int .i64 0), .v (.int .i64 0), .v (.int .i64 0)]⟩, ⟨3, g4, 37, [.v (.slice none 0 0), .v (.slice none 0 0), .v (.slice none 0 0), .v (.int .i64 0)]⟩, ⟨0, g1, 32, [.v (.int .i64 g.ring), .v (.int .i64 g.area), .v (.int .i64 g.hot), .v (.int .i64 g.volume), .v (.int .i64 g.volumes)]⟩], [], [], [G, G0], 7⟩)
    (fun i => match i with | (v, x, (B1, m1), (B2, m2), (B3, m3), G) => v ≤ k ∧ x = saveTo g d j b v ∧ HandG g x [.v (.int .i64 g.ring), .v (.int .i64 g.area), .v (.int .i64 g.hot), .v (.int .i64 g.volume), .v (.int .i64 g.volumes), .v (.slice B1 x.1.safe.length m1), .v (.slice B2 x.1.cache.length m2), .v (.slice B3 x.1.vols.length m3), .v (.int .i64 x.1.fuel), .v (.int .i64 x.2)] G) (fun i => k - i.1) (QOk_body _ _ _) (0, (d, 0), (A1, k1), (A2, k2), (A3, k3), G2) ⟨by omega, rfl, A1, k1, A2, k2, A3, k3, rfl, h.mono hl02⟩ (by simp only [go_sem, Nat.reduceAdd, Nat.reduceSub, Nat.reduceMul, Nat.reduceEqDiff, Nat.reduceLT, Nat.reduceLeDiff, Nat.reduceBEq, Nat.reduceBNe, Int.reduceLT, Int.reduceLE, Int.reduceEq, Int.reduceAdd, Int.reduceSub, Int.reduceNeg, reduceCtorEq]; simp) ?_
  rintro ⟨v, x, ⟨B1, m1⟩, ⟨B2, m2⟩, ⟨B3, m3⟩, G3⟩ ⟨hv, hx, hh⟩
  simp only
  have hgx : GoodDev g x.1 := by rw [hx]; exact saveTo_good hd j b v
  by_cases hlt : v < k
  · have p1 : decide (((64 * v : Nat) : Int) < (b.length : Int)) = true := decide_eq_true (by omega)
    obtain ⟨y1, y2, y3⟩ := piece_len b (show v < pieces b by omega)
    obtain ⟨Ac, hAc, hbp⟩ := byG_cutA hb (64 * v) (piece b v).length (cb - 64 * v) (by omega) (by omega) (by omega)
    have hpp : (b.drop (64 * v)).take (piece b v).length = piece b v := by
      show (b.drop (64 * v)).take ((b.drop (64 * v)).take 64).length = (b.drop (64 * v)).take 64
      rw [List.length_take, List.take_eq_take_iff]
      omega
    rw [hpp] at hbp
    simp only [go_sem, Nat.reduceAdd, Nat.reduceSub, Nat.reduceMul, Nat.reduceEqDiff, Nat.reduceLT, Nat.reduceLeDiff, Nat.reduceBEq, Nat.reduceBNe, Int.reduceLT, Int.reduceLE, Int.reduceEq, Int.reduceAdd, Int.reduceSub, Int.reduceNeg, reduceCtorEq, p1]
    refine draw_ok (N := 3000) (.take 0 (.take 1 (.take 2 (.take 3 (.take 5 (.take 6 (.take 8 (.take 9 (.take 10 (.take 11 (.take 12 (.take 13 (.take 14 (.take 15 (.alt 4 (.take 7 (.alt 16 .done .last)) .last))))))))))))))) [6] (QOk_body _ _ _) follows_mixed (by kernel_rfl) (by kernel_rfl) ?_
    simp only [go_sem, Nat.reduceAdd, Nat.reduceSub, Nat.reduceMul, Nat.reduceEqDiff, Nat.reduceLT, Nat.reduceLeDiff, Nat.reduceBEq, Nat.reduceBNe, Int.reduceLT, Int.reduceLE, Int.reduceEq, Int.reduceAdd, Int.reduceSub, Int.reduceNeg, reduceCtorEq]
    refine ⟨by omega, by omega, ?_⟩
    refine take_cutA (A' := Ac) (64 * v) (piece b v).length (cb - 64 * v) hAc rfl tySlice23 tySize5 rfl ⟨_, _, rfl, by omega⟩ ⟨_, _, rfl, by omega⟩ (show 64 * v + (cb - 64 * v) = cb from by omega) (by simp) (by simp only [dOk_some, dOk_none, Nat.reduceLT]) (by omega) (by omega) ?_
    simp only [go_sem, Nat.reduceAdd, Nat.reduceSub, Nat.reduceMul, Nat.reduceEqDiff, Nat.reduceLT, Nat.reduceLeDiff, Nat.reduceBEq, Nat.reduceBNe, Int.reduceLT, Int.reduceLE, Int.reduceEq, Int.reduceAdd, Int.reduceSub, Int.reduceNeg, reduceCtorEq]
    have e64 : (((64 * v : Nat) : Int)).tdiv 64 = (v : Int) := by rw [Int.tdiv_eq_ediv_of_nonneg (by omega)]; omega
    have har : 0 ≤ areaAt g (1 - j.area) ∧ areaAt g (1 - j.area) ≤ 200 := by
      unfold areaAt
      rcases (show j.area = 0 ∨ j.area = 1 by omega) with e | e <;> rw [e] <;> omega
    refine anyc_ok (N := 3000) (call_does (fun u _ => u = .int .i64 (areaAt g (1 - j.area))) rfl rfl (by kernel_rfl) rfl (by simp only [dOk_some, dOk_none, Nat.reduceLT]) (fun G hG => area_does (a := 1 - j.area) hg (by omega) (by omega) hG.wf)) (QOk_body _ _ _) rfl (by first | exact .inl rfl | exact .inr ⟨_, _, rfl, rfl⟩) ?_
    rintro _ ⟨_, G5, rfl, hn5, rfl⟩
    have hl35 : G3.Le G5 := hn5.le G3 (by simp)
    clear hn5
    simp only [go_sem, Nat.reduceAdd, Nat.reduceSub, Nat.reduceMul, Nat.reduceEqDiff, Nat.reduceLT, Nat.reduceLeDiff, Nat.reduceBEq, Nat.reduceBNe, Int.reduceLT, Int.reduceLE, Int.reduceEq, Int.reduceAdd, Int.reduceSub, Int.reduceNeg, reduceCtorEq, e64]
    refine ⟨by omega, ?_⟩
    refine anyP_ok (N := 3000) (callP_does 6 g7 handT 10 (fun _ cs G => HandG g (hPut x (areaAt g (1 - j.area) + (v : Int)) (piece b v)) cs G) rfl rfl (by kernel_rfl) rfl (by simp only [dOk_some, dOk_none, Nat.reduceLT]) rfl rfl rfl rfl (fun G hG => hput_does (x := x) hg hgx hG.wf (tidB hG (fun _ h => h) hT hW rfl rfl (by simp) (by simp; decide)) (now_mine (id := 6) hG rfl) (now_blk (id := 6) hG rfl) (hh.mono (hG.le G3 (by simp))) (hbp.mono (hG.le G0 (by simp))))) (QOk_body _ _ _) rfl (by first | exact .inl rfl | exact .inr ⟨_, _, rfl, rfl⟩) (by simp) ?_
    rintro _ ⟨v1, cs1, G6, _, ⟨C1, n1, C2, n2, C3, n3, rfl, hd1⟩, hle6, rfl⟩
    have hxn : saveTo g d j b (v + 1) = hPut x (areaAt g (1 - j.area) + (v : Int)) (piece b v) := by rw [hx]; rfl
    rw [← hxn] at hd1 ⊢
    have e65 : ((64 * v : Nat) : Int) + 64 = ((64 * (v + 1) : Nat) : Int) := by omega
    simp only [go_sem, Nat.reduceAdd, Nat.reduceSub, Nat.reduceMul, Nat.reduceEqDiff, Nat.reduceLT, Nat.reduceLeDiff, Nat.reduceBEq, Nat.reduceBNe, Int.reduceLT, Int.reduceLE, Int.reduceEq, Int.reduceAdd, Int.reduceSub, Int.reduceNeg, reduceCtorEq, e65]
    exact ⟨by omega, again_ok (v + 1, saveTo g d j b (v + 1), (C1, n1), (C2, n2), (C3, n3), G6) ⟨by omega, rfl, C1, n1, C2, n2, C3, n3, rfl, hd1⟩ (by simp only; omega) (by simp only [go_sem, Nat.reduceAdd, Nat.reduceSub, Nat.reduceMul, Nat.reduceEqDiff, Nat.reduceLT, Nat.reduceLeDiff, Nat.reduceBEq, Nat.reduceBNe, Int.reduceLT, Int.reduceLE, Int.reduceEq, Int.reduceAdd, Int.reduceSub, Int.reduceNeg, reduceCtorEq]; simp)⟩
  · have p1 : decide (((64 * v : Nat) : Int) < (b.length : Int)) = false := decide_eq_false (by omega)
    obtain rfl : v = k := by omega
    simp only [go_sem, Nat.reduceAdd, Nat.reduceSub, Nat.reduceMul, Nat.reduceEqDiff, Nat.reduceLT, Nat.reduceLeDiff, Nat.reduceBEq, Nat.reduceBNe, Int.reduceLT, Int.reduceLE, Int.reduceEq, Int.reduceAdd, Int.reduceSub, Int.reduceNeg, reduceCtorEq, p1]
    refine plain_ok (N := 3000) (callP_does 6 g7 handT 10 (fun _ cs G => HandG g (hFlush x) cs G) rfl rfl (by kernel_rfl) rfl (by simp only [dOk_some, dOk_none, Nat.reduceLT]) rfl rfl rfl rfl (fun G hG => hflush_does (x := x) hg hgx hG.wf (tidB hG (fun _ h => h) hT hW rfl rfl (by simp) (by simp; decide)) (now_mine (id := 6) hG rfl) (now_blk (id := 6) hG rfl) (hh.mono (hG.le G3 (by simp))))) (QOk_body _ _ _) (by first | exact .inl rfl | exact .inr ⟨_, _, rfl, rfl⟩) ?_
    rintro _ ⟨v3, cs3, G5, _, ⟨D1, o1, D2, o2, D3, o3, rfl, hd3⟩, hle5, rfl⟩
    have hh3 : HandG g (hFlush x) [.v (.int .i64 g.ring), .v (.int .i64 g.area), .v (.int .i64 g.hot), .v (.int .i64 g.volume), .v (.int .i64 g.volumes), .v (.slice D1 (hFlush x).1.safe.length o1), .v (.slice D2 (hFlush x).1.cache.length o2), .v (.slice D3 (hFlush x).1.vols.length o3), .v (.int .i64 (hFlush x).1.fuel), .v (.int .i64 (hFlush x).2)] G5 := ⟨D1, o1, D2, o2, D3, o3, rfl, hd3⟩
    have hg3 : GoodDev g (hFlush x).1 := hFlush_good hgx
    have hsx : saveX g d j b = hFlush (hPut (hFlush x) (HMod.hMod (j.gen + 1) 2) (superB (nextJ j (b.length : Int)))) := by unfold saveX; rw [← hk, ← hx]
    rw [hsx]
    clear hd3 hsx
    generalize hFlush x = x3 at *
    simp only [go_sem, Nat.reduceAdd, Nat.reduceSub, Nat.reduceMul, Nat.reduceEqDiff, Nat.reduceLT, Nat.reduceLeDiff, Nat.reduceBEq, Nat.reduceBNe, Int.reduceLT, Int.reduceLE, Int.reduceEq, Int.reduceAdd, Int.reduceSub, Int.reduceNeg, reduceCtorEq]
    refine draw_ok (N := 3000) (.take 0 (.take 1 (.take 2 (.take 3 (.take 4 (.alt 5 (.alt 6 .done .last) .last)))))) [6] (QOk_body _ _ _) follows_mixed (by kernel_rfl) (by kernel_rfl) ?_
    simp only [go_sem, Nat.reduceAdd, Nat.reduceSub, Nat.reduceMul, Nat.reduceEqDiff, Nat.reduceLT, Nat.reduceLeDiff, Nat.reduceBEq, Nat.reduceBNe, Int.reduceLT, Int.reduceLE, Int.reduceEq, Int.reduceAdd, Int.reduceSub, Int.reduceNeg, reduceCtorEq]
    refine ⟨by omega, ?_⟩
    refine anyc_ok (N := 3000) (call_does (fun u G => ∃ A c, u = .slice A 19 c ∧ ByG G (.slice A 19 c) (superB (nextJ j (b.length : Int)))) rfl rfl (by kernel_rfl) rfl (by simp only [dOk_some, dOk_none, Nat.reduceLT]) (fun G hG => super_does (j := nextJ j (b.length : Int)) hG.wf)) (QOk_body _ _ _) rfl (by first | exact .inl rfl | exact .inr ⟨_, _, rfl, rfl⟩) ?_
    rintro _ ⟨_, G6, ⟨As, cs, rfl, hbs⟩, hn6, rfl⟩
    clear hn6
    obtain ⟨S, hS⟩ : ∃ S, S = superB (nextJ j (b.length : Int)) := ⟨_, rfl⟩
    rw [← hS] at hbs ⊢
    have hSl : S.length = 19 := by rw [hS]; exact superB_len _
    simp only [go_sem, Nat.reduceAdd, Nat.reduceSub, Nat.reduceMul, Nat.reduceEqDiff, Nat.reduceLT, Nat.reduceLeDiff, Nat.reduceBEq, Nat.reduceBNe, Int.reduceLT, Int.reduceLE, Int.reduceEq, Int.reduceAdd, Int.reduceSub, Int.reduceNeg, reduceCtorEq]
    refine anyP_ok (N := 3000) (callP_does 6 g7 handT 10 (fun _ cs G => HandG g (hPut x3 (HMod.hMod (j.gen + 1) 2) S) cs G) rfl rfl (by kernel_rfl) rfl (by simp only [dOk_some, dOk_none, Nat.reduceLT]) rfl rfl rfl rfl (fun G hG => hput_does (x := x3) hg hg3 hG.wf (tidB hG (fun _ h => h) hT hW rfl rfl (by simp) (by simp; decide)) (now_mine (id := 6) hG rfl) (now_blk (id := 6) hG rfl) (hh3.mono (hG.le G5 (by simp))) (hbs.mono (hG.le G6 (by simp))))) (QOk_body _ _ _) rfl (by first | exact .inl rfl | exact .inr ⟨_, _, rfl, rfl⟩) (by simp) ?_
    rintro _ ⟨v4, cs4, G7, _, ⟨E1, p1, E2, p2, E3, p3, rfl, hd4⟩, hle7, rfl⟩
    have hh4 : HandG g (hPut x3 (HMod.hMod (j.gen + 1) 2) S) [.v (.int .i64 g.ring), .v (.int .i64 g.area), .v (.int .i64 g.hot), .v (.int .i64 g.volume), .v (.int .i64 g.volumes), .v (.slice E1 (hPut x3 (HMod.hMod (j.gen + 1) 2) S).1.safe.length p1), .v (.slice E2 (hPut x3 (HMod.hMod (j.gen + 1) 2) S).1.cache.length p2), .v (.slice E3 (hPut x3 (HMod.hMod (j.gen + 1) 2) S).1.vols.length p3), .v (.int .i64 (hPut x3 (HMod.hMod (j.gen + 1) 2) S).1.fuel), .v (.int .i64 (hPut x3 (HMod.hMod (j.gen + 1) 2) S).2)] G7 := ⟨E1, p1, E2, p2, E3, p3, rfl, hd4⟩
    have hg4 : GoodDev g (hPut x3 (HMod.hMod (j.gen + 1) 2) S).1 := hPut_good hg3 _ _
    clear hd4
    generalize hPut x3 (HMod.hMod (j.gen + 1) 2) S = x4 at *
    simp only [go_sem, Nat.reduceAdd, Nat.reduceSub, Nat.reduceMul, Nat.reduceEqDiff, Nat.reduceLT, Nat.reduceLeDiff, Nat.reduceBEq, Nat.reduceBNe, Int.reduceLT, Int.reduceLE, Int.reduceEq, Int.reduceAdd, Int.reduceSub, Int.reduceNeg, reduceCtorEq]
    refine plain_ok (N := 3000) (callP_does 6 g7 handT 10 (fun _ cs G => HandG g (hFlush x4) cs G) rfl rfl (by kernel_rfl) rfl (by simp only [dOk_some, dOk_none, Nat.reduceLT]) rfl rfl rfl rfl (fun G hG => hflush_does (x := x4) hg hg4 hG.wf (tidB hG (fun _ h => h) hT hW rfl rfl (by simp) (by simp; decide)) (now_mine (id := 6) hG rfl) (now_blk (id := 6) hG rfl) (hh4.mono (hG.le G7 (by simp))))) (QOk_body _ _ _) (by first | exact .inl rfl | exact .inr ⟨_, _, rfl, rfl⟩) ?_
    rintro _ ⟨v5, cs5, G8, _, ⟨F1, q1, F2, q2, F3, q3, rfl, hd5⟩, hle8, rfl⟩
    have hh5 : HandG g (hFlush x4) [.v (.int .i64 g.ring), .v (.int .i64 g.area), .v (.int .i64 g.hot), .v (.int .i64 g.volume), .v (.int .i64 g.volumes), .v (.slice F1 (hFlush x4).1.safe.length q1), .v (.slice F2 (hFlush x4).1.cache.length q2), .v (.slice F3 (hFlush x4).1.vols.length q3), .v (.int .i64 (hFlush x4).1.fuel), .v (.int .i64 (hFlush x4).2)] G8 := ⟨F1, q1, F2, q2, F3, q3, rfl, hd5⟩
    clear hd5
    generalize hFlush x4 = y at *
    simp only [go_sem, Nat.reduceAdd, Nat.reduceSub, Nat.reduceMul, Nat.reduceEqDiff, Nat.reduceLT, Nat.reduceLeDiff, Nat.reduceBEq, Nat.reduceBNe, Int.reduceLT, Int.reduceLE, Int.reduceEq, Int.reduceAdd, Int.reduceSub, Int.reduceNeg, reduceCtorEq]
    refine plain_ok (N := 3000) (callP_does 6 g7 handT 10 (fun u cs G => HandG g y cs G ∧ HandE g y (nextJ j (b.length : Int)) u G) rfl rfl (by kernel_rfl) rfl (by simp only [dOk_some, dOk_none, Nat.reduceLT]) rfl rfl rfl rfl (fun G hG => hend_does (x := y) (j := nextJ j (b.length : Int)) hG.wf (now_mine (id := 6) hG rfl) (now_blk (id := 6) hG rfl) (hh5.mono (hG.le G8 (by simp))))) (QOk_body _ _ _) (by first | exact .inl rfl | exact .inr ⟨_, _, rfl, rfl⟩) ?_
    rintro _ ⟨v6, cs6, G9, _, ⟨⟨I1, r1, I2, r2, I3, r3, rfl, hd6⟩, hE⟩, hle9, rfl⟩
    clear hd6
    obtain ⟨dv, rfl, hE1, hE2⟩ := hE
    obtain ⟨J3, hJ3⟩ : ∃ J3 : Jr, J3 = (if y.2 = 0 then nextJ j (b.length : Int) else zeroJr) := ⟨_, rfl⟩
    rw [← hJ3]
    by_cases hy : y.2 = 0 ∨ y.2 = 10
    · have hd7 := hE1 hy
      obtain ⟨L1, s1, L2, s2, L3, s3, rfl, hfo⟩ := hd7.form
      clear hfo
      simp only [go_sem, Nat.reduceAdd, Nat.reduceSub, Nat.reduceMul, Nat.reduceEqDiff, Nat.reduceLT, Nat.reduceLeDiff, Nat.reduceBEq, Nat.reduceBNe, Int.reduceLT, Int.reduceLE, Int.reduceEq, Int.reduceAdd, Int.reduceSub, Int.reduceNeg, reduceCtorEq, jrV]
      refine fin_ret (G := G0) Try.results51 ?_
      simp only [go_sem, Nat.reduceAdd, Nat.reduceSub, Nat.reduceMul, Nat.reduceEqDiff, Nat.reduceLT, Nat.reduceLeDiff, Nat.reduceBEq, Nat.reduceBNe, Int.reduceLT, Int.reduceLE, Int.reduceEq, Int.reduceAdd, Int.reduceSub, Int.reduceNeg, reduceCtorEq]
      intro aa w' _ hle
      exact .inr ⟨hnf, _, by rw [← hJ3]; rfl, fun _ => hd7.mono (hle G9 (by simp)), fun h1 h2 => absurd hy (by omega)⟩
    · obtain rfl := hE2 (by omega) (by omega)
      simp only [go_sem, Nat.reduceAdd, Nat.reduceSub, Nat.reduceMul, Nat.reduceEqDiff, Nat.reduceLT, Nat.reduceLeDiff, Nat.reduceBEq, Nat.reduceBNe, Int.reduceLT, Int.reduceLE, Int.reduceEq, Int.reduceAdd, Int.reduceSub, Int.reduceNeg, reduceCtorEq, jrV, zeroDev]
      refine fin_ret (G := G0) Try.results51 ?_
      simp only [go_sem, Nat.reduceAdd, Nat.reduceSub, Nat.reduceMul, Nat.reduceEqDiff, Nat.reduceLT, Nat.reduceLeDiff, Nat.reduceBEq, Nat.reduceBNe, Int.reduceLT, Int.reduceLE, Int.reduceEq, Int.reduceAdd, Int.reduceSub, Int.reduceNeg, reduceCtorEq]
      intro aa w' _ hle
      exact .inr ⟨hnf, _, by rw [← hJ3]; rfl, fun h => absurd h hy, fun _ _ => rfl⟩
end Go.Proofs.Ytomfladifefomaa
