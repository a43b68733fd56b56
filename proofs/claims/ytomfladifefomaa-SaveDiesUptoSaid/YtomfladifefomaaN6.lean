/- ring.Format, icehousekeep.formatted, ring.newest. Conditions: as each law states them. -/
import Derived.Test.YtomfladifefomaaN5
namespace Go.Proofs.Ytomfladifefomaa
open Go.RowKit
set_option linter.unusedSimpArgs false
theorem now_mine {E : Env} {σ : St} {G : GW} (hn : Now E σ G) {id : Nat} {b : Bl} (h : getBl σ.blks id = some b) : G.M b.g := hn.mine b (getBl_mem h)
theorem now_blk {E : Env} {σ : St} {G : GW} (hn : Now E σ G) {id : Nat} {b : Bl} (h : getBl σ.blks id = some b) : Blk G.w b.g b.t (dens b.cs) := hn.blks b (getBl_mem h)
theorem byG_none (G : GW) : ByG G (.slice none 0 0) [] := ⟨none, 0, rfl, Nat.le_refl _, by unfold maxLen; omega, rfl, fun h => absurd h (by simp)⟩
def firstJ : Jr := ⟨1, 1, 0, 0, 0, 1, 0, 1, 0⟩
def fmtTo (d : Dev) : Dev × Int := hFlush (hPut (hPut (d, 0) 0 []) 1 (superB firstJ))
theorem hPut_ok {d : Dev} {a : Int} {bs : List UInt8} (h0 : 0 ≤ a) (h1 : a < d.safe.length) (hb : bs.length ≤ 64) (hc : d.cache.length < 2000) (hf : d.fuel ≠ 0) : hPut (d, 0) a bs = (putDev d a bs, 0) := by
  have hp : putErr d a bs.length = 0 := by
    unfold putErr
    rw [if_neg (by omega), if_neg (by omega), if_neg (by omega), if_neg hf]
  simp [hPut, hp]
theorem hFlush_ok {d : Dev} (hf : d.fuel ≠ 0) : hFlush (d, 0) = (flushDev d, 0) := by
  have hp : downErr d = 0 := by unfold downErr; rw [if_neg hf]
  simp [hFlush, hp]
theorem putDev_safe (d : Dev) (a : Int) (bs : List UInt8) : (putDev d a bs).safe = d.safe := rfl
theorem putDev_cache (d : Dev) (a : Int) (bs : List UInt8) : (putDev d a bs).cache.length = d.cache.length + 1 := by simp [putDev]
theorem putDev_fuel {d : Dev} (h : d.fuel = -1) (a : Int) (bs : List UInt8) : (putDev d a bs).fuel = -1 := spent_fuel1 h
theorem flushDev_fuel {d : Dev} (h : d.fuel = -1) : (flushDev d).fuel = -1 := spent_fuel1 h
theorem flushDev_cache (d : Dev) : (flushDev d).cache.length = 0 := rfl
theorem fmt_ok {g : Geo} (hg : GoodGeo g) : fmtTo (newDev g) = (flushDev (putDev (putDev (newDev g) 0 []) 1 (superB firstJ)), 0) := by
  have hs := (newGood g hg).safe
  unfold sectorsOf at hs
  have := hg.r1; have := hg.a1; have := hg.h1
  have hf : (newDev g).fuel = -1 := rfl
  have hc : (newDev g).cache.length = 0 := rfl
  have hl := superB_len firstJ
  unfold fmtTo
  rw [hPut_ok (by omega) (by omega) (by simp) (by omega) (by rw [hf]; decide), hPut_ok (by omega) (by rw [putDev_safe]; omega) (by omega) (by rw [putDev_cache]; omega) (by rw [putDev_fuel hf]; decide), hFlush_ok (by rw [putDev_fuel (putDev_fuel hf _ _)]; decide)]
theorem handE_good {g : Geo} {x : Dev × Int} {j : Jr} {v : Value} {G : GW} (h : HandE g x j v G) (he : x.2 = 0) : ∃ dv, v = .tuple #[dv, jrV j, .int .i64 0] ∧ DevG G dv x.1 := by
  obtain ⟨dv, e, h1, _⟩ := h
  rw [he, if_pos rfl] at e
  exact ⟨dv, e, h1 (.inl he)⟩
set_option maxRecDepth 100000 in
set_option maxHeartbeats 16000000 in
theorem format_does {g : Geo} (hg : GoodGeo g) {d : Dev} (hd : GoodDev g d) (he : (fmtTo d).2 = 0) {dv : Value} {G0 : GW} (hW : G0.Wf) (hT : Tid bX G0) (h : DevG G0 dv d) :
    Calls Try.prog 74 #[geoV g, dv] G0.w (Ret G0 fun v G => ∃ dv, v = .tuple #[dv, jrV firstJ, .int .i64 0] ∧ DevG G dv (fmtTo d).1) := by
  obtain ⟨A1, k1, A2, k2, A3, k3, rfl, hfo⟩ := h.form
  clear hfo
  refine enter (G := G0) (n := 37) 3000 hW Try.func74 rfl Try.ntmps74 (by simp) ?_
  simp only [go_sem, Nat.reduceAdd, Nat.reduceSub, Nat.reduceMul, Nat.reduceEqDiff, Nat.reduceLT, Nat.reduceLeDiff, Nat.reduceBEq, Nat.reduceBNe, Int.reduceLT, Int.reduceLE, Int.reduceEq, Int.reduceAdd, Int.reduceSub, Int.reduceNeg, reduceCtorEq, geoV]
  intro g1 g2 g3 g4
  refine plain_ok (N := 3000) (call_does (fun v G => v = .int .i64 0) rfl rfl (by kernel_rfl) rfl (by simp only [dOk_some, dOk_none, Nat.reduceLT]) (fun G hG => chk hg hd (h.mono (hG.le G0 (by simp))))) (QOk_body _ _ _) (by first | exact .inl rfl | exact .inr ⟨_, _, rfl, rfl⟩) ?_
  rintro _ ⟨_, G1, rfl, hn1, rfl⟩
  clear hn1
  simp only [go_sem, Nat.reduceAdd, Nat.reduceSub, Nat.reduceMul, Nat.reduceEqDiff, Nat.reduceLT, Nat.reduceLeDiff, Nat.reduceBEq, Nat.reduceBNe, Int.reduceLT, Int.reduceLE, Int.reduceEq, Int.reduceAdd, Int.reduceSub, Int.reduceNeg, reduceCtorEq]
  intro g5 g6
  have hh0 : HandG g (d, 0) [.v (.int .i64 g.ring), .v (.int .i64 g.area), .v (.int .i64 g.hot), .v (.int .i64 g.volume), .v (.int .i64 g.volumes), .v (.slice A1 d.safe.length k1), .v (.slice A2 d.cache.length k2), .v (.slice A3 d.vols.length k3), .v (.int .i64 d.fuel), .v (.int .i64 0)] G0 := ⟨A1, k1, A2, k2, A3, k3, rfl, h⟩
  refine plain_ok (N := 3000) (callP_does 5 g6 handT 10 (fun _ cs G => HandG g (hPut (d, 0) 0 []) cs G) rfl rfl (by kernel_rfl) rfl (by simp only [dOk_some, dOk_none, Nat.reduceLT]) rfl rfl rfl rfl (fun G hG => hput_does (x := (d, 0)) (a := 0) (bs := []) hg hd hG.wf (tidB hG (fun _ h => h) hT hW rfl rfl (by simp) (by simp; decide)) (now_mine (id := 5) hG rfl) (now_blk (id := 5) hG rfl) (hh0.mono (hG.le G0 (by simp))) (byG_none G))) (QOk_body _ _ _) (by first | exact .inl rfl | exact .inr ⟨_, _, rfl, rfl⟩) ?_
  rintro _ ⟨v1, cs1, G2, _, ⟨B1, m1, B2, m2, B3, m3, rfl, hd1⟩, hle2, rfl⟩
  have hgd1 := hPut_good (g := g) (x := (d, 0)) hd 0 []
  have hh1 : HandG g (hPut (d, 0) 0 []) [.v (.int .i64 g.ring), .v (.int .i64 g.area), .v (.int .i64 g.hot), .v (.int .i64 g.volume), .v (.int .i64 g.volumes), .v (.slice B1 (hPut (d, 0) 0 []).1.safe.length m1), .v (.slice B2 (hPut (d, 0) 0 []).1.cache.length m2), .v (.slice B3 (hPut (d, 0) 0 []).1.vols.length m3), .v (.int .i64 (hPut (d, 0) 0 []).1.fuel), .v (.int .i64 (hPut (d, 0) 0 []).2)] G2 := ⟨B1, m1, B2, m2, B3, m3, rfl, hd1⟩
  have hx2 : (fmtTo d) = hFlush (hPut (hPut (d, 0) 0 []) 1 (superB firstJ)) := rfl
  rw [hx2] at he ⊢
  clear hd1 hle2 hh0 hx2
  generalize hPut (d, 0) 0 [] = x1 at *
  simp only [go_sem, Nat.reduceAdd, Nat.reduceSub, Nat.reduceMul, Nat.reduceEqDiff, Nat.reduceLT, Nat.reduceLeDiff, Nat.reduceBEq, Nat.reduceBNe, Int.reduceLT, Int.reduceLE, Int.reduceEq, Int.reduceAdd, Int.reduceSub, Int.reduceNeg, reduceCtorEq]
  refine plain_ok (N := 3000) (call_does (fun u G => ∃ A c, u = .slice A 19 c ∧ ByG G (.slice A 19 c) (superB firstJ)) rfl rfl (by kernel_rfl) rfl (by simp only [dOk_some, dOk_none, Nat.reduceLT]) (fun G hG => super_does (j := firstJ) hG.wf)) (QOk_body _ _ _) (by first | exact .inl rfl | exact .inr ⟨_, _, rfl, rfl⟩) ?_
  rintro _ ⟨_, G3, ⟨As, cs, rfl, hbs⟩, hn3, rfl⟩
  have hl23 : G2.Le G3 := hn3.le G2 (by simp)
  clear hn3
  simp only [go_sem, Nat.reduceAdd, Nat.reduceSub, Nat.reduceMul, Nat.reduceEqDiff, Nat.reduceLT, Nat.reduceLeDiff, Nat.reduceBEq, Nat.reduceBNe, Int.reduceLT, Int.reduceLE, Int.reduceEq, Int.reduceAdd, Int.reduceSub, Int.reduceNeg, reduceCtorEq]
  refine plain_ok (N := 3000) (callP_does 5 g6 handT 10 (fun _ cs G => HandG g (hPut x1 1 (superB firstJ)) cs G) rfl rfl (by kernel_rfl) rfl (by simp only [dOk_some, dOk_none, Nat.reduceLT]) rfl rfl rfl rfl (fun G hG => hput_does (x := x1) (a := 1) (bs := superB firstJ) hg hgd1 hG.wf (tidB hG (fun _ h => h) hT hW rfl rfl (by simp) (by simp; decide)) (now_mine (id := 5) hG rfl) (now_blk (id := 5) hG rfl) (hh1.mono (hG.le G2 (by simp))) (hbs.mono (hG.le G3 (by simp))))) (QOk_body _ _ _) (by first | exact .inl rfl | exact .inr ⟨_, _, rfl, rfl⟩) ?_
  rintro _ ⟨v2, cs2, G4, _, ⟨C1, n1, C2, n2, C3, n3, rfl, hd2⟩, hle4, rfl⟩
  have hgd2 := hPut_good (g := g) (x := x1) hgd1 1 (superB firstJ)
  have hh2 : HandG g (hPut x1 1 (superB firstJ)) [.v (.int .i64 g.ring), .v (.int .i64 g.area), .v (.int .i64 g.hot), .v (.int .i64 g.volume), .v (.int .i64 g.volumes), .v (.slice C1 (hPut x1 1 (superB firstJ)).1.safe.length n1), .v (.slice C2 (hPut x1 1 (superB firstJ)).1.cache.length n2), .v (.slice C3 (hPut x1 1 (superB firstJ)).1.vols.length n3), .v (.int .i64 (hPut x1 1 (superB firstJ)).1.fuel), .v (.int .i64 (hPut x1 1 (superB firstJ)).2)] G4 := ⟨C1, n1, C2, n2, C3, n3, rfl, hd2⟩
  clear hd2 hle4 hh1
  generalize hPut x1 1 (superB firstJ) = x2 at *
  simp only [go_sem, Nat.reduceAdd, Nat.reduceSub, Nat.reduceMul, Nat.reduceEqDiff, Nat.reduceLT, Nat.reduceLeDiff, Nat.reduceBEq, Nat.reduceBNe, Int.reduceLT, Int.reduceLE, Int.reduceEq, Int.reduceAdd, Int.reduceSub, Int.reduceNeg, reduceCtorEq]
  refine plain_ok (N := 3000) (callP_does 5 g6 handT 10 (fun _ cs G => HandG g (hFlush x2) cs G) rfl rfl (by kernel_rfl) rfl (by simp only [dOk_some, dOk_none, Nat.reduceLT]) rfl rfl rfl rfl (fun G hG => hflush_does (x := x2) hg hgd2 hG.wf (tidB hG (fun _ h => h) hT hW rfl rfl (by simp) (by simp; decide)) (now_mine (id := 5) hG rfl) (now_blk (id := 5) hG rfl) (hh2.mono (hG.le G4 (by simp))))) (QOk_body _ _ _) (by first | exact .inl rfl | exact .inr ⟨_, _, rfl, rfl⟩) ?_
  rintro _ ⟨v3, cs3, G5, _, ⟨D1, o1, D2, o2, D3, o3, rfl, hd3⟩, hle5, rfl⟩
  have hh3 : HandG g (hFlush x2) [.v (.int .i64 g.ring), .v (.int .i64 g.area), .v (.int .i64 g.hot), .v (.int .i64 g.volume), .v (.int .i64 g.volumes), .v (.slice D1 (hFlush x2).1.safe.length o1), .v (.slice D2 (hFlush x2).1.cache.length o2), .v (.slice D3 (hFlush x2).1.vols.length o3), .v (.int .i64 (hFlush x2).1.fuel), .v (.int .i64 (hFlush x2).2)] G5 := ⟨D1, o1, D2, o2, D3, o3, rfl, hd3⟩
  clear hd3 hle5 hh2
  generalize hFlush x2 = x3 at *
  simp only [go_sem, Nat.reduceAdd, Nat.reduceSub, Nat.reduceMul, Nat.reduceEqDiff, Nat.reduceLT, Nat.reduceLeDiff, Nat.reduceBEq, Nat.reduceBNe, Int.reduceLT, Int.reduceLE, Int.reduceEq, Int.reduceAdd, Int.reduceSub, Int.reduceNeg, reduceCtorEq]
  refine plain_ok (N := 3000) (callP_does 5 g6 handT 10 (fun v cs G => HandG g x3 cs G ∧ ∃ dv, v = .tuple #[dv, jrV firstJ, .int .i64 0] ∧ DevG G dv x3.1) rfl rfl (by kernel_rfl) rfl (by simp only [dOk_some, dOk_none, Nat.reduceLT]) rfl rfl rfl rfl (fun G hG => RetP.mono (hend_does (x := x3) (j := firstJ) hG.wf (now_mine (id := 5) hG rfl) (now_blk (id := 5) hG rfl) (hh3.mono (hG.le G5 (by simp)))) fun v cs G' hh => ⟨hh.1, handE_good hh.2 he⟩)) (QOk_body _ _ _) (by first | exact .inl rfl | exact .inr ⟨_, _, rfl, rfl⟩) ?_
  rintro _ ⟨v4, cs4, G6, _, ⟨⟨E1, p1, E2, p2, E3, p3, rfl, hd4⟩, dv, rfl, hd5⟩, hle6, rfl⟩
  obtain ⟨F1, q1, F2, q2, F3, q3, rfl, hfo⟩ := hd5.form
  clear hfo hd4
  simp only [go_sem, Nat.reduceAdd, Nat.reduceSub, Nat.reduceMul, Nat.reduceEqDiff, Nat.reduceLT, Nat.reduceLeDiff, Nat.reduceBEq, Nat.reduceBNe, Int.reduceLT, Int.reduceLE, Int.reduceEq, Int.reduceAdd, Int.reduceSub, Int.reduceNeg, reduceCtorEq, jrV, firstJ]
  refine fin_ret (G := G0) Try.results74 ?_
  simp only [go_sem, Nat.reduceAdd, Nat.reduceSub, Nat.reduceMul, Nat.reduceEqDiff, Nat.reduceLT, Nat.reduceLeDiff, Nat.reduceBEq, Nat.reduceBNe, Int.reduceLT, Int.reduceLE, Int.reduceEq, Int.reduceAdd, Int.reduceSub, Int.reduceNeg, reduceCtorEq]
  intro aa w' _ hle
  exact ⟨_, rfl, hd5.mono (hle G6 (by simp))⟩
def fmtDev (g : Geo) : Dev := flushDev (putDev (putDev (newDev g) 0 []) 1 (superB firstJ))
theorem fmtDev_good {g : Geo} (hg : GoodGeo g) : GoodDev g (fmtDev g) ∧ (fmtDev g).fuel = -1 ∧ (fmtDev g).cache.length = 0 := by
  have e := fmt_ok hg
  have h1 : GoodDev g (fmtTo (newDev g)).1 := hFlush_good (hPut_good (hPut_good (newGood g hg) _ _) _ _)
  rw [e] at h1
  exact ⟨h1, flushDev_fuel (putDev_fuel (putDev_fuel rfl _ _) _ _), rfl⟩
set_option maxRecDepth 100000 in
set_option maxHeartbeats 16000000 in
theorem formatted_does {g : Geo} (hg : GoodGeo g) {G0 : GW} (hW : G0.Wf) (hT : Tid devX G0) :
    Calls Try.prog 49 #[geoV g] G0.w (Ret G0 fun v G => ∃ dv, v = .tuple #[dv, jrV firstJ, .bool true] ∧ DevG G dv (fmtDev g)) := by
  have hTB : Tid bX G0 := fun k hk cur t fr hb => by
    have := hT k hk cur t fr hb
    cases hx : bX t with
    | false => rfl
    | true => rw [bX_devX t hx] at this; cases this
  refine enter (G := G0) (n := 29) 3000 hW Try.func49 rfl Try.ntmps49 (by simp) ?_
  simp only [go_sem, Nat.reduceAdd, Nat.reduceSub, Nat.reduceMul, Nat.reduceEqDiff, Nat.reduceLT, Nat.reduceLeDiff, Nat.reduceBEq, Nat.reduceBNe, Int.reduceLT, Int.reduceLE, Int.reduceEq, Int.reduceAdd, Int.reduceSub, Int.reduceNeg, reduceCtorEq, geoV]
  intro g1 g2 g3
  refine plain_ok (N := 3000) (call_does (fun v G => ∃ dv, v = .tuple #[dv, .int .i64 0] ∧ DevG G dv (newDev g)) rfl rfl (by kernel_rfl) rfl (by simp only [dOk_some, dOk_none, Nat.reduceLT]) (fun G hG => new_does hg hG.wf (tidM hG (fun _ h => h) hT hW rfl rfl (by simp) (by simp; decide)))) (QOk_body _ _ _) (by first | exact .inl rfl | exact .inr ⟨_, _, rfl, rfl⟩) ?_
  rintro _ ⟨_, G1, ⟨dv, rfl, hd0⟩, hn1, rfl⟩
  clear hn1
  obtain ⟨A1, k1, A2, k2, A3, k3, rfl, hfo⟩ := hd0.form
  clear hfo
  simp only [go_sem, Nat.reduceAdd, Nat.reduceSub, Nat.reduceMul, Nat.reduceEqDiff, Nat.reduceLT, Nat.reduceLeDiff, Nat.reduceBEq, Nat.reduceBNe, Int.reduceLT, Int.reduceLE, Int.reduceEq, Int.reduceAdd, Int.reduceSub, Int.reduceNeg, reduceCtorEq]
  intro g4
  have hfm : (fmtTo (newDev g)) = (fmtDev g, 0) := fmt_ok hg
  refine plain_ok (N := 3000) (call_does (fun v G => ∃ dv, v = .tuple #[dv, jrV firstJ, .int .i64 0] ∧ DevG G dv (fmtDev g)) rfl rfl (by kernel_rfl) rfl (by simp only [dOk_some, dOk_none, Nat.reduceLT]) (fun G hG => ret_mono (format_does hg (newGood g hg) (by rw [hfm]) hG.wf (tidM hG (fun _ h => h) hTB hW rfl rfl (by simp) (by simp; decide)) (hd0.mono (hG.le G1 (by simp)))) fun v G' _ h => by rw [hfm] at h; exact h)) (QOk_body _ _ _) (by first | exact .inl rfl | exact .inr ⟨_, _, rfl, rfl⟩) ?_
  rintro _ ⟨_, G2, ⟨dv, rfl, hd1⟩, hn2, rfl⟩
  clear hn2
  obtain ⟨B1, m1, B2, m2, B3, m3, rfl, hfo⟩ := hd1.form
  clear hfo
  simp only [go_sem, Nat.reduceAdd, Nat.reduceSub, Nat.reduceMul, Nat.reduceEqDiff, Nat.reduceLT, Nat.reduceLeDiff, Nat.reduceBEq, Nat.reduceBNe, Int.reduceLT, Int.reduceLE, Int.reduceEq, Int.reduceAdd, Int.reduceSub, Int.reduceNeg, reduceCtorEq, jrV, firstJ]
  intro g5
  refine draw_ok (N := 3000) (.take 0 (.take 1 (.take 2 (.take 3 (.take 4 (.take 5 (.take 6 (.take 7 (.alt 8 (.alt 9 (.take 10 .done) .last) .last))))))))) [1, 2] (QOk_body _ _ _) follows_mixed (by kernel_rfl) (by kernel_rfl) ?_
  simp only [go_sem, Nat.reduceAdd, Nat.reduceSub, Nat.reduceMul, Nat.reduceEqDiff, Nat.reduceLT, Nat.reduceLeDiff, Nat.reduceBEq, Nat.reduceBNe, Int.reduceLT, Int.reduceLE, Int.reduceEq, Int.reduceAdd, Int.reduceSub, Int.reduceNeg, reduceCtorEq]
  refine fin_ret (G := G0) Try.results49 ?_
  simp only [go_sem, Nat.reduceAdd, Nat.reduceSub, Nat.reduceMul, Nat.reduceEqDiff, Nat.reduceLT, Nat.reduceLeDiff, Nat.reduceBEq, Nat.reduceBNe, Int.reduceLT, Int.reduceLE, Int.reduceEq, Int.reduceAdd, Int.reduceSub, Int.reduceNeg, reduceCtorEq]
  intro aa w' _ hle
  exact ⟨_, rfl, hd1.mono (hle G2 (by simp))⟩
/-- the newest of two superblocks -/
def newerJ (g : Geo) (c : Nat → List UInt8) (at_ : Nat) (best : Jr) : Jr := if supOk g (at_ : Int) (c at_) = true ∧ best.gen < (fieldsJ (c at_)).gen then fieldsJ (c at_) else best
def newestJ (g : Geo) (c : Nat → List UInt8) : Jr := newerJ g c 1 (newerJ g c 0 zeroJr)
def newestTo (g : Geo) (c : Nat → List UInt8) : Nat → Jr
  | 0 => zeroJr
  | n + 1 => newerJ g c n (newestTo g c n)
set_option maxRecDepth 100000 in
set_option maxHeartbeats 16000000 in
theorem newest_does {g : Geo} (hg : GoodGeo g) {d : Dev} (hd : GoodDev g d) {dv : Value} {G0 : GW} (hW : G0.Wf) (h : DevG G0 dv d) :
    Calls Try.prog 81 #[geoV g, dv] G0.w (Ret G0 fun v _ => v = .tuple #[jrV (newestJ g (content d)), .bool (decide (0 < (newestJ g (content d)).gen))]) := by
  have hs := hd.safe
  unfold sectorsOf at hs
  have := hg.r1; have := hg.a1; have := hg.h1
  obtain ⟨A1, k1, A2, k2, A3, k3, rfl, hfo⟩ := h.form
  clear hfo
  refine enter (G := G0) (n := 43) 3000 hW Try.func81 rfl Try.ntmps81 (by simp) ?_
  simp only [go_sem, Nat.reduceAdd, Nat.reduceSub, Nat.reduceMul, Nat.reduceEqDiff, Nat.reduceLT, Nat.reduceLeDiff, Nat.reduceBEq, Nat.reduceBNe, Int.reduceLT, Int.reduceLE, Int.reduceEq, Int.reduceAdd, Int.reduceSub, Int.reduceNeg, reduceCtorEq, geoV]
  intro g1 g2 g3 g4
  refine loop_ok (N := 3000) (ι := Nat × Jr × GW)
    (fun i => match i with | (v, b, G) => ⟨[(2, .c (.p 0 g1 0)), (3, .c (.p 1 g2 0)), (4, .c (.p 2 g3 0)), (6, .c (.p 3 g4 0)), (12, .c (.v (.int .i64 (v : Int))))], [⟨3, g4, 81, [.v (.int .i64 b.gen), .v (.int .i64 b.epoch), .v (.int .i64 b.area), .v (.int .i64 b.length), .v (.int .i64 b.start), .v (.int .i64 b.first), .v (.int .i64 b.place), .v (.int .i64 b.next), .v (.int .i64 b.used)]⟩, ⟨2, g3, 81, [.v (.int .i64 0), .v (.int .i64 0), .v (.int .i64 0), .v (.int .i64 0), .v (.int .i64 0), .v (.int .i64 0), .v (.int .i64 0), .v (.int .i64 0), .v (.int .i64 0)]⟩, ⟨1, g2, 37, [.v (.slice A1 d.safe.length k1), .v (.slice A2 d.cache.length k2), .v (.slice A3 d.vols.length k3), .v (.int .i64 d.fuel)]⟩, ⟨0, g1, 32, [.v (.int .i64 g.ring), .v (.int .i64 g.area), .v (.int .i64 g.hot), .v (.int .i64 g.volume), .v (.int .i64 g.volumes)]⟩], [], [], [G], 4⟩)
    (fun i => match i with | (v, b, G) => v ≤ 2 ∧ b = newestTo g (content d) v ∧ DevG G (.agg #[.slice A1 d.safe.length k1, .slice A2 d.cache.length k2, .slice A3 d.vols.length k3, .int .i64 d.fuel]) d) (fun i => 2 - i.1) (QOk_body _ _ _) (0, zeroJr, G0) ⟨by omega, rfl, h⟩ (by simp only [go_sem, Nat.reduceAdd, Nat.reduceSub, Nat.reduceMul, Nat.reduceEqDiff, Nat.reduceLT, Nat.reduceLeDiff, Nat.reduceBEq, Nat.reduceBNe, Int.reduceLT, Int.reduceLE, Int.reduceEq, Int.reduceAdd, Int.reduceSub, Int.reduceNeg, reduceCtorEq]; simp [zeroJr]) ?_
  clear h
  rintro ⟨v, b, G1⟩ ⟨hv, hb, h⟩
  simp only
  by_cases hlt : v < 2
  · have q1 : decide ((v : Int) < 2) = true := decide_eq_true (by omega)
    simp only [go_sem, Nat.reduceAdd, Nat.reduceSub, Nat.reduceMul, Nat.reduceEqDiff, Nat.reduceLT, Nat.reduceLeDiff, Nat.reduceBEq, Nat.reduceBNe, Int.reduceLT, Int.reduceLE, Int.reduceEq, Int.reduceAdd, Int.reduceSub, Int.reduceNeg, reduceCtorEq, q1]
    refine plain_ok (N := 3000) (call_does (fun u G => ∃ A c, u = .tuple #[.slice A 64 c, .int .i64 0] ∧ ByG G (.slice A 64 c) (content d v)) rfl rfl (by kernel_rfl) rfl (by simp only [dOk_some, dOk_none, Nat.reduceLT]) (fun G hG => get_ok hg hd (by omega) hG.wf (h.mono (hG.le G1 (by simp))))) (QOk_body _ _ _) (by first | exact .inl rfl | exact .inr ⟨_, _, rfl, rfl⟩) ?_
    rintro _ ⟨_, G2, ⟨Ag, cg, rfl, hgot⟩, hn2, rfl⟩
    clear hn2
    simp only [go_sem, Nat.reduceAdd, Nat.reduceSub, Nat.reduceMul, Nat.reduceEqDiff, Nat.reduceLT, Nat.reduceLeDiff, Nat.reduceBEq, Nat.reduceBNe, Int.reduceLT, Int.reduceLE, Int.reduceEq, Int.reduceAdd, Int.reduceSub, Int.reduceNeg, reduceCtorEq]
    have hcl : (content d v).length = 64 := val_len hd all_ v (by omega) _
    refine plain_ok (N := 3000) (call_does (fun u _ => u = .tuple #[jrV (fieldsJ (content d v)), .bool (supOk g (v : Int) (content d v))]) rfl rfl (by kernel_rfl) rfl (by simp only [dOk_some, dOk_none, Nat.reduceLT]) (fun G hG => unsuper_does (at_ := (v : Int)) hg hcl hG.wf (hgot.mono (hG.le G2 (by simp))))) (QOk_body _ _ _) (by first | exact .inl rfl | exact .inr ⟨_, _, rfl, rfl⟩) ?_
    rintro _ ⟨_, G3, rfl, hn3, rfl⟩
    have hl13 : G1.Le G3 := hn3.le G1 (by simp)
    clear hn3
    have hne : newestTo g (content d) (v + 1) = newerJ g (content d) v b := by rw [hb]; rfl
    unfold newerJ at hne
    generalize fieldsJ (content d v) = f at hne
    generalize hso : supOk g (v : Int) (content d v) = so at hne
    cases so with
    | false =>
      rw [if_neg (by simp)] at hne
      simp only [go_sem, Nat.reduceAdd, Nat.reduceSub, Nat.reduceMul, Nat.reduceEqDiff, Nat.reduceLT, Nat.reduceLeDiff, Nat.reduceBEq, Nat.reduceBNe, Int.reduceLT, Int.reduceLE, Int.reduceEq, Int.reduceAdd, Int.reduceSub, Int.reduceNeg, reduceCtorEq, jrV]
      intro g5
      exact ⟨by omega, again_ok (v + 1, b, G3) ⟨by omega, hne.symm, h.mono hl13⟩ (by simp only; omega) (by simp only [go_sem, Nat.reduceAdd, Nat.reduceSub, Nat.reduceMul, Nat.reduceEqDiff, Nat.reduceLT, Nat.reduceLeDiff, Nat.reduceBEq, Nat.reduceBNe, Int.reduceLT, Int.reduceLE, Int.reduceEq, Int.reduceAdd, Int.reduceSub, Int.reduceNeg, reduceCtorEq]; simp)⟩
    | true =>
      by_cases hgt : b.gen < f.gen
      · have q2 : decide (b.gen < f.gen) = true := decide_eq_true hgt
        rw [if_pos ⟨rfl, hgt⟩] at hne
        simp only [go_sem, Nat.reduceAdd, Nat.reduceSub, Nat.reduceMul, Nat.reduceEqDiff, Nat.reduceLT, Nat.reduceLeDiff, Nat.reduceBEq, Nat.reduceBNe, Int.reduceLT, Int.reduceLE, Int.reduceEq, Int.reduceAdd, Int.reduceSub, Int.reduceNeg, reduceCtorEq, jrV, q2]
        intro g5
        exact ⟨by omega, again_ok (v + 1, f, G3) ⟨by omega, hne.symm, h.mono hl13⟩ (by simp only; omega) (by simp only [go_sem, Nat.reduceAdd, Nat.reduceSub, Nat.reduceMul, Nat.reduceEqDiff, Nat.reduceLT, Nat.reduceLeDiff, Nat.reduceBEq, Nat.reduceBNe, Int.reduceLT, Int.reduceLE, Int.reduceEq, Int.reduceAdd, Int.reduceSub, Int.reduceNeg, reduceCtorEq]; simp)⟩
      · have q2 : decide (b.gen < f.gen) = false := decide_eq_false hgt
        rw [if_neg (fun q => hgt q.2)] at hne
        simp only [go_sem, Nat.reduceAdd, Nat.reduceSub, Nat.reduceMul, Nat.reduceEqDiff, Nat.reduceLT, Nat.reduceLeDiff, Nat.reduceBEq, Nat.reduceBNe, Int.reduceLT, Int.reduceLE, Int.reduceEq, Int.reduceAdd, Int.reduceSub, Int.reduceNeg, reduceCtorEq, jrV, q2]
        intro g5
        exact ⟨by omega, again_ok (v + 1, b, G3) ⟨by omega, hne.symm, h.mono hl13⟩ (by simp only; omega) (by simp only [go_sem, Nat.reduceAdd, Nat.reduceSub, Nat.reduceMul, Nat.reduceEqDiff, Nat.reduceLT, Nat.reduceLeDiff, Nat.reduceBEq, Nat.reduceBNe, Int.reduceLT, Int.reduceLE, Int.reduceEq, Int.reduceAdd, Int.reduceSub, Int.reduceNeg, reduceCtorEq]; simp)⟩
  · have q1 : decide ((v : Int) < 2) = false := decide_eq_false (by omega)
    obtain rfl : v = 2 := by omega
    have hbe : newestJ g (content d) = b := hb.symm
    rw [hbe]
    simp only [go_sem, Nat.reduceAdd, Nat.reduceSub, Nat.reduceMul, Nat.reduceEqDiff, Nat.reduceLT, Nat.reduceLeDiff, Nat.reduceBEq, Nat.reduceBNe, Int.reduceLT, Int.reduceLE, Int.reduceEq, Int.reduceAdd, Int.reduceSub, Int.reduceNeg, reduceCtorEq, q1]
    refine draw_ok (N := 3000) (.take 0 (.take 1 (.take 2 (.take 3 (.alt 4 (.take 5 .done) .last))))) [2] (QOk_body _ _ _) follows_mixed (by kernel_rfl) (by kernel_rfl) ?_
    simp only [go_sem, Nat.reduceAdd, Nat.reduceSub, Nat.reduceMul, Nat.reduceEqDiff, Nat.reduceLT, Nat.reduceLeDiff, Nat.reduceBEq, Nat.reduceBNe, Int.reduceLT, Int.reduceLE, Int.reduceEq, Int.reduceAdd, Int.reduceSub, Int.reduceNeg, reduceCtorEq]
    refine fin_ret (G := G0) Try.results81 ?_
    simp only [go_sem, Nat.reduceAdd, Nat.reduceSub, Nat.reduceMul, Nat.reduceEqDiff, Nat.reduceLT, Nat.reduceLeDiff, Nat.reduceBEq, Nat.reduceBNe, Int.reduceLT, Int.reduceLE, Int.reduceEq, Int.reduceAdd, Int.reduceSub, Int.reduceNeg, reduceCtorEq]
    intro aa w' _ _
    rfl
end Go.Proofs.Ytomfladifefomaa
