/- ring.Open. Conditions: as each law states them. -/
import Derived.Test.YtomfladifefomaaN9
import Derived.Test.YtomfladifefomaaP2
namespace Go.Proofs.Ytomfladifefomaa
open Go.RowKit
set_option linter.unusedSimpArgs false
/-- the snapshot, sector by sector -/
def snapTo (g : Geo) (c : Nat → List UInt8) (j : Jr) : Nat → List UInt8
  | 0 => []
  | i + 1 => snapTo g c j i ++ (c (areaAt g j.area + (i : Int)).toNat).take (min 64 (j.length - ((64 * i : Nat) : Int))).toNat
def snapOf (g : Geo) (c : Nat → List UInt8) (j : Jr) : List UInt8 := snapTo g c j ((j.length + 63) / 64).toNat
def upJ (j : Jr) : Jr := { j with gen := j.gen + 1, epoch := j.epoch + 1 }
def openX (d : Dev) (j : Jr) : Dev × Int := hFlush (hPut (d, 0) (HMod.hMod (j.gen + 1) 2) (superB (upJ j)))
theorem txGo_bd {g : Geo} {c : Nat → List UInt8} {place n low : Int} : ∀ (f i : Nat) (ep : Int) (out b : List UInt8) (k : Nat) (e : Int), (∀ m : Nat, frBad (c (ringAt g (place + (m : Int)))) = false → (frOf (c (ringAt g (place + (m : Int))))).body.length ≤ 52) → txGo g c place n low f i ep out = some (b, k, e) → i < k ∧ k ≤ i + f ∧ b.length ≤ out.length + 52 * (k - i)
  | 0, _, _, _, _, _, _, _, h => by cases h
  | f + 1, i, ep, out, b, k, e, hb, h => by
    unfold txGo at h
    split at h
    · cases h
    · rename_i hbad
      have hb' := hb i (by simpa using hbad)
      split at h
      · cases h
      · split at h
        · cases h
          refine ⟨by omega, by omega, ?_⟩
          rw [List.length_append]
          omega
        · obtain ⟨h1, h2, h3⟩ := txGo_bd f (i + 1) _ _ b k e hb h
          rw [List.length_append] at h3
          exact ⟨by omega, by omega, by omega⟩
theorem openGo_stop {g : Geo} {c : Nat → List UInt8} {f : Nat} {j : Jr} {low : Int} {all : List (List UInt8)} (h : j.next < 1048576 → txGo g c j.place j.next low (g.ring - j.used).toNat 0 0 [] = none) : openGo g c (f + 1) j low all = (j, all) := by
  unfold openGo
  split
  · rename_i hn
    rw [h hn]
  · rfl
theorem openGo_more {g : Geo} {c : Nat → List UInt8} {f : Nat} {j : Jr} {low : Int} {all : List (List UInt8)} {b : List UInt8} {k : Nat} {e : Int} (hn : j.next < 1048576) (h : txGo g c j.place j.next low (g.ring - j.used).toNat 0 0 [] = some (b, k, e)) :
    openGo g c (f + 1) j low all = openGo g c f { j with place := HMod.hMod (j.place + (k : Int)) g.ring, used := j.used + (k : Int), next := j.next + 1 } e (all ++ [b]) := by
  rw [openGo, if_pos hn, h]
theorem us_push {G G' : GW} {us : List Value} {bs : List (List UInt8)} {u0 : Value} {x0 : List UInt8} (hul : us.length = bs.length) (h : ∀ (j : Nat) (u : Value) (x : List UInt8), us[j]? = some u → bs[j]? = some x → ByG G u x) (hle : G.Le G') (h0 : ByG G' u0 x0) :
    ∀ (j : Nat) (u : Value) (x : List UInt8), (us ++ [u0])[j]? = some u → (bs ++ [x0])[j]? = some x → ByG G' u x := by
  intro j u x h1 h2
  by_cases e : j < us.length
  · rw [List.getElem?_append_left e] at h1
    rw [List.getElem?_append_left (by omega)] at h2
    exact (h j u x h1 h2).mono hle
  · have hj : j = us.length := by
      have := (List.getElem?_eq_some_iff.1 h1).1
      rw [List.length_append, List.length_singleton] at this
      omega
    subst hj
    rw [List.getElem?_append_right (Nat.le_refl _), Nat.sub_self] at h1
    rw [hul, List.getElem?_append_right (Nat.le_refl _), Nat.sub_self] at h2
    have e1 : u0 = u := Option.some.inj h1
    have e2 : x0 = x := Option.some.inj h2
    rw [← e1, ← e2]
    exact h0
set_option maxRecDepth 100000 in
set_option maxHeartbeats 16000000 in
/-- no superblock: no journal -/
theorem open_none {g : Geo} (hg : GoodGeo g) {d : Dev} (hd : GoodDev g d) (hn : (newestJ g (content d)).gen ≤ 0) {dv : Value} {G0 : GW} (hW : G0.Wf) (h : DevG G0 dv d) :
    Calls Try.prog 53 #[geoV g, dv] G0.w (Ret G0 fun v _ => v = .tuple #[zeroDev, jrV zeroJr, .slice none 0 0, .slice none 0 0, .int .i64 4]) := by
  obtain ⟨A1, k1, A2, k2, A3, k3, rfl, hfo⟩ := h.form
  clear hfo
  refine enter (G := G0) (n := 164) 3000 hW Try.func53 rfl Try.ntmps53 (by simp) ?_
  simp only [go_sem, Nat.reduceAdd, Nat.reduceSub, Nat.reduceMul, Nat.reduceEqDiff, Nat.reduceLT, Nat.reduceLeDiff, Nat.reduceBEq, Nat.reduceBNe, Int.reduceLT, Int.reduceLE, Int.reduceEq, Int.reduceAdd, Int.reduceSub, Int.reduceNeg, reduceCtorEq, geoV]
  intro g1 g2 g3 g4
  refine plain_ok (N := 3000) (call_does (fun v G => v = .int .i64 0) rfl rfl (by kernel_rfl) rfl (by simp only [dOk_some, dOk_none, Nat.reduceLT]) (fun G hG => chk hg hd (h.mono (hG.le G0 (by simp))))) (QOk_body _ _ _) (by first | exact .inl rfl | exact .inr ⟨_, _, rfl, rfl⟩) ?_
  rintro _ ⟨_, G1, rfl, hn1, rfl⟩
  clear hn1
  simp only [go_sem, Nat.reduceAdd, Nat.reduceSub, Nat.reduceMul, Nat.reduceEqDiff, Nat.reduceLT, Nat.reduceLeDiff, Nat.reduceBEq, Nat.reduceBNe, Int.reduceLT, Int.reduceLE, Int.reduceEq, Int.reduceAdd, Int.reduceSub, Int.reduceNeg, reduceCtorEq]
  refine plain_ok (N := 3000) (call_does (fun v _ => v = .tuple #[jrV (newestJ g (content d)), .bool (decide (0 < (newestJ g (content d)).gen))]) rfl rfl (by kernel_rfl) rfl (by simp only [dOk_some, dOk_none, Nat.reduceLT]) (fun G hG => newest_does hg hd hG.wf (h.mono (hG.le G0 (by simp))))) (QOk_body _ _ _) (by first | exact .inl rfl | exact .inr ⟨_, _, rfl, rfl⟩) ?_
  rintro _ ⟨_, G2, rfl, hn2, rfl⟩
  clear hn2
  have q1 : decide (0 < (newestJ g (content d)).gen) = false := decide_eq_false (by omega)
  simp only [go_sem, Nat.reduceAdd, Nat.reduceSub, Nat.reduceMul, Nat.reduceEqDiff, Nat.reduceLT, Nat.reduceLeDiff, Nat.reduceBEq, Nat.reduceBNe, Int.reduceLT, Int.reduceLE, Int.reduceEq, Int.reduceAdd, Int.reduceSub, Int.reduceNeg, reduceCtorEq, jrV, q1]
  intro g5
  refine fin_ret (G := G0) Try.results53 ?_
  simp only [go_sem, Nat.reduceAdd, Nat.reduceSub, Nat.reduceMul, Nat.reduceEqDiff, Nat.reduceLT, Nat.reduceLeDiff, Nat.reduceBEq, Nat.reduceBNe, Int.reduceLT, Int.reduceLE, Int.reduceEq, Int.reduceAdd, Int.reduceSub, Int.reduceNeg, reduceCtorEq]
  intro aa w' _ _
  rfl
set_option maxRecDepth 100000 in
set_option maxHeartbeats 32000000 in
theorem open_does {g : Geo} (hg : GoodGeo g) {d : Dev} (hd : GoodDev g d) {J J2 : Jr} {all : List (List UInt8)} (hJ : newestJ g (content d) = J) (hok : okJ g J = true) (hJu : J.used = 0) (hJg : J.gen < 1048576) (hJe : J.epoch < 1048576) (hgo : openGo g (content d) 100 J 0 [] = (J2, all)) (hx : (openX d J2).2 = 0)
    {dv : Value} {G0 : GW} (hW : G0.Wf) (hT : Tid bX G0) (h : DevG G0 dv d) :
    Calls Try.prog 53 #[geoV g, dv] G0.w (Ret G0 fun v G => ∃ dv A c A2 c2, v = .tuple #[dv, jrV (upJ J2), .slice A (snapOf g (content d) J).length c, .slice A2 all.length c2, .int .i64 0] ∧ DevG G dv (openX d J2).1 ∧ ByG G (.slice A (snapOf g (content d) J).length c) (snapOf g (content d) J) ∧ SafG G (.slice A2 all.length c2) all) := by
  have hjj := of_decide_eq_true hok
  have := hg.r1; have := hg.r2; have := hg.a1; have := hg.a2; have := hg.h1
  have hs := hd.safe
  unfold sectorsOf at hs
  have hml := max_le
  obtain ⟨A1, k1, A2, k2, A3, k3, rfl, hfo⟩ := h.form
  clear hfo
  obtain ⟨L, hL⟩ : ∃ L : Nat, (L : Int) = J.length := ⟨J.length.toNat, by omega⟩
  obtain ⟨K, hK⟩ : ∃ K : Nat, K = ((J.length + 63) / 64).toNat := ⟨_, rfl⟩
  have har : 0 ≤ areaAt g J.area ∧ areaAt g J.area + g.area ≤ 2 + g.ring + 2 * g.area := by
    unfold areaAt
    rcases (show J.area = 0 ∨ J.area = 1 by omega) with e | e <;> rw [e] <;> omega
  have hsn : snapOf g (content d) J = snapTo g (content d) J K := by rw [hK]; rfl
  rw [hsn]
  clear hsn
  refine enter (G := G0) (n := 164) 3000 hW Try.func53 rfl Try.ntmps53 (by simp) ?_
  simp only [go_sem, Nat.reduceAdd, Nat.reduceSub, Nat.reduceMul, Nat.reduceEqDiff, Nat.reduceLT, Nat.reduceLeDiff, Nat.reduceBEq, Nat.reduceBNe, Int.reduceLT, Int.reduceLE, Int.reduceEq, Int.reduceAdd, Int.reduceSub, Int.reduceNeg, reduceCtorEq, geoV]
  intro g1 g2 g3 g4
  refine plain_ok (N := 3000) (call_does (fun v G => v = .int .i64 0) rfl rfl (by kernel_rfl) rfl (by simp only [dOk_some, dOk_none, Nat.reduceLT]) (fun G hG => chk hg hd (h.mono (hG.le G0 (by simp))))) (QOk_body _ _ _) (by first | exact .inl rfl | exact .inr ⟨_, _, rfl, rfl⟩) ?_
  rintro _ ⟨_, G1, rfl, hn1, rfl⟩
  clear hn1
  simp only [go_sem, Nat.reduceAdd, Nat.reduceSub, Nat.reduceMul, Nat.reduceEqDiff, Nat.reduceLT, Nat.reduceLeDiff, Nat.reduceBEq, Nat.reduceBNe, Int.reduceLT, Int.reduceLE, Int.reduceEq, Int.reduceAdd, Int.reduceSub, Int.reduceNeg, reduceCtorEq]
  refine plain_ok (N := 3000) (call_does (fun v _ => v = .tuple #[jrV J, .bool (decide (0 < J.gen))]) rfl rfl (by kernel_rfl) rfl (by simp only [dOk_some, dOk_none, Nat.reduceLT]) (fun G hG => ret_mono (newest_does hg hd hG.wf (h.mono (hG.le G0 (by simp)))) fun v G' _ h => by rw [h, hJ])) (QOk_body _ _ _) (by first | exact .inl rfl | exact .inr ⟨_, _, rfl, rfl⟩) ?_
  rintro _ ⟨_, G2, rfl, hn2, rfl⟩
  have hl02 : G0.Le G2 := hn2.le G0 (by simp)
  clear hn2
  have q1 : decide (0 < J.gen) = true := decide_eq_true (by omega)
  have q2 : decide (J.gen = 1048576) = false := decide_eq_false (by omega)
  have q3 : decide (J.epoch = 1048576) = false := decide_eq_false (by omega)
  simp only [go_sem, Nat.reduceAdd, Nat.reduceSub, Nat.reduceMul, Nat.reduceEqDiff, Nat.reduceLT, Nat.reduceLeDiff, Nat.reduceBEq, Nat.reduceBNe, Int.reduceLT, Int.reduceLE, Int.reduceEq, Int.reduceAdd, Int.reduceSub, Int.reduceNeg, reduceCtorEq, jrV, q1, q2, q3]
  intro g5
  refine row_ok 5 1 ?_
  refine loop_ok (N := 3000) (ι := Nat × (Option Addr × Nat) × GW)
    (fun i => match i with | (v, (A, c), G) => ⟨[(2, .c (.p 0 g1 0)), (3, .c (.p 1 g2 0)), (4, .c (.p 2 g3 0)), (5, .c (.p 3 g4 0)), (10, .c (.p 4 g5 0)), (12, .c (.v (.slice A (snapTo g (content d) J v).length c))), (13, .c (.v (.int .i64 ((64 * v : Nat) : Int))))],
      [⟨4, g5, 81, [.v (.int .i64 J.gen), .v (.int .i64 J.epoch), .v (.int .i64 J.area), .v (.int .i64 J.length), .v (.int .i64 J.start), .v (.int .i64 J.first), .v (.int .i64 J.place), .v (.int .i64 J.next), .v (.int .i64 J.used)]⟩, ⟨3, g4, 81, [.v (.int .i64 0), .v (.int .i64 0), .v (.int .i64 0), .v (.int .i64 0), .v (.int .i64 0), .v (.int .i64 0), .v (.int .i64 0), .v (.int .i64 0), .v (.int .i64 0)]⟩, ⟨2, g3, 37, [.v (.slice none 0 0), .v (.slice none 0 0), .v (.slice none 0 0), .v (.int .i64 0)]⟩, ⟨1, g2, 37, [.v (.slice A1 d.safe.length k1), .v (.slice A2 d.cache.length k2), .v (.slice A3 d.vols.length k3), .v (.int .i64 d.fuel)]⟩, ⟨0, g1, 32, [.v (.int .i64 g.ring), .v (.int .i64 g.area), .v (.int .i64 g.hot), .v (.int .i64 g.volume), .v (.int .i64 g.volumes)]⟩], [⟨.slice A (snapTo g (content d) J v).length c, 5, 1, (snapTo g (content d) J v).length, (snapTo g (content d) J v).map enc8⟩], [], [G, G0], 5⟩)
    (fun i => match i with | (v, _, G) => v ≤ K ∧ (snapTo g (content d) J v).length ≤ 64 * v ∧ DevG G (.agg #[.slice A1 d.safe.length k1, .slice A2 d.cache.length k2, .slice A3 d.vols.length k3, .int .i64 d.fuel]) d) (fun i => K - i.1) (QOk_body _ _ _) (0, (none, 0), G2) ⟨by omega, by simp [snapTo], h.mono hl02⟩ (by simp only [go_sem, Nat.reduceAdd, Nat.reduceSub, Nat.reduceMul, Nat.reduceEqDiff, Nat.reduceLT, Nat.reduceLeDiff, Nat.reduceBEq, Nat.reduceBNe, Int.reduceLT, Int.reduceLE, Int.reduceEq, Int.reduceAdd, Int.reduceSub, Int.reduceNeg, reduceCtorEq]; simp [snapTo]) ?_
  rintro ⟨v, ⟨A, c⟩, G3⟩ ⟨hv, hvl, h3⟩
  simp only
  by_cases hlt : v < K
  · have p1 : decide (((64 * v : Nat) : Int) < J.length) = true := decide_eq_true (by omega)
    have e64 : (((64 * v : Nat) : Int)).tdiv 64 = (v : Int) := by rw [Int.tdiv_eq_ediv_of_nonneg (by omega)]; omega
    obtain ⟨ra, hra⟩ : ∃ ra : Nat, (ra : Int) = areaAt g J.area + (v : Int) := ⟨(areaAt g J.area + (v : Int)).toNat, by omega⟩
    have hrl : ra < d.safe.length := by omega
    have hcl : (content d ra).length = 64 := val_len hd all_ ra hrl _
    obtain ⟨m, hm⟩ : ∃ m : Nat, (m : Int) = min 64 (J.length - ((64 * v : Nat) : Int)) := ⟨(min 64 (J.length - ((64 * v : Nat) : Int))).toNat, by omega⟩
    have hm64 : m ≤ 64 := by omega
    have hsv : snapTo g (content d) J (v + 1) = snapTo g (content d) J v ++ (content d ra).take m := by
      rw [snapTo, ← hra, ← hm, Int.toNat_natCast, Int.toNat_natCast]
    simp only [go_sem, Nat.reduceAdd, Nat.reduceSub, Nat.reduceMul, Nat.reduceEqDiff, Nat.reduceLT, Nat.reduceLeDiff, Nat.reduceBEq, Nat.reduceBNe, Int.reduceLT, Int.reduceLE, Int.reduceEq, Int.reduceAdd, Int.reduceSub, Int.reduceNeg, reduceCtorEq, p1]
    refine draw_ok (N := 3000) (.take 0 (.take 1 (.take 2 (.take 3 (.take 4 (.take 6 (.take 7 (.alt 5 (.take 8 (.alt 9 (.take 10 (.take 11 (.take 12 (.take 13 (.take 14 .done))))) .last)) .last)))))))) [] (QOk_body _ _ _) follows_mixed (by kernel_rfl) (by kernel_rfl) ?_
    simp only [go_sem, Nat.reduceAdd, Nat.reduceSub, Nat.reduceMul, Nat.reduceEqDiff, Nat.reduceLT, Nat.reduceLeDiff, Nat.reduceBEq, Nat.reduceBNe, Int.reduceLT, Int.reduceLE, Int.reduceEq, Int.reduceAdd, Int.reduceSub, Int.reduceNeg, reduceCtorEq, e64]
    refine ⟨by omega, ?_⟩
    refine anyc_ok (N := 3000) (call_does (fun u _ => u = .int .i64 (areaAt g J.area)) rfl rfl (by kernel_rfl) rfl (by simp only [dOk_some, dOk_none, Nat.reduceLT]) (fun G hG => area_does (a := J.area) hg (by omega) (by omega) hG.wf)) (QOk_body _ _ _) rfl (by first | exact .inl rfl | exact .inr ⟨_, _, rfl, rfl⟩) ?_
    rintro _ ⟨_, G5, rfl, hn5, rfl⟩
    clear hn5
    simp only [go_sem, Nat.reduceAdd, Nat.reduceSub, Nat.reduceMul, Nat.reduceEqDiff, Nat.reduceLT, Nat.reduceLeDiff, Nat.reduceBEq, Nat.reduceBNe, Int.reduceLT, Int.reduceLE, Int.reduceEq, Int.reduceAdd, Int.reduceSub, Int.reduceNeg, reduceCtorEq]
    refine ⟨by omega, ?_⟩
    rw [← hra]
    refine anyc_ok (N := 3000) (call_does (fun u G => ∃ A c, u = .tuple #[.slice A 64 c, .int .i64 0] ∧ ByG G (.slice A 64 c) (content d ra)) rfl rfl (by kernel_rfl) rfl (by simp only [dOk_some, dOk_none, Nat.reduceLT]) (fun G hG => get_ok hg hd hrl hG.wf (h3.mono (hG.le G3 (by simp))))) (QOk_body _ _ _) rfl (by first | exact .inl rfl | exact .inr ⟨_, _, rfl, rfl⟩) ?_
    rintro _ ⟨_, G6, ⟨Ag, cg, rfl, hgot⟩, hn6, rfl⟩
    have hl36 : G3.Le G6 := hn6.le G3 (by simp)
    clear hn6
    have hcg : 64 ≤ cg := by obtain ⟨_, _, e, q, _⟩ := hgot.form; rw [hcl] at e q; cases e; exact q
    simp only [go_sem, Nat.reduceAdd, Nat.reduceSub, Nat.reduceMul, Nat.reduceEqDiff, Nat.reduceLT, Nat.reduceLeDiff, Nat.reduceBEq, Nat.reduceBNe, Int.reduceLT, Int.reduceLE, Int.reduceEq, Int.reduceAdd, Int.reduceSub, Int.reduceNeg, reduceCtorEq]
    refine ⟨by omega, ?_⟩
    rw [← hm]
    refine plain_ok (N := 3000) (cut_does 0 m cg rfl tySlice23 tySize5 rfl rfl ⟨_, _, rfl, by omega⟩ (show 0 + cg = cg from by omega) (by simp) (by simp only [dOk_some, dOk_none, Nat.reduceLT]) (by omega) (by omega) (by omega) (fun G hG => (by have := hgot.mono (hG.le G6 (by simp)); rw [← hcl]; rw [← hcl] at this; exact this : Sl G 5 1 64 (.slice Ag 64 cg) ((content d ra).map enc8)))) (QOk_body _ _ _) (by first | exact .inl rfl | exact .inr ⟨_, _, rfl, rfl⟩) ?_
    rintro _ ⟨Ac, G7, hs7, hn7, rfl⟩
    have hl67 : G6.Le G7 := hn7.le G6 (by simp)
    clear hn7
    have hb7 := byG_cut hs7 (by omega)
    rw [List.drop_zero] at hb7
    have htl : ((content d ra).take m).length = m := by rw [List.length_take]; omega
    simp only [go_sem, Nat.reduceAdd, Nat.reduceSub, Nat.reduceMul, Nat.reduceEqDiff, Nat.reduceLT, Nat.reduceLeDiff, Nat.reduceBEq, Nat.reduceBNe, Int.reduceLT, Int.reduceLE, Int.reduceEq, Int.reduceAdd, Int.reduceSub, Int.reduceNeg, reduceCtorEq]
    refine plain_ok (N := 3000) (append_does (R1 := []) (m := m) (news := ((content d ra).take m).map enc8) rfl tySlice23 tyApp5 rfl rfl rfl rfl (by simp only [dOk_some, dOk_none, Nat.reduceLT]) (enc8_one' _) (by unfold maxLen; omega) (by omega) (fun G hG => by have := (hb7.mono (hG.le G7 (by simp))).r; rw [BytesR, htl] at this; exact this)) (QOk_body _ _ _) (by first | exact .inl rfl | exact .inr ⟨_, _, rfl, rfl⟩) ?_
    rintro _ ⟨A9, c9, rfl⟩
    have eo : (snapTo g (content d) J v).map enc8 ++ ((content d ra).take m).map enc8 = (snapTo g (content d) J (v + 1)).map enc8 := by rw [hsv, List.map_append]
    have el : (snapTo g (content d) J v).length + m = (snapTo g (content d) J (v + 1)).length := by rw [hsv, List.length_append, htl]
    rw [eo, el]
    have e65 : ((64 * v : Nat) : Int) + 64 = ((64 * (v + 1) : Nat) : Int) := by omega
    simp only [go_sem, Nat.reduceAdd, Nat.reduceSub, Nat.reduceMul, Nat.reduceEqDiff, Nat.reduceLT, Nat.reduceLeDiff, Nat.reduceBEq, Nat.reduceBNe, Int.reduceLT, Int.reduceLE, Int.reduceEq, Int.reduceAdd, Int.reduceSub, Int.reduceNeg, reduceCtorEq, e65]
    exact ⟨by omega, again_ok (v + 1, (A9, c9), G7) ⟨by omega, (show (snapTo g (content d) J (v + 1)).length ≤ 64 * (v + 1) by omega), h3.mono (hl36.trans hl67)⟩ (by simp only; omega) (by simp only [go_sem, Nat.reduceAdd, Nat.reduceSub, Nat.reduceMul, Nat.reduceEqDiff, Nat.reduceLT, Nat.reduceLeDiff, Nat.reduceBEq, Nat.reduceBNe, Int.reduceLT, Int.reduceLE, Int.reduceEq, Int.reduceAdd, Int.reduceSub, Int.reduceNeg, reduceCtorEq]; simp)⟩
  · have p1 : decide (((64 * v : Nat) : Int) < J.length) = false := decide_eq_false (by omega)
    obtain rfl : v = K := by omega
    obtain ⟨S, hS⟩ : ∃ S, S = snapTo g (content d) J v := ⟨_, rfl⟩
    rw [← hS] at hvl ⊢
    have hSl : S.length ≤ 6000 := by omega
    clear hS hvl hv
    simp only [go_sem, Nat.reduceAdd, Nat.reduceSub, Nat.reduceMul, Nat.reduceEqDiff, Nat.reduceLT, Nat.reduceLeDiff, Nat.reduceBEq, Nat.reduceBNe, Int.reduceLT, Int.reduceLE, Int.reduceEq, Int.reduceAdd, Int.reduceSub, Int.reduceNeg, reduceCtorEq, p1]
    refine row_ok 23 1 ?_
    refine loop_ok (N := 3000) (ι := Nat × Jr × Int × List (List UInt8) × List Value × (Option Addr × Nat) × GW)
      (fun i => match i with | (f, j, low, bs, us, (B, e), G) => ⟨[(2, .c (.p 0 g1 0)), (3, .c (.p 1 g2 0)), (4, .c (.p 2 g3 0)), (5, .c (.p 3 g4 0)), (10, .c (.p 4 g5 0)), (12, .c (.v (.slice A S.length c))), (16, .c (.v (.slice B us.length e))), (17, .c (.v (.int .i64 low)))],
        [⟨4, g5, 81, [.v (.int .i64 j.gen), .v (.int .i64 j.epoch), .v (.int .i64 j.area), .v (.int .i64 j.length), .v (.int .i64 j.start), .v (.int .i64 j.first), .v (.int .i64 j.place), .v (.int .i64 j.next), .v (.int .i64 j.used)]⟩, ⟨3, g4, 81, [.v (.int .i64 0), .v (.int .i64 0), .v (.int .i64 0), .v (.int .i64 0), .v (.int .i64 0), .v (.int .i64 0), .v (.int .i64 0), .v (.int .i64 0), .v (.int .i64 0)]⟩, ⟨2, g3, 37, [.v (.slice none 0 0), .v (.slice none 0 0), .v (.slice none 0 0), .v (.int .i64 0)]⟩, ⟨1, g2, 37, [.v (.slice A1 d.safe.length k1), .v (.slice A2 d.cache.length k2), .v (.slice A3 d.vols.length k3), .v (.int .i64 d.fuel)]⟩, ⟨0, g1, 32, [.v (.int .i64 g.ring), .v (.int .i64 g.area), .v (.int .i64 g.hot), .v (.int .i64 g.volume), .v (.int .i64 g.volumes)]⟩], [⟨.slice B us.length e, 23, 1, us.length, us⟩, ⟨.slice A S.length c, 5, 1, S.length, S.map enc8⟩], [], [G, G0], 5⟩)
      (fun i => match i with | (f, j, low, bs, us, _, G) => (openGo g (content d) f j low bs = (J2, all) ∧ f + bs.length = 100 ∧ (bs.length : Int) ≤ j.used ∧ us.length = bs.length) ∧ (0 ≤ j.used ∧ j.used ≤ g.ring ∧ 0 ≤ j.place ∧ j.place < g.ring ∧ 1 ≤ j.next ∧ j.next ≤ 1048576 ∧ j.gen = J.gen ∧ j.epoch = J.epoch) ∧ (∀ (i : Nat) (u : Value) (x : List UInt8), us[i]? = some u → bs[i]? = some x → ByG G u x) ∧ DevG G (.agg #[.slice A1 d.safe.length k1, .slice A2 d.cache.length k2, .slice A3 d.vols.length k3, .int .i64 d.fuel]) d) (fun i => i.1) (QOk_body _ _ _) (100, J, 0, [], [], (none, 0), G3)
      ⟨⟨hgo, rfl, by simp only [List.length_nil]; omega, rfl⟩, ⟨by omega, by omega, (okJ_place hg hok).1, (okJ_place hg hok).2, by omega, by omega, rfl, rfl⟩, fun i u x h1 _ => by (cases h1), h3⟩ (by simp only [go_sem, Nat.reduceAdd, Nat.reduceSub, Nat.reduceMul, Nat.reduceEqDiff, Nat.reduceLT, Nat.reduceLeDiff, Nat.reduceBEq, Nat.reduceBNe, Int.reduceLT, Int.reduceLE, Int.reduceEq, Int.reduceAdd, Int.reduceSub, Int.reduceNeg, reduceCtorEq]; simp) ?_
    rintro ⟨f, j, low, bs, us, ⟨B, e⟩, G4⟩ ⟨⟨hgo2, hfb, hbu, hul⟩, ⟨u0, u1, u2, u3, u4, u5, u6, u7⟩, hus, h4⟩
    simp only
    clear hgo h3 G3
    obtain ⟨f, rfl⟩ : ∃ f', f = f' + 1 := ⟨f - 1, by omega⟩
    by_cases hnx : j.next < 1048576
    · have r1 : decide (j.next < 1048576) = true := decide_eq_true hnx
      simp only [go_sem, Nat.reduceAdd, Nat.reduceSub, Nat.reduceMul, Nat.reduceEqDiff, Nat.reduceLT, Nat.reduceLeDiff, Nat.reduceBEq, Nat.reduceBNe, Int.reduceLT, Int.reduceLE, Int.reduceEq, Int.reduceAdd, Int.reduceSub, Int.reduceNeg, reduceCtorEq, r1]
      refine ⟨by omega, ?_⟩
      obtain ⟨rm, hrm⟩ : ∃ rm : Nat, (rm : Int) = g.ring - j.used := ⟨(g.ring - j.used).toNat, by omega⟩
      have hrm2 : (g.ring - j.used).toNat = rm := by omega
      rw [← hrm]
      refine plain_ok (N := 3000) (call_does (fun v G => TxG (txGo g (content d) j.place j.next low rm 0 0 []) v G) rfl rfl (by kernel_rfl) rfl (by simp only [dOk_some, dOk_none, Nat.reduceLT]) (fun G hG => transaction_does hg hd u2 (by omega) (by omega) hG.wf (h4.mono (hG.le G4 (by simp))))) (QOk_body _ _ _) (by first | exact .inl rfl | exact .inr ⟨_, _, rfl, rfl⟩) ?_
      rintro _ ⟨_, G5, hTx, hn5, rfl⟩
      have hl45 : G4.Le G5 := hn5.le G4 (by simp)
      clear hn5
      rcases hTx with ⟨hno, rfl⟩ | ⟨b, k, ee, Ab, cb, hyes, rfl, hbb⟩
      · have hstop : j.next < 1048576 → txGo g (content d) j.place j.next low (g.ring - j.used).toNat 0 0 [] = none := fun _ => by rw [hrm2]; exact hno
        simp only [go_sem, Nat.reduceAdd, Nat.reduceSub, Nat.reduceMul, Nat.reduceEqDiff, Nat.reduceLT, Nat.reduceLeDiff, Nat.reduceBEq, Nat.reduceBNe, Int.reduceLT, Int.reduceLE, Int.reduceEq, Int.reduceAdd, Int.reduceSub, Int.reduceNeg, reduceCtorEq]
        have hst : openGo g (content d) (f + 1) j low bs = (j, bs) := openGo_stop hstop
        rw [hgo2] at hst
        cases hst
        refine ⟨by omega, by omega, fun g6 => ?_⟩
        refine read_ok (R1 := []) rfl fun G10 hle10 hs10 => ?_
        simp only [go_sem, Nat.reduceAdd, Nat.reduceSub, Nat.reduceMul, Nat.reduceEqDiff, Nat.reduceLT, Nat.reduceLeDiff, Nat.reduceBEq, Nat.reduceBNe, Int.reduceLT, Int.reduceLE, Int.reduceEq, Int.reduceAdd, Int.reduceSub, Int.reduceNeg, reduceCtorEq]
        refine read_ok (R1 := []) rfl fun G11 hle11 hs11 => ?_
        have hl411 : G4.Le G11 := hle11 G4 (by simp [St.seen, St.rowsTo])
        have hl1011 : G10.Le G11 := hle11 G10 (by simp [St.seen, St.rowsTo])
        clear hle10 hle11
        simp only [go_sem, Nat.reduceAdd, Nat.reduceSub, Nat.reduceMul, Nat.reduceEqDiff, Nat.reduceLT, Nat.reduceLeDiff, Nat.reduceBEq, Nat.reduceBNe, Int.reduceLT, Int.reduceLE, Int.reduceEq, Int.reduceAdd, Int.reduceSub, Int.reduceNeg, reduceCtorEq]
        have hh0 : HandG g (d, 0) [.v (.int .i64 g.ring), .v (.int .i64 g.area), .v (.int .i64 g.hot), .v (.int .i64 g.volume), .v (.int .i64 g.volumes), .v (.slice A1 d.safe.length k1), .v (.slice A2 d.cache.length k2), .v (.slice A3 d.vols.length k3), .v (.int .i64 d.fuel), .v (.int .i64 0)] G4 := ⟨A1, k1, A2, k2, A3, k3, rfl, h4⟩
        refine draw_ok (N := 3000) (.take 0 (.take 1 (.take 2 (.take 3 (.take 4 (.alt 5 (.alt 6 .done .last) .last)))))) [5] (QOk_body _ _ _) follows_mixed (by kernel_rfl) (by kernel_rfl) ?_
        simp only [go_sem, Nat.reduceAdd, Nat.reduceSub, Nat.reduceMul, Nat.reduceEqDiff, Nat.reduceLT, Nat.reduceLeDiff, Nat.reduceBEq, Nat.reduceBNe, Int.reduceLT, Int.reduceLE, Int.reduceEq, Int.reduceAdd, Int.reduceSub, Int.reduceNeg, reduceCtorEq]
        refine ⟨by omega, ?_⟩
        refine anyc_ok (N := 3000) (call_does (fun u G => ∃ A c, u = .slice A 19 c ∧ ByG G (.slice A 19 c) (superB (upJ J2))) rfl rfl (by kernel_rfl) rfl (by simp only [dOk_some, dOk_none, Nat.reduceLT]) (fun G hG => super_does (j := upJ J2) hG.wf)) (QOk_body _ _ _) rfl (by first | exact .inl rfl | exact .inr ⟨_, _, rfl, rfl⟩) ?_
        rintro _ ⟨_, G6, ⟨As, cs, rfl, hbs⟩, hn6, rfl⟩
        clear hn6
        simp only [go_sem, Nat.reduceAdd, Nat.reduceSub, Nat.reduceMul, Nat.reduceEqDiff, Nat.reduceLT, Nat.reduceLeDiff, Nat.reduceBEq, Nat.reduceBNe, Int.reduceLT, Int.reduceLE, Int.reduceEq, Int.reduceAdd, Int.reduceSub, Int.reduceNeg, reduceCtorEq]
        refine anyP_ok (N := 3000) (callP_does 5 g6 handT 10 (fun _ cs G => HandG g (hPut (d, 0) (HMod.hMod (J2.gen + 1) 2) (superB (upJ J2))) cs G) rfl rfl (by kernel_rfl) rfl (by simp only [dOk_some, dOk_none, Nat.reduceLT]) rfl rfl rfl rfl (fun G hG => hput_does (x := (d, 0)) hg hd hG.wf (tidB hG (fun _ h => h) hT hW rfl rfl (by simp) (by simp; decide)) (now_mine (id := 5) hG rfl) (now_blk (id := 5) hG rfl) (hh0.mono (hG.le G4 (by simp))) (hbs.mono (hG.le G6 (by simp))))) (QOk_body _ _ _) rfl (by first | exact .inl rfl | exact .inr ⟨_, _, rfl, rfl⟩) (by simp) ?_
        rintro _ ⟨v1, cs1, G7, _, ⟨B1, m1, B2, m2, B3, m3, rfl, hd1⟩, hle7, rfl⟩
        have hh1 : HandG g (hPut (d, 0) (HMod.hMod (J2.gen + 1) 2) (superB (upJ J2))) [.v (.int .i64 g.ring), .v (.int .i64 g.area), .v (.int .i64 g.hot), .v (.int .i64 g.volume), .v (.int .i64 g.volumes), .v (.slice B1 (hPut (d, 0) (HMod.hMod (J2.gen + 1) 2) (superB (upJ J2))).1.safe.length m1), .v (.slice B2 (hPut (d, 0) (HMod.hMod (J2.gen + 1) 2) (superB (upJ J2))).1.cache.length m2), .v (.slice B3 (hPut (d, 0) (HMod.hMod (J2.gen + 1) 2) (superB (upJ J2))).1.vols.length m3), .v (.int .i64 (hPut (d, 0) (HMod.hMod (J2.gen + 1) 2) (superB (upJ J2))).1.fuel), .v (.int .i64 (hPut (d, 0) (HMod.hMod (J2.gen + 1) 2) (superB (upJ J2))).2)] G7 := ⟨B1, m1, B2, m2, B3, m3, rfl, hd1⟩
        have hg1 : GoodDev g (hPut (d, 0) (HMod.hMod (J2.gen + 1) 2) (superB (upJ J2))).1 := hPut_good hd _ _
        obtain ⟨x1, ex1⟩ : ∃ x1, x1 = hPut (d, 0) (HMod.hMod (J2.gen + 1) 2) (superB (upJ J2)) := ⟨_, rfl⟩
        have hox : openX d J2 = hFlush x1 := by rw [ex1]; rfl
        rw [hox] at hx ⊢
        rw [← ex1] at hh1 hg1 ⊢
        clear hd1 ex1 hox
        simp only [go_sem, Nat.reduceAdd, Nat.reduceSub, Nat.reduceMul, Nat.reduceEqDiff, Nat.reduceLT, Nat.reduceLeDiff, Nat.reduceBEq, Nat.reduceBNe, Int.reduceLT, Int.reduceLE, Int.reduceEq, Int.reduceAdd, Int.reduceSub, Int.reduceNeg, reduceCtorEq]
        refine plain_ok (N := 3000) (callP_does 5 g6 handT 10 (fun _ cs G => HandG g (hFlush x1) cs G) rfl rfl (by kernel_rfl) rfl (by simp only [dOk_some, dOk_none, Nat.reduceLT]) rfl rfl rfl rfl (fun G hG => hflush_does (x := x1) hg hg1 hG.wf (tidB hG (fun _ h => h) hT hW rfl rfl (by simp) (by simp; decide)) (now_mine (id := 5) hG rfl) (now_blk (id := 5) hG rfl) (hh1.mono (hG.le G7 (by simp))))) (QOk_body _ _ _) (by first | exact .inl rfl | exact .inr ⟨_, _, rfl, rfl⟩) ?_
        rintro _ ⟨v2, cs2, G8, _, ⟨C1, n1, C2, n2, C3, n3, rfl, hd2⟩, hle8, rfl⟩
        have hh2 : HandG g (hFlush x1) [.v (.int .i64 g.ring), .v (.int .i64 g.area), .v (.int .i64 g.hot), .v (.int .i64 g.volume), .v (.int .i64 g.volumes), .v (.slice C1 (hFlush x1).1.safe.length n1), .v (.slice C2 (hFlush x1).1.cache.length n2), .v (.slice C3 (hFlush x1).1.vols.length n3), .v (.int .i64 (hFlush x1).1.fuel), .v (.int .i64 (hFlush x1).2)] G8 := ⟨C1, n1, C2, n2, C3, n3, rfl, hd2⟩
        clear hd2
        generalize hFlush x1 = x2 at *
        simp only [go_sem, Nat.reduceAdd, Nat.reduceSub, Nat.reduceMul, Nat.reduceEqDiff, Nat.reduceLT, Nat.reduceLeDiff, Nat.reduceBEq, Nat.reduceBNe, Int.reduceLT, Int.reduceLE, Int.reduceEq, Int.reduceAdd, Int.reduceSub, Int.reduceNeg, reduceCtorEq]
        refine plain_ok (N := 3000) (callP_does 5 g6 handT 10 (fun v cs G => HandG g x2 cs G ∧ ∃ dv, v = .tuple #[dv, jrV (upJ J2), .int .i64 0] ∧ DevG G dv x2.1) rfl rfl (by kernel_rfl) rfl (by simp only [dOk_some, dOk_none, Nat.reduceLT]) rfl rfl rfl rfl (fun G hG => RetP.mono (hend_does (x := x2) (j := upJ J2) hG.wf (now_mine (id := 5) hG rfl) (now_blk (id := 5) hG rfl) (hh2.mono (hG.le G8 (by simp)))) fun v cs G' hh => ⟨hh.1, handE_good hh.2 hx⟩)) (QOk_body _ _ _) (by first | exact .inl rfl | exact .inr ⟨_, _, rfl, rfl⟩) ?_
        rintro _ ⟨v3, cs3, G9, _, ⟨⟨E1, p1, E2, p2, E3, p3, rfl, hd4⟩, dv, rfl, hd5⟩, hle9, rfl⟩
        clear hd4
        obtain ⟨F1, s1, F2, s2, F3, s3, rfl, hfo⟩ := hd5.form
        clear hfo
        simp only [go_sem, Nat.reduceAdd, Nat.reduceSub, Nat.reduceMul, Nat.reduceEqDiff, Nat.reduceLT, Nat.reduceLeDiff, Nat.reduceBEq, Nat.reduceBNe, Int.reduceLT, Int.reduceLE, Int.reduceEq, Int.reduceAdd, Int.reduceSub, Int.reduceNeg, reduceCtorEq, jrV]
        intro g7 g8
        refine draw_ok (N := 3000) (.take 0 (.take 1 (.take 2 (.take 3 (.alt 4 (.alt 5 (.take 6 (.take 7 (.take 8 .done))) .last) .last))))) [2, 3] (QOk_body _ _ _) follows_mixed (by kernel_rfl) (by kernel_rfl) ?_
        simp only [go_sem, Nat.reduceAdd, Nat.reduceSub, Nat.reduceMul, Nat.reduceEqDiff, Nat.reduceLT, Nat.reduceLeDiff, Nat.reduceBEq, Nat.reduceBNe, Int.reduceLT, Int.reduceLE, Int.reduceEq, Int.reduceAdd, Int.reduceSub, Int.reduceNeg, reduceCtorEq]
        refine fin_ret (G := G0) Try.results53 ?_
        simp only [go_sem, Nat.reduceAdd, Nat.reduceSub, Nat.reduceMul, Nat.reduceEqDiff, Nat.reduceLT, Nat.reduceLeDiff, Nat.reduceBEq, Nat.reduceBNe, Int.reduceLT, Int.reduceLE, Int.reduceEq, Int.reduceAdd, Int.reduceSub, Int.reduceNeg, reduceCtorEq]
        intro aa w' _ hle
        have hlast := hle G11 (by simp)
        refine ⟨_, A, c, B, e, by rw [← hul]; rfl, hd5.mono (hle G9 (by simp)), Sl.mono hs11 hlast, ?_⟩
        have hsf : SafG G11 (.slice B us.length e) all := by
          rw [hul]
          rw [hul] at hs10
          exact saf_of (Sl.mono hs10 hl1011) fun i u x q1 q2 => (hus i u x q1 q2).mono hl411
        rw [← hul]
        exact Sq.mono hsf rowG_mono hlast
      · obtain ⟨t1, t2, t3⟩ := txGo_bd rm 0 0 [] b k ee (fun m hm => fr_body_len hm) hyes
        rw [← hrm2] at hyes
        have hmore := openGo_more (f := f) (all := bs) hnx hyes
        rw [hgo2] at hmore
        simp only [go_sem, Nat.reduceAdd, Nat.reduceSub, Nat.reduceMul, Nat.reduceEqDiff, Nat.reduceLT, Nat.reduceLeDiff, Nat.reduceBEq, Nat.reduceBNe, Int.reduceLT, Int.reduceLE, Int.reduceEq, Int.reduceAdd, Int.reduceSub, Int.reduceNeg, reduceCtorEq]
        intro g6
        have hlb : bs.length ≤ 60 := by omega
        refine plain_ok (N := 3000) (append_does (R1 := []) (m := 1) (news := [.slice Ab b.length cb]) rfl tySlice29 tyApp23 rfl rfl rfl rfl (by simp only [dOk_some, dOk_none, Nat.reduceLT]) (by intro u hu; simp at hu; rcases hu with rfl; rfl) (by unfold maxLen; omega) (by omega) (fun G hG => tsl_blk hG (b := ⟨5, g6, 23, [.v (.slice Ab b.length cb)]⟩) (by simp) rfl (by unfold maxLen; omega))) (QOk_body _ _ _) (by first | exact .inl rfl | exact .inr ⟨_, _, rfl, rfl⟩) ?_
        rintro _ ⟨A10, c10, rfl⟩
        have hul2 : us.length + 1 = (us ++ [Value.slice Ab b.length cb]).length := by simp
        rw [hul2]
        simp only [go_sem, Nat.reduceAdd, Nat.reduceSub, Nat.reduceMul, Nat.reduceEqDiff, Nat.reduceLT, Nat.reduceLeDiff, Nat.reduceBEq, Nat.reduceBNe, Int.reduceLT, Int.reduceLE, Int.reduceEq, Int.reduceAdd, Int.reduceSub, Int.reduceNeg, reduceCtorEq]
        refine cut_code2 (N := 3000) (ι := Unit)
          (fun _ => ⟨[(2, .c (.p 0 g1 0)), (3, .c (.p 1 g2 0)), (4, .c (.p 2 g3 0)), (5, .c (.p 3 g4 0)), (10, .c (.p 4 g5 0)), (12, .c (.v (.slice A S.length c))), (16, .c (.v (.slice A10 (us ++ [Value.slice Ab b.length cb]).length c10))), (17, .c (.v (.int .i64 ee)))],
            [⟨4, g5, 81, [.v (.int .i64 j.gen), .v (.int .i64 j.epoch), .v (.int .i64 j.area), .v (.int .i64 j.length), .v (.int .i64 j.start), .v (.int .i64 j.first), .v (.int .i64 (HMod.hMod (j.place + (k : Int)) g.ring)), .v (.int .i64 (j.next + 1)), .v (.int .i64 (j.used + (k : Int)))]⟩, ⟨3, g4, 81, [.v (.int .i64 0), .v (.int .i64 0), .v (.int .i64 0), .v (.int .i64 0), .v (.int .i64 0), .v (.int .i64 0), .v (.int .i64 0), .v (.int .i64 0), .v (.int .i64 0)]⟩, ⟨2, g3, 37, [.v (.slice none 0 0), .v (.slice none 0 0), .v (.slice none 0 0), .v (.int .i64 0)]⟩, ⟨1, g2, 37, [.v (.slice A1 d.safe.length k1), .v (.slice A2 d.cache.length k2), .v (.slice A3 d.vols.length k3), .v (.int .i64 d.fuel)]⟩, ⟨0, g1, 32, [.v (.int .i64 g.ring), .v (.int .i64 g.area), .v (.int .i64 g.hot), .v (.int .i64 g.volume), .v (.int .i64 g.volumes)]⟩], [⟨.slice A10 (us ++ [Value.slice Ab b.length cb]).length c10, 23, 1, (us ++ [Value.slice Ab b.length cb]).length, us ++ [Value.slice Ab b.length cb]⟩, ⟨.slice A S.length c, 5, 1, S.length, S.map enc8⟩], [], [G5, G0], 6⟩) (fun _ => True) (QOk_body _ _ _) ?_ ?_
        rotate_left
        · intro k' J' hk' hJ'
          refine draw_ok (N := 3000) (.take 0 (.take 2 (.take 4 (.take 5 (.take 7 (.take 9 (.take 11 (.take 14 (.alt 1 (.take 3 (.take 6 (.alt 8 (.take 10 (.alt 12 (.take 13 (.take 15 (.alt 16 (.take 17 (.alt 18 (.take 19 (.alt 20 (.take 21 .done) .last)) .last)) .last))) .last)) (.alt 12 (.take 13 (.alt 8 (.take 10 (.take 15 (.alt 16 (.take 17 (.alt 18 (.take 19 (.alt 20 (.take 21 .done) .last)) .last)) .last))) .last)) .last)))) (.alt 8 (.take 10 (.alt 1 (.take 3 (.take 6 (.alt 12 (.take 13 (.take 15 (.alt 16 (.take 17 (.alt 18 (.take 19 (.alt 20 (.take 21 .done) .last)) .last)) .last))) .last))) (.alt 12 (.take 13 (.alt 1 (.take 3 (.take 6 (.take 15 (.alt 16 (.take 17 (.alt 18 (.take 19 (.alt 20 (.take 21 .done) .last)) .last)) .last)))) .last)) .last))) (.alt 12 (.take 13 (.alt 1 (.take 3 (.take 6 (.alt 8 (.take 10 (.take 15 (.alt 16 (.take 17 (.alt 18 (.take 19 (.alt 20 (.take 21 .done) .last)) .last)) .last))) .last))) (.alt 8 (.take 10 (.alt 1 (.take 3 (.take 6 (.take 15 (.alt 16 (.take 17 (.alt 18 (.take 19 (.alt 20 (.take 21 .done) .last)) .last)) .last)))) .last)) .last))) .last))))))))))) [4] hk' follows_mixed (by kernel_rfl) (by kernel_rfl) ?_
          simp only [go_sem, Nat.reduceAdd, Nat.reduceSub, Nat.reduceMul, Nat.reduceEqDiff, Nat.reduceLT, Nat.reduceLeDiff, Nat.reduceBEq, Nat.reduceBNe, Int.reduceLT, Int.reduceLE, Int.reduceEq, Int.reduceAdd, Int.reduceSub, Int.reduceNeg, reduceCtorEq]
          repeat' (refine And.intro ?_ ?_)
          all_goals first | omega | exact hJ' () _ trivial (by simp only [go_sem, Nat.reduceAdd, Nat.reduceSub, Nat.reduceMul, Nat.reduceEqDiff, Nat.reduceLT, Nat.reduceLeDiff, Nat.reduceBEq, Nat.reduceBNe, Int.reduceLT, Int.reduceLE, Int.reduceEq, Int.reduceAdd, Int.reduceSub, Int.reduceNeg, reduceCtorEq]; simp)
        rintro _ _
        simp only [go_sem, Nat.reduceAdd, Nat.reduceSub, Nat.reduceMul, Nat.reduceEqDiff, Nat.reduceLT, Nat.reduceLeDiff, Nat.reduceBEq, Nat.reduceBNe, Int.reduceLT, Int.reduceLE, Int.reduceEq, Int.reduceAdd, Int.reduceSub, Int.reduceNeg, reduceCtorEq]
        have hm0 := Int.emod_nonneg (j.place + (k : Int)) (show g.ring ≠ 0 by omega)
        have hm1 := Int.emod_lt_of_pos (j.place + (k : Int)) (show 0 < g.ring by omega)
        exact again_ok (f, { j with place := HMod.hMod (j.place + (k : Int)) g.ring, used := j.used + (k : Int), next := j.next + 1 }, ee, bs ++ [b], us ++ [Value.slice Ab b.length cb], (A10, c10), G5)
          ⟨⟨hmore.symm, by rw [List.length_append, List.length_singleton]; omega, by rw [List.length_append, List.length_singleton]; show ((bs.length + 1 : Nat) : Int) ≤ j.used + (k : Int); omega, by rw [List.length_append, List.length_append, hul]; rfl⟩,
            ⟨by show 0 ≤ j.used + (k : Int); omega, by show j.used + (k : Int) ≤ g.ring; omega, hm0, hm1, by show 1 ≤ j.next + 1; omega, by show j.next + 1 ≤ 1048576; omega, u6, u7⟩, us_push hul hus hl45 hbb, h4.mono hl45⟩ (by simp only; omega) (by simp only [go_sem, Nat.reduceAdd, Nat.reduceSub, Nat.reduceMul, Nat.reduceEqDiff, Nat.reduceLT, Nat.reduceLeDiff, Nat.reduceBEq, Nat.reduceBNe, Int.reduceLT, Int.reduceLE, Int.reduceEq, Int.reduceAdd, Int.reduceSub, Int.reduceNeg, reduceCtorEq]; simp)
    · have r1 : decide (j.next < 1048576) = false := decide_eq_false hnx
      have hstop : j.next < 1048576 → txGo g (content d) j.place j.next low (g.ring - j.used).toNat 0 0 [] = none := fun q => absurd q hnx
      simp only [go_sem, Nat.reduceAdd, Nat.reduceSub, Nat.reduceMul, Nat.reduceEqDiff, Nat.reduceLT, Nat.reduceLeDiff, Nat.reduceBEq, Nat.reduceBNe, Int.reduceLT, Int.reduceLE, Int.reduceEq, Int.reduceAdd, Int.reduceSub, Int.reduceNeg, reduceCtorEq, r1]
      have hst : openGo g (content d) (f + 1) j low bs = (j, bs) := openGo_stop hstop
      rw [hgo2] at hst
      cases hst
      refine ⟨by omega, by omega, fun g6 => ?_⟩
      refine read_ok (R1 := []) rfl fun G10 hle10 hs10 => ?_
      simp only [go_sem, Nat.reduceAdd, Nat.reduceSub, Nat.reduceMul, Nat.reduceEqDiff, Nat.reduceLT, Nat.reduceLeDiff, Nat.reduceBEq, Nat.reduceBNe, Int.reduceLT, Int.reduceLE, Int.reduceEq, Int.reduceAdd, Int.reduceSub, Int.reduceNeg, reduceCtorEq]
      refine read_ok (R1 := []) rfl fun G11 hle11 hs11 => ?_
      have hl411 : G4.Le G11 := hle11 G4 (by simp [St.seen, St.rowsTo])
      have hl1011 : G10.Le G11 := hle11 G10 (by simp [St.seen, St.rowsTo])
      clear hle10 hle11
      simp only [go_sem, Nat.reduceAdd, Nat.reduceSub, Nat.reduceMul, Nat.reduceEqDiff, Nat.reduceLT, Nat.reduceLeDiff, Nat.reduceBEq, Nat.reduceBNe, Int.reduceLT, Int.reduceLE, Int.reduceEq, Int.reduceAdd, Int.reduceSub, Int.reduceNeg, reduceCtorEq]
      have hh0 : HandG g (d, 0) [.v (.int .i64 g.ring), .v (.int .i64 g.area), .v (.int .i64 g.hot), .v (.int .i64 g.volume), .v (.int .i64 g.volumes), .v (.slice A1 d.safe.length k1), .v (.slice A2 d.cache.length k2), .v (.slice A3 d.vols.length k3), .v (.int .i64 d.fuel), .v (.int .i64 0)] G4 := ⟨A1, k1, A2, k2, A3, k3, rfl, h4⟩
      refine draw_ok (N := 3000) (.take 0 (.take 1 (.take 2 (.take 3 (.take 4 (.alt 5 (.alt 6 .done .last) .last)))))) [5] (QOk_body _ _ _) follows_mixed (by kernel_rfl) (by kernel_rfl) ?_
      simp only [go_sem, Nat.reduceAdd, Nat.reduceSub, Nat.reduceMul, Nat.reduceEqDiff, Nat.reduceLT, Nat.reduceLeDiff, Nat.reduceBEq, Nat.reduceBNe, Int.reduceLT, Int.reduceLE, Int.reduceEq, Int.reduceAdd, Int.reduceSub, Int.reduceNeg, reduceCtorEq]
      refine ⟨by omega, ?_⟩
      refine anyc_ok (N := 3000) (call_does (fun u G => ∃ A c, u = .slice A 19 c ∧ ByG G (.slice A 19 c) (superB (upJ J2))) rfl rfl (by kernel_rfl) rfl (by simp only [dOk_some, dOk_none, Nat.reduceLT]) (fun G hG => super_does (j := upJ J2) hG.wf)) (QOk_body _ _ _) rfl (by first | exact .inl rfl | exact .inr ⟨_, _, rfl, rfl⟩) ?_
      rintro _ ⟨_, G6, ⟨As, cs, rfl, hbs⟩, hn6, rfl⟩
      clear hn6
      simp only [go_sem, Nat.reduceAdd, Nat.reduceSub, Nat.reduceMul, Nat.reduceEqDiff, Nat.reduceLT, Nat.reduceLeDiff, Nat.reduceBEq, Nat.reduceBNe, Int.reduceLT, Int.reduceLE, Int.reduceEq, Int.reduceAdd, Int.reduceSub, Int.reduceNeg, reduceCtorEq]
      refine anyP_ok (N := 3000) (callP_does 5 g6 handT 10 (fun _ cs G => HandG g (hPut (d, 0) (HMod.hMod (J2.gen + 1) 2) (superB (upJ J2))) cs G) rfl rfl (by kernel_rfl) rfl (by simp only [dOk_some, dOk_none, Nat.reduceLT]) rfl rfl rfl rfl (fun G hG => hput_does (x := (d, 0)) hg hd hG.wf (tidB hG (fun _ h => h) hT hW rfl rfl (by simp) (by simp; decide)) (now_mine (id := 5) hG rfl) (now_blk (id := 5) hG rfl) (hh0.mono (hG.le G4 (by simp))) (hbs.mono (hG.le G6 (by simp))))) (QOk_body _ _ _) rfl (by first | exact .inl rfl | exact .inr ⟨_, _, rfl, rfl⟩) (by simp) ?_
      rintro _ ⟨v1, cs1, G7, _, ⟨B1, m1, B2, m2, B3, m3, rfl, hd1⟩, hle7, rfl⟩
      have hh1 : HandG g (hPut (d, 0) (HMod.hMod (J2.gen + 1) 2) (superB (upJ J2))) [.v (.int .i64 g.ring), .v (.int .i64 g.area), .v (.int .i64 g.hot), .v (.int .i64 g.volume), .v (.int .i64 g.volumes), .v (.slice B1 (hPut (d, 0) (HMod.hMod (J2.gen + 1) 2) (superB (upJ J2))).1.safe.length m1), .v (.slice B2 (hPut (d, 0) (HMod.hMod (J2.gen + 1) 2) (superB (upJ J2))).1.cache.length m2), .v (.slice B3 (hPut (d, 0) (HMod.hMod (J2.gen + 1) 2) (superB (upJ J2))).1.vols.length m3), .v (.int .i64 (hPut (d, 0) (HMod.hMod (J2.gen + 1) 2) (superB (upJ J2))).1.fuel), .v (.int .i64 (hPut (d, 0) (HMod.hMod (J2.gen + 1) 2) (superB (upJ J2))).2)] G7 := ⟨B1, m1, B2, m2, B3, m3, rfl, hd1⟩
      have hg1 : GoodDev g (hPut (d, 0) (HMod.hMod (J2.gen + 1) 2) (superB (upJ J2))).1 := hPut_good hd _ _
      obtain ⟨x1, ex1⟩ : ∃ x1, x1 = hPut (d, 0) (HMod.hMod (J2.gen + 1) 2) (superB (upJ J2)) := ⟨_, rfl⟩
      have hox : openX d J2 = hFlush x1 := by rw [ex1]; rfl
      rw [hox] at hx ⊢
      rw [← ex1] at hh1 hg1 ⊢
      clear hd1 ex1 hox
      simp only [go_sem, Nat.reduceAdd, Nat.reduceSub, Nat.reduceMul, Nat.reduceEqDiff, Nat.reduceLT, Nat.reduceLeDiff, Nat.reduceBEq, Nat.reduceBNe, Int.reduceLT, Int.reduceLE, Int.reduceEq, Int.reduceAdd, Int.reduceSub, Int.reduceNeg, reduceCtorEq]
      refine plain_ok (N := 3000) (callP_does 5 g6 handT 10 (fun _ cs G => HandG g (hFlush x1) cs G) rfl rfl (by kernel_rfl) rfl (by simp only [dOk_some, dOk_none, Nat.reduceLT]) rfl rfl rfl rfl (fun G hG => hflush_does (x := x1) hg hg1 hG.wf (tidB hG (fun _ h => h) hT hW rfl rfl (by simp) (by simp; decide)) (now_mine (id := 5) hG rfl) (now_blk (id := 5) hG rfl) (hh1.mono (hG.le G7 (by simp))))) (QOk_body _ _ _) (by first | exact .inl rfl | exact .inr ⟨_, _, rfl, rfl⟩) ?_
      rintro _ ⟨v2, cs2, G8, _, ⟨C1, n1, C2, n2, C3, n3, rfl, hd2⟩, hle8, rfl⟩
      have hh2 : HandG g (hFlush x1) [.v (.int .i64 g.ring), .v (.int .i64 g.area), .v (.int .i64 g.hot), .v (.int .i64 g.volume), .v (.int .i64 g.volumes), .v (.slice C1 (hFlush x1).1.safe.length n1), .v (.slice C2 (hFlush x1).1.cache.length n2), .v (.slice C3 (hFlush x1).1.vols.length n3), .v (.int .i64 (hFlush x1).1.fuel), .v (.int .i64 (hFlush x1).2)] G8 := ⟨C1, n1, C2, n2, C3, n3, rfl, hd2⟩
      clear hd2
      generalize hFlush x1 = x2 at *
      simp only [go_sem, Nat.reduceAdd, Nat.reduceSub, Nat.reduceMul, Nat.reduceEqDiff, Nat.reduceLT, Nat.reduceLeDiff, Nat.reduceBEq, Nat.reduceBNe, Int.reduceLT, Int.reduceLE, Int.reduceEq, Int.reduceAdd, Int.reduceSub, Int.reduceNeg, reduceCtorEq]
      refine plain_ok (N := 3000) (callP_does 5 g6 handT 10 (fun v cs G => HandG g x2 cs G ∧ ∃ dv, v = .tuple #[dv, jrV (upJ J2), .int .i64 0] ∧ DevG G dv x2.1) rfl rfl (by kernel_rfl) rfl (by simp only [dOk_some, dOk_none, Nat.reduceLT]) rfl rfl rfl rfl (fun G hG => RetP.mono (hend_does (x := x2) (j := upJ J2) hG.wf (now_mine (id := 5) hG rfl) (now_blk (id := 5) hG rfl) (hh2.mono (hG.le G8 (by simp)))) fun v cs G' hh => ⟨hh.1, handE_good hh.2 hx⟩)) (QOk_body _ _ _) (by first | exact .inl rfl | exact .inr ⟨_, _, rfl, rfl⟩) ?_
      rintro _ ⟨v3, cs3, G9, _, ⟨⟨E1, p1, E2, p2, E3, p3, rfl, hd4⟩, dv, rfl, hd5⟩, hle9, rfl⟩
      clear hd4
      obtain ⟨F1, s1, F2, s2, F3, s3, rfl, hfo⟩ := hd5.form
      clear hfo
      simp only [go_sem, Nat.reduceAdd, Nat.reduceSub, Nat.reduceMul, Nat.reduceEqDiff, Nat.reduceLT, Nat.reduceLeDiff, Nat.reduceBEq, Nat.reduceBNe, Int.reduceLT, Int.reduceLE, Int.reduceEq, Int.reduceAdd, Int.reduceSub, Int.reduceNeg, reduceCtorEq, jrV]
      intro g7 g8
      refine draw_ok (N := 3000) (.take 0 (.take 1 (.take 2 (.take 3 (.alt 4 (.alt 5 (.take 6 (.take 7 (.take 8 .done))) .last) .last))))) [2, 3] (QOk_body _ _ _) follows_mixed (by kernel_rfl) (by kernel_rfl) ?_
      simp only [go_sem, Nat.reduceAdd, Nat.reduceSub, Nat.reduceMul, Nat.reduceEqDiff, Nat.reduceLT, Nat.reduceLeDiff, Nat.reduceBEq, Nat.reduceBNe, Int.reduceLT, Int.reduceLE, Int.reduceEq, Int.reduceAdd, Int.reduceSub, Int.reduceNeg, reduceCtorEq]
      refine fin_ret (G := G0) Try.results53 ?_
      simp only [go_sem, Nat.reduceAdd, Nat.reduceSub, Nat.reduceMul, Nat.reduceEqDiff, Nat.reduceLT, Nat.reduceLeDiff, Nat.reduceBEq, Nat.reduceBNe, Int.reduceLT, Int.reduceLE, Int.reduceEq, Int.reduceAdd, Int.reduceSub, Int.reduceNeg, reduceCtorEq]
      intro aa w' _ hle
      have hlast := hle G11 (by simp)
      refine ⟨_, A, c, B, e, by rw [← hul]; rfl, hd5.mono (hle G9 (by simp)), Sl.mono hs11 hlast, ?_⟩
      have hsf : SafG G11 (.slice B us.length e) all := by
        rw [hul]
        rw [hul] at hs10
        exact saf_of (Sl.mono hs10 hl1011) fun i u x q1 q2 => (hus i u x q1 q2).mono hl411
      rw [← hul]
      exact Sq.mono hsf rowG_mono hlast
end Go.Proofs.Ytomfladifefomaa
