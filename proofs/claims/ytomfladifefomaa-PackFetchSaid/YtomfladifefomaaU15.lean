/- 'icehousekeep.PackFetch' returns true for every slice of raw things and text. Conditions: none. -/
import Derived.Test.YtomfladifefomaaY4
namespace Go.Proofs.Ytomfladifefomaa
open Go.RowKit
set_option linter.unusedSimpArgs false
theorem packFetch_vol : (geoK 0 0 1999).volume = 2699 := by decide
theorem packTo_at {ids : List Int} {bs : List (List UInt8)} (h : ∀ b ∈ bs, b.length ≤ 250) : ∀ i, (packTo ids bs i).length ≤ 256 * i
  | 0 => Nat.le_refl _
  | i + 1 => by
    have ih := packTo_at (ids := ids) h i
    have hb : (bs.getD i []).length ≤ 250 := by
      rw [List.getD_eq_getElem?_getD]
      cases hx : bs[i]? with
      | none => simp
      | some b => exact h b (List.mem_of_getElem? hx)
    simp only [packTo, List.length_append]
    have : (headB (ids.getD i 0) ((bs.getD i []).length : Int)).length = 6 := rfl
    omega
theorem us_more {G G' : GW} {us : List Value} {BS : List (List UInt8)} {v : Nat} {u0 : Value} {x0 : List UInt8} (hul : us.length = v) (h : ∀ (j : Nat) (u : Value) (x : List UInt8), us[j]? = some u → (BS.take v)[j]? = some x → ByG G u x) (hle : G.Le G') (hx : BS[v]? = some x0) (h0 : ByG G' u0 x0) :
    ∀ (j : Nat) (u : Value) (x : List UInt8), (us ++ [u0])[j]? = some u → (BS.take (v + 1))[j]? = some x → ByG G' u x := by
  intro j u x h1 h2
  by_cases e : j < v
  · rw [List.getElem?_append_left (by omega)] at h1
    rw [List.getElem?_take_of_lt (by omega)] at h2
    exact (h j u x h1 (by rw [List.getElem?_take_of_lt e]; exact h2)).mono hle
  · have hj : j = v := by
      have := (List.getElem?_eq_some_iff.1 h2).1
      rw [List.length_take] at this
      omega
    subst hj
    rw [List.getElem?_append_right (by omega), hul, Nat.sub_self] at h1
    rw [List.getElem?_take_of_lt (by omega), hx] at h2
    have e1 : u0 = u := Option.some.inj h1
    have e2 : x0 = x := Option.some.inj h2
    rw [← e1, ← e2]
    exact h0
set_option maxRecDepth 100000 in
set_option maxHeartbeats 32000000 in
theorem packFetch_ret {w : World} (v0 : Value) (l0 : List Raw) (h0 : RawsG ⟨Non, w⟩ v0 l0) (s : ByteArray) :
    Calls Try.prog 12 #[v0, .string s] w (Ret ⟨Non, w⟩ fun v _ => v = .bool true) := by
  obtain ⟨A, c, rfl, _, _⟩ := ScR.form h0
  refine enter (G := ⟨Non, w⟩) (n := 196) 3000 (wf_nonL w) Try.func12 rfl Try.ntmps12 (by simp) ?_
  simp only [go_sem, Nat.reduceAdd, Nat.reduceSub, Nat.reduceMul, Nat.reduceEqDiff, Nat.reduceLT, Nat.reduceLeDiff, Nat.reduceBEq, Nat.reduceBNe, Int.reduceLT, Int.reduceLE, Int.reduceEq, Int.reduceAdd, Int.reduceSub, Int.reduceNeg, decide_true, decide_false, Bool.not_true, Bool.not_false, cond_true, cond_false, beq_self_eq_true, and_self, ne_eq, not_true_eq_false, not_false_eq_true, reduceCtorEq, Bool.true_beq, Bool.false_beq]
  refine plain_ok (N := 3000) (call_does (fun v _ => v = .agg #[.int .i64 (geoK 0 0 1999).ring, .int .i64 (geoK 0 0 1999).area, .int .i64 (geoK 0 0 1999).hot, .int .i64 (geoK 0 0 1999).volume, .int .i64 (geoK 0 0 1999).volumes]) rfl rfl (by kernel_rfl) rfl (by simp only [dOk_some, dOk_none, Nat.reduceLT]) (fun G hG => geometry_does ⟨by omega, by omega⟩ ⟨by omega, by omega⟩ ⟨by omega, by omega⟩ hG.wf)) (QOk_body _ _ _) (by first | exact .inl rfl | exact .inr ⟨_, _, rfl, rfl⟩) ?_
  rintro _ ⟨_, G1, rfl, hn1, rfl⟩
  clear hn1
  have hg := geoK_good 0 0 1999
  have hvol := packFetch_vol
  generalize geoK 0 0 1999 = g at hg hvol
  simp only [go_sem, Nat.reduceAdd, Nat.reduceSub, Nat.reduceMul, Nat.reduceEqDiff, Nat.reduceLT, Nat.reduceLeDiff, Nat.reduceBEq, Nat.reduceBNe, Int.reduceLT, Int.reduceLE, Int.reduceEq, Int.reduceAdd, Int.reduceSub, Int.reduceNeg, decide_true, decide_false, Bool.not_true, Bool.not_false, cond_true, cond_false, beq_self_eq_true, and_self, ne_eq, not_true_eq_false, not_false_eq_true, reduceCtorEq, Bool.true_beq, Bool.false_beq]
  intro g1
  refine plain_ok (N := 3000) (call_does (fun v G => ∃ dv, v = .tuple #[dv, .int .i64 0] ∧ DevG G dv (newDev g)) rfl rfl (by kernel_rfl) rfl (by simp only [dOk_some, dOk_none, Nat.reduceLT]) (fun G hG => new_does hg hG.wf (tidL hG (by simp) (by simp; decide)))) (QOk_body _ _ _) (by first | exact .inl rfl | exact .inr ⟨_, _, rfl, rfl⟩) ?_
  rintro _ ⟨_, G2, ⟨dv, rfl, hd0⟩, hn2, rfl⟩
  clear hn2
  have hg0 := newGood g hg
  have hf0 : (newDev g).fuel = -1 := rfl
  have hv0 : (newDev g).vols = [] := rfl
  generalize newDev g = d0 at hd0 hg0 hf0 hv0
  obtain ⟨A1, k1, A2, k2, A3, k3, rfl, hfo⟩ := hd0.form
  clear hfo
  simp only [go_sem, Nat.reduceAdd, Nat.reduceSub, Nat.reduceMul, Nat.reduceEqDiff, Nat.reduceLT, Nat.reduceLeDiff, Nat.reduceBEq, Nat.reduceBNe, Int.reduceLT, Int.reduceLE, Int.reduceEq, Int.reduceAdd, Int.reduceSub, Int.reduceNeg, decide_true, decide_false, Bool.not_true, Bool.not_false, cond_true, cond_false, beq_self_eq_true, and_self, ne_eq, not_true_eq_false, not_false_eq_true, reduceCtorEq, Bool.true_beq, Bool.false_beq]
  intro g2
  refine ⟨by omega, ?_⟩
  obtain ⟨a, ha⟩ : ∃ a : List UInt8, a = (s.extract 0 (min s.size 100)).data.toList := ⟨_, rfl⟩
  have hal : a.length ≤ 100 := by rw [ha]; exact cut_len s 100
  refine plain_ok (N := 3000) (bytes_does (e := 5) rfl (tyStr9) (tySlice23) (tyInt5) rfl (by simp only [dOk_some, dOk_none, Nat.reduceLT]) (cut_sz s 100 (by omega))) (QOk_body _ _ _) (by first | exact .inl rfl | exact .inr ⟨_, _, rfl, rfl⟩) ?_
  rw [cut_is s 100 100 rfl, ← ha]
  rintro _ ⟨Aa, ca, G3, hba, rfl⟩
  clear ha
  simp only [go_sem, Nat.reduceAdd, Nat.reduceSub, Nat.reduceMul, Nat.reduceEqDiff, Nat.reduceLT, Nat.reduceLeDiff, Nat.reduceBEq, Nat.reduceBNe, Int.reduceLT, Int.reduceLE, Int.reduceEq, Int.reduceAdd, Int.reduceSub, Int.reduceNeg, decide_true, decide_false, Bool.not_true, Bool.not_false, cond_true, cond_false, beq_self_eq_true, and_self, ne_eq, not_true_eq_false, not_false_eq_true, reduceCtorEq, Bool.true_beq, Bool.false_beq]
  obtain ⟨p1, hv1, hf1⟩ := vol_fresh (g := g) (bs := a) hv0 hg.n1 (by omega) hf0
  refine plain_ok (N := 3000) (call_does (fun v G => ∃ dv, v = .tuple #[dv, .int .i64 0] ∧ DevG G dv (appDev g d0 0 a)) rfl rfl (by kernel_rfl) rfl (by simp only [dOk_some, dOk_none, Nat.reduceLT]) (fun G hG => ret_mono (append_does' (v := 0) (bs := a) hg hg0 (by omega) hG.wf (tidL hG (by simp) (by simp; decide)) (hd0.mono (hG.le G2 (by simp))) (ByG.mono hba (hG.le G3 (by simp)))) fun v G' _ h => dev_get h p1)) (QOk_body _ _ _) (by first | exact .inl rfl | exact .inr ⟨_, _, rfl, rfl⟩) ?_
  rintro _ ⟨_, G4, ⟨dv, rfl, hd1⟩, hn4, rfl⟩
  have hl04 : GW.Le ⟨Non, w⟩ G4 := hn4.le _ (by simp)
  have hl34 : G3.Le G4 := hn4.le _ (by simp)
  clear hn4
  have hg1 := good_app hg0 p1
  generalize appDev g d0 0 a = d1 at hd1 hv1 hf1 hg1
  obtain ⟨B1, m1, B2, m2, B3, m3, rfl, hfo⟩ := hd1.form
  clear hfo
  simp only [go_sem, Nat.reduceAdd, Nat.reduceSub, Nat.reduceMul, Nat.reduceEqDiff, Nat.reduceLT, Nat.reduceLeDiff, Nat.reduceBEq, Nat.reduceBNe, Int.reduceLT, Int.reduceLE, Int.reduceEq, Int.reduceAdd, Int.reduceSub, Int.reduceNeg, decide_true, decide_false, Bool.not_true, Bool.not_false, cond_true, cond_false, beq_self_eq_true, and_self, ne_eq, not_true_eq_false, not_false_eq_true, reduceCtorEq, Bool.true_beq, Bool.false_beq]
  refine row_ok 23 1 ?_
  refine row_ok 3 1 ?_
  obtain ⟨IDS, hIDS⟩ : ∃ l : List Int, l = l0.map idOf := ⟨_, rfl⟩
  obtain ⟨BS, hBS⟩ : ∃ l : List (List UInt8), l = l0.map bodyB := ⟨_, rfl⟩
  have hIl : IDS.length = l0.length := by rw [hIDS, List.length_map]
  have hBl : BS.length = l0.length := by rw [hBS, List.length_map]
  have hB250 : ∀ b ∈ BS, b.length ≤ 250 := by
    intro b hb
    rw [hBS] at hb
    obtain ⟨z, _, rfl⟩ := List.mem_map.1 hb
    exact bodyB_len z
  have hI1000 : ∀ x ∈ IDS, 1 ≤ x ∧ x ≤ 1000 := by
    intro x hx
    rw [hIDS] at hx
    obtain ⟨z, _, rfl⟩ := List.mem_map.1 hx
    have := pick_bd z.a 1000 (by omega)
    unfold idOf
    omega
  have hpk : ∀ i, (packTo IDS BS i).length ≤ 256 * i := packTo_at hB250
  refine loop_ok (N := 3000) (ι := Nat × (Option Addr × Nat) × (Option Addr × Nat) × List Value × GW)
    (fun i => match i with | (v, (Ai, ci), (Ab, cb), us, G) => ⟨[(0, .c (.v (.slice A l0.length c))), (5, .c (.p 0 g1 0)), (6, .c (.p 1 g2 0)), (7, .c (.v (.int .i64 0))), (8, .c (.v (.slice Aa a.length ca))), (9, .c (.v (.int .i64 0))), (10, .c (.v (.slice Ai v ci))), (11, .c (.v (.slice Ab v cb))), (12, .c (.v (.int .i64 ((a.length : Int) + ((packTo IDS BS v).length : Int))))), (13, .c (.v (.int .i64 (v : Int))))],
      [⟨1, g2, 37, [.v (.slice B1 d1.safe.length m1), .v (.slice B2 d1.cache.length m2), .v (.slice B3 d1.vols.length m3), .v (.int .i64 d1.fuel)]⟩, ⟨0, g1, 32, [.v (.int .i64 g.ring), .v (.int .i64 g.area), .v (.int .i64 g.hot), .v (.int .i64 g.volume), .v (.int .i64 g.volumes)]⟩],
      [⟨.slice Ai v ci, 3, 1, v, (IDS.take v).map (Value.int .i64)⟩, ⟨.slice Ab v cb, 23, 1, v, us⟩], [], [G], 2⟩)
    (fun i => match i with | (v, (Ai, ci), (Ab, cb), us, G) => (v ≤ l0.length ∧ v ≤ 8 ∧ us.length = v) ∧ RawsG G (.slice A l0.length c) l0 ∧ DevG G (.agg #[.slice B1 d1.safe.length m1, .slice B2 d1.cache.length m2, .slice B3 d1.vols.length m3, .int .i64 d1.fuel]) d1 ∧ ByG G (.slice Aa a.length ca) a ∧
      ∀ (j : Nat) (u : Value) (x : List UInt8), us[j]? = some u → (BS.take v)[j]? = some x → ByG G u x)
    (fun i => l0.length - i.1) (QOk_body _ _ _) (0, (none, 0), (none, 0), [], G4) ⟨⟨by omega, by omega, rfl⟩, ScR.mono h0 rawG_mono hl04, hd1, ByG.mono hba hl34, fun j u x h1 _ => by cases h1⟩ (by simp only [go_sem, Nat.reduceAdd, Nat.reduceSub, Nat.reduceMul, Nat.reduceEqDiff, Nat.reduceLT, Nat.reduceLeDiff, Nat.reduceBEq, Nat.reduceBNe, Int.reduceLT, Int.reduceLE, Int.reduceEq, Int.reduceAdd, Int.reduceSub, Int.reduceNeg, decide_true, decide_false, Bool.not_true, Bool.not_false, cond_true, cond_false, beq_self_eq_true, and_self, ne_eq, not_true_eq_false, not_false_eq_true, reduceCtorEq, Bool.true_beq, Bool.false_beq]; simp [packTo]) ?_
  clear h0 hd1 hba hl04 hl34 hd0 hg0 hf0 hv0 p1 G1 G2 G3 G4 A1 k1 A2 k2 A3 k3 d0
  rintro ⟨v, ⟨Ai, ci⟩, ⟨Ab, cb⟩, us, G4⟩ ⟨⟨hv, hv8, hul⟩, hr4, hd4, hba, hus⟩
  simp only
  by_cases hlt : v < l0.length
  · have q1 : decide ((v : Int) < (l0.length : Int)) = true := decide_eq_true (by omega)
    by_cases hl8 : v < 8
    · have q2 : decide ((v : Int) < 8) = true := decide_eq_true (by omega)
      obtain ⟨z, hz⟩ : ∃ z, l0[v]? = some z := ⟨_, List.getElem?_eq_getElem hlt⟩
      simp only [go_sem, Nat.reduceAdd, Nat.reduceSub, Nat.reduceMul, Nat.reduceEqDiff, Nat.reduceLT, Nat.reduceLeDiff, Nat.reduceBEq, Nat.reduceBNe, Int.reduceLT, Int.reduceLE, Int.reduceEq, Int.reduceAdd, Int.reduceSub, Int.reduceNeg, decide_true, decide_false, Bool.not_true, Bool.not_false, cond_true, cond_false, beq_self_eq_true, and_self, ne_eq, not_true_eq_false, not_false_eq_true, reduceCtorEq, Bool.true_beq, Bool.false_beq, q1, q2]
      refine preview_ok (R := RawG) (kc := 6) hz (fun G hG => ScR.mono hr4 rawG_mono (hG G4 (by simp))) fun g5 o5 cs5 G5 hA _ hc5 hle5 => ?_
      subst hA
      have hl45 : G4.Le G5 := hle5 G4 (by simp)
      clear hle5
      obtain ⟨rfl, z1, z2, z3, z4, z5, z6⟩ := hc5
      simp only [go_sem, Nat.reduceAdd, Nat.reduceSub, Nat.reduceMul, Nat.reduceEqDiff, Nat.reduceLT, Nat.reduceLeDiff, Nat.reduceBEq, Nat.reduceBNe, Int.reduceLT, Int.reduceLE, Int.reduceEq, Int.reduceAdd, Int.reduceSub, Int.reduceNeg, decide_true, decide_false, Bool.not_true, Bool.not_false, cond_true, cond_false, beq_self_eq_true, and_self, ne_eq, not_true_eq_false, not_false_eq_true, reduceCtorEq, Bool.true_beq, Bool.false_beq]
      have hS := cut_sz (bodyOf z.text z.c) 250 (by omega)
      refine cut_code2 (N := 3000) (ι := Option Addr × Nat × GW)
        (fun i => match i with | (Az, cz, G) => ⟨[(0, .c (.v (.slice (some ⟨g5, o5, none⟩) l0.length c))), (5, .c (.p 0 g1 0)), (6, .c (.p 1 g2 0)), (7, .c (.v (.int .i64 0))), (8, .c (.v (.slice Aa a.length ca))), (9, .c (.v (.int .i64 0))), (10, .c (.v (.slice Ai v ci))), (11, .c (.v (.slice Ab v cb))), (12, .c (.v (.int .i64 ((a.length : Int) + ((packTo IDS BS v).length : Int))))), (13, .c (.v (.int .i64 (v : Int)))), (14, .c (.v (.slice Az (bodyB z).length cz)))],
          [⟨1, g2, 37, [.v (.slice B1 d1.safe.length m1), .v (.slice B2 d1.cache.length m2), .v (.slice B3 d1.vols.length m3), .v (.int .i64 d1.fuel)]⟩, ⟨0, g1, 32, [.v (.int .i64 g.ring), .v (.int .i64 g.area), .v (.int .i64 g.hot), .v (.int .i64 g.volume), .v (.int .i64 g.volumes)]⟩],
          [⟨.slice Ai v ci, 3, 1, v, (IDS.take v).map (Value.int .i64)⟩, ⟨.slice Ab v cb, 23, 1, v, us⟩], [], [G, G4], 2⟩)
        (fun i => match i with | (Az, cz, G) => ByG G (.slice Az (bodyB z).length cz) (bodyB z)) (QOk_body _ _ _) ?_ ?_
      · rintro ⟨Az, cz, G6⟩ hbz
        have hbz : ByG G6 (.slice Az (bodyB z).length cz) (bodyB z) := hbz
        have hIz : IDS[v]? = some (idOf z) := by rw [hIDS, List.getElem?_map, hz]; rfl
        have hBz : BS[v]? = some (bodyB z) := by rw [hBS, List.getElem?_map, hz]; rfl
        have hb250 := bodyB_len z
        have hpkv := hpk v
        have hps : ((packTo IDS BS (v + 1)).length : Int) = ((packTo IDS BS v).length : Int) + (6 + ((bodyB z).length : Int)) := by
          have : packTo IDS BS (v + 1) = packTo IDS BS v ++ (headB (idOf z) ((bodyB z).length : Int) ++ bodyB z) := by simp [packTo, hIz, hBz]
          rw [this, List.length_append, List.length_append]
          show (((packTo IDS BS v).length + (6 + (bodyB z).length) : Nat) : Int) = _
          omega
        simp only
        simp only [go_sem, Nat.reduceAdd, Nat.reduceSub, Nat.reduceMul, Nat.reduceEqDiff, Nat.reduceLT, Nat.reduceLeDiff, Nat.reduceBEq, Nat.reduceBNe, Int.reduceLT, Int.reduceLE, Int.reduceEq, Int.reduceAdd, Int.reduceSub, Int.reduceNeg, decide_true, decide_false, Bool.not_true, Bool.not_false, cond_true, cond_false, beq_self_eq_true, and_self, ne_eq, not_true_eq_false, not_false_eq_true, reduceCtorEq, Bool.true_beq, Bool.false_beq]
        refine plain_ok (N := 3000) (elemC_does (R := RawG) (l := l0) (m := v) rfl tySlice48 tySize58 rfl rfl (by simp only [dOk_some, dOk_none, Nat.reduceLT]) rfl hz (fun G hG => ScR.mono hr4 rawG_mono (hG.le G4 (by simp)))) (QOk_body _ _ _) (by first | exact .inl rfl | exact .inr ⟨_, _, rfl, rfl⟩) ?_
        rintro _ ⟨gw, ow, cs, G7, _, ⟨rfl, _⟩, hn7, rfl⟩
        clear hn7
        simp only [go_sem, Nat.reduceAdd, Nat.reduceSub, Nat.reduceMul, Nat.reduceEqDiff, Nat.reduceLT, Nat.reduceLeDiff, Nat.reduceBEq, Nat.reduceBNe, Int.reduceLT, Int.reduceLE, Int.reduceEq, Int.reduceAdd, Int.reduceSub, Int.reduceNeg, decide_true, decide_false, Bool.not_true, Bool.not_false, cond_true, cond_false, beq_self_eq_true, and_self, ne_eq, not_true_eq_false, not_false_eq_true, reduceCtorEq, Bool.true_beq, Bool.false_beq]
        refine plain_ok (N := 3000) (call_does (fun v _ => ∃ j : Nat, (j : Int) = pick z.a 1000 ∧ (j : Int) < 1000 ∧ v = .int .i64 (j : Int)) rfl rfl (by kernel_rfl) rfl (by simp only [dOk_some, dOk_none, Nat.reduceLT]) (fun G hG => picked_does z2.1 z2.2 (by omega) (by omega))) (QOk_body _ _ _) (by first | exact .inl rfl | exact .inr ⟨_, _, rfl, rfl⟩) ?_
        rintro _ ⟨_, G8, ⟨j, hj, hj2, rfl⟩, hn8, rfl⟩
        have hl48 : G4.Le G8 := hn8.le G4 (by simp)
        have hl68 : G6.Le G8 := hn8.le G6 (by simp)
        clear hn8
        simp only [go_sem, Nat.reduceAdd, Nat.reduceSub, Nat.reduceMul, Nat.reduceEqDiff, Nat.reduceLT, Nat.reduceLeDiff, Nat.reduceBEq, Nat.reduceBNe, Int.reduceLT, Int.reduceLE, Int.reduceEq, Int.reduceAdd, Int.reduceSub, Int.reduceNeg, decide_true, decide_false, Bool.not_true, Bool.not_false, cond_true, cond_false, beq_self_eq_true, and_self, ne_eq, not_true_eq_false, not_false_eq_true, reduceCtorEq, Bool.true_beq, Bool.false_beq]
        refine ⟨by omega, ?_⟩
        intro g6
        refine plain_ok (N := 3000) (append_does (R1 := []) (m := 1) (news := [.int .i64 (1 + (j : Int))]) rfl tySlice28 tyApp3 rfl rfl rfl rfl (by simp only [dOk_some, dOk_none, Nat.reduceLT]) (by intro u hu; simp at hu; rcases hu with rfl; rfl) (by unfold maxLen; omega) (by omega) (fun G hG => tsl_blk hG (b := ⟨3, g6, 3, [.v (.int .i64 (1 + (j : Int)))]⟩) (by simp) rfl (by unfold maxLen; omega))) (QOk_body _ _ _) (by first | exact .inl rfl | exact .inr ⟨_, _, rfl, rfl⟩) ?_
        rintro _ ⟨A9, c9, rfl⟩
        have eI : (IDS.take v).map (Value.int .i64) ++ [.int .i64 (1 + (j : Int))] = (IDS.take (v + 1)).map (Value.int .i64) := by rw [List.take_add_one, hIz, hj]; simp [idOf]
        rw [eI]
        simp only [go_sem, Nat.reduceAdd, Nat.reduceSub, Nat.reduceMul, Nat.reduceEqDiff, Nat.reduceLT, Nat.reduceLeDiff, Nat.reduceBEq, Nat.reduceBNe, Int.reduceLT, Int.reduceLE, Int.reduceEq, Int.reduceAdd, Int.reduceSub, Int.reduceNeg, decide_true, decide_false, Bool.not_true, Bool.not_false, cond_true, cond_false, beq_self_eq_true, and_self, ne_eq, not_true_eq_false, not_false_eq_true, reduceCtorEq, Bool.true_beq, Bool.false_beq]
        intro g7
        refine plain_ok (N := 3000) (append_does (R1 := [_]) (m := 1) (news := [.slice Az (bodyB z).length cz]) rfl tySlice29 tyApp23 rfl rfl rfl rfl (by simp only [dOk_some, dOk_none, Nat.reduceLT]) (by intro u hu; simp at hu; rcases hu with rfl; rfl) (by unfold maxLen; omega) (by omega) (fun G hG => tsl_blk hG (b := ⟨4, g7, 23, [.v (.slice Az (bodyB z).length cz)]⟩) (by simp) rfl (by unfold maxLen; omega))) (QOk_body _ _ _) (by first | exact .inl rfl | exact .inr ⟨_, _, rfl, rfl⟩) ?_
        rintro _ ⟨A10, c10, rfl⟩
        simp only [go_sem, Nat.reduceAdd, Nat.reduceSub, Nat.reduceMul, Nat.reduceEqDiff, Nat.reduceLT, Nat.reduceLeDiff, Nat.reduceBEq, Nat.reduceBNe, Int.reduceLT, Int.reduceLE, Int.reduceEq, Int.reduceAdd, Int.reduceSub, Int.reduceNeg, decide_true, decide_false, Bool.not_true, Bool.not_false, cond_true, cond_false, beq_self_eq_true, and_self, ne_eq, not_true_eq_false, not_false_eq_true, reduceCtorEq, Bool.true_beq, Bool.false_beq]
        have ecast : (a.length : Int) + ((packTo IDS BS v).length : Int) + (6 + ((bodyB z).length : Int)) = (a.length : Int) + ((packTo IDS BS (v + 1)).length : Int) := by omega
        refine ⟨by omega, by omega, ?_⟩
        rw [ecast]
        exact ⟨by omega, again_ok (v + 1, (A9, c9), (A10, c10), us ++ [.slice Az (bodyB z).length cz], G8) ⟨⟨by omega, by omega, by rw [List.length_append, hul]; rfl⟩, ScR.mono hr4 rawG_mono hl48, hd4.mono hl48, hba.mono hl48, us_more hul hus hl48 hBz (hbz.mono hl68)⟩ (by simp only; omega) (by simp only [go_sem, Nat.reduceAdd, Nat.reduceSub, Nat.reduceMul, Nat.reduceEqDiff, Nat.reduceLT, Nat.reduceLeDiff, Nat.reduceBEq, Nat.reduceBNe, Int.reduceLT, Int.reduceLE, Int.reduceEq, Int.reduceAdd, Int.reduceSub, Int.reduceNeg, decide_true, decide_false, Bool.not_true, Bool.not_false, cond_true, cond_false, beq_self_eq_true, and_self, ne_eq, not_true_eq_false, not_false_eq_true, reduceCtorEq, Bool.true_beq, Bool.false_beq]; simp)⟩
      · intro k' J hk' hJ
        clear hus hd4 hba hI1000 hB250 hpk hIl hBl
        refine draw_ok (N := 3000) (.take 0 (.take 1 (.take 2 (.take 3 (.take 4 (.take 5 (.take 6 (.take 7 (.take 8 (.take 9 (.take 11 (.take 12 (.take 13 (.take 14 (.take 15 (.take 16 (.take 17 (.take 18 (.take 19 (.take 20 (.alt 10 (.alt 21 (.take 22 (.take 23 (.take 24 (.alt 25 (.take 26 .done) .last)))) .last) .last))))))))))))))))))))) [] hk' follows_mixed (by kernel_rfl) (by kernel_rfl) ?_
        simp only [go_sem, Nat.reduceAdd, Nat.reduceSub, Nat.reduceMul, Nat.reduceEqDiff, Nat.reduceLT, Nat.reduceLeDiff, Nat.reduceBEq, Nat.reduceBNe, Int.reduceLT, Int.reduceLE, Int.reduceEq, Int.reduceAdd, Int.reduceSub, Int.reduceNeg, decide_true, decide_false, Bool.not_true, Bool.not_false, cond_true, cond_false, beq_self_eq_true, and_self, ne_eq, not_true_eq_false, not_false_eq_true, reduceCtorEq, Bool.true_beq, Bool.false_beq]
        refine take_elem 2 (m := v) rfl tySlice48 tySize58 rfl rfl (by simp only [dOk_some, dOk_none, Nat.reduceLT]) rfl hlt ?_
        simp only [go_sem, Nat.reduceAdd, Nat.reduceSub, Nat.reduceMul, Nat.reduceEqDiff, Nat.reduceLT, Nat.reduceLeDiff, Nat.reduceBEq, Nat.reduceBNe, Int.reduceLT, Int.reduceLE, Int.reduceEq, Int.reduceAdd, Int.reduceSub, Int.reduceNeg, decide_true, decide_false, Bool.not_true, Bool.not_false, cond_true, cond_false, beq_self_eq_true, and_self, ne_eq, not_true_eq_false, not_false_eq_true, reduceCtorEq, Bool.true_beq, Bool.false_beq]
        refine take_elem 2 (m := v) rfl tySlice48 tySize58 rfl rfl (by simp only [dOk_some, dOk_none, Nat.reduceLT]) rfl hlt ?_
        simp only [go_sem, Nat.reduceAdd, Nat.reduceSub, Nat.reduceMul, Nat.reduceEqDiff, Nat.reduceLT, Nat.reduceLeDiff, Nat.reduceBEq, Nat.reduceBNe, Int.reduceLT, Int.reduceLE, Int.reduceEq, Int.reduceAdd, Int.reduceSub, Int.reduceNeg, decide_true, decide_false, Bool.not_true, Bool.not_false, cond_true, cond_false, beq_self_eq_true, and_self, ne_eq, not_true_eq_false, not_false_eq_true, reduceCtorEq, Bool.true_beq, Bool.false_beq]
        refine take_elem 2 (m := v) rfl tySlice48 tySize58 rfl rfl (by simp only [dOk_some, dOk_none, Nat.reduceLT]) rfl hlt ?_
        simp only [go_sem, Nat.reduceAdd, Nat.reduceSub, Nat.reduceMul, Nat.reduceEqDiff, Nat.reduceLT, Nat.reduceLeDiff, Nat.reduceBEq, Nat.reduceBNe, Int.reduceLT, Int.reduceLE, Int.reduceEq, Int.reduceAdd, Int.reduceSub, Int.reduceNeg, decide_true, decide_false, Bool.not_true, Bool.not_false, cond_true, cond_false, beq_self_eq_true, and_self, ne_eq, not_true_eq_false, not_false_eq_true, reduceCtorEq, Bool.true_beq, Bool.false_beq]
        refine take_elem 2 (m := v) rfl tySlice48 tySize58 rfl rfl (by simp only [dOk_some, dOk_none, Nat.reduceLT]) rfl hlt ?_
        simp only [go_sem, Nat.reduceAdd, Nat.reduceSub, Nat.reduceMul, Nat.reduceEqDiff, Nat.reduceLT, Nat.reduceLeDiff, Nat.reduceBEq, Nat.reduceBNe, Int.reduceLT, Int.reduceLE, Int.reduceEq, Int.reduceAdd, Int.reduceSub, Int.reduceNeg, decide_true, decide_false, Bool.not_true, Bool.not_false, cond_true, cond_false, beq_self_eq_true, and_self, ne_eq, not_true_eq_false, not_false_eq_true, reduceCtorEq, Bool.true_beq, Bool.false_beq]
        refine any_ok2 (N := 3000) (call_does (fun u _ => u = .string (bodyOf z.text z.c)) rfl rfl (by kernel_rfl) rfl (by simp only [dOk_some, dOk_none, Nat.reduceLT]) (fun G hG => body_does z6 z4 hG.wf)) hk' rfl (by first | exact .inl rfl | exact .inr ⟨_, _, rfl, rfl⟩) (by intro _ hK; first | (obtain ⟨_, _, _, _, rfl⟩ := hK; exact ⟨rfl, fun _ h => h⟩) | (obtain ⟨_, _, rfl⟩ := hK; exact ⟨rfl, fun _ h => h⟩) | (obtain ⟨_, _, _, _, _, _, rfl⟩ := hK; exact ⟨rfl, fun _ h => List.mem_cons_of_mem _ h⟩) | (obtain ⟨_, _, _, _, _, _, _, rfl⟩ := hK; exact ⟨rfl, fun _ h => List.mem_cons_of_mem _ h⟩) | (obtain rfl := hK; exact ⟨rfl, fun _ h => h⟩)) ?_
        rintro _ ⟨_, G9, rfl, hn9, rfl⟩
        clear hn9
        simp only [go_sem, Nat.reduceAdd, Nat.reduceSub, Nat.reduceMul, Nat.reduceEqDiff, Nat.reduceLT, Nat.reduceLeDiff, Nat.reduceBEq, Nat.reduceBNe, Int.reduceLT, Int.reduceLE, Int.reduceEq, Int.reduceAdd, Int.reduceSub, Int.reduceNeg, decide_true, decide_false, Bool.not_true, Bool.not_false, cond_true, cond_false, beq_self_eq_true, and_self, ne_eq, not_true_eq_false, not_false_eq_true, reduceCtorEq, Bool.true_beq, Bool.false_beq]
        refine any_ok2 (N := 3000) (call_does (fun u _ => u = .string (bodyOf z.text z.c)) rfl rfl (by kernel_rfl) rfl (by simp only [dOk_some, dOk_none, Nat.reduceLT]) (fun G hG => body_does z6 z4 hG.wf)) hk' rfl (by first | exact .inl rfl | exact .inr ⟨_, _, rfl, rfl⟩) (by intro _ hK; first | (obtain ⟨_, _, _, _, rfl⟩ := hK; exact ⟨rfl, fun _ h => h⟩) | (obtain ⟨_, _, rfl⟩ := hK; exact ⟨rfl, fun _ h => h⟩) | (obtain ⟨_, _, _, _, _, _, rfl⟩ := hK; exact ⟨rfl, fun _ h => List.mem_cons_of_mem _ h⟩) | (obtain ⟨_, _, _, _, _, _, _, rfl⟩ := hK; exact ⟨rfl, fun _ h => List.mem_cons_of_mem _ h⟩) | (obtain rfl := hK; exact ⟨rfl, fun _ h => h⟩)) ?_
        rintro _ ⟨_, G10, rfl, hn10, rfl⟩
        clear hn10
        simp only [go_sem, Nat.reduceAdd, Nat.reduceSub, Nat.reduceMul, Nat.reduceEqDiff, Nat.reduceLT, Nat.reduceLeDiff, Nat.reduceBEq, Nat.reduceBNe, Int.reduceLT, Int.reduceLE, Int.reduceEq, Int.reduceAdd, Int.reduceSub, Int.reduceNeg, decide_true, decide_false, Bool.not_true, Bool.not_false, cond_true, cond_false, beq_self_eq_true, and_self, ne_eq, not_true_eq_false, not_false_eq_true, reduceCtorEq, Bool.true_beq, Bool.false_beq]
        refine ⟨by omega, ?_⟩
        refine any_ok2 (N := 3000) (bytes_does (e := 5) rfl (tyStr9) (tySlice23) (tyInt5) rfl (by simp only [dOk_some, dOk_none, Nat.reduceLT]) hS) hk' rfl (by first | exact .inl rfl | exact .inr ⟨_, _, rfl, rfl⟩) (by intro _ hK; first | (obtain ⟨_, _, _, _, rfl⟩ := hK; exact ⟨rfl, fun _ h => h⟩) | (obtain ⟨_, _, rfl⟩ := hK; exact ⟨rfl, fun _ h => h⟩) | (obtain ⟨_, _, _, _, _, _, rfl⟩ := hK; exact ⟨rfl, fun _ h => List.mem_cons_of_mem _ h⟩) | (obtain ⟨_, _, _, _, _, _, _, rfl⟩ := hK; exact ⟨rfl, fun _ h => List.mem_cons_of_mem _ h⟩) | (obtain rfl := hK; exact ⟨rfl, fun _ h => h⟩)) ?_
        rintro _ ⟨Ab2, cb2, G11, hby, rfl⟩
        simp only [go_sem, Nat.reduceAdd, Nat.reduceSub, Nat.reduceMul, Nat.reduceEqDiff, Nat.reduceLT, Nat.reduceLeDiff, Nat.reduceBEq, Nat.reduceBNe, Int.reduceLT, Int.reduceLE, Int.reduceEq, Int.reduceAdd, Int.reduceSub, Int.reduceNeg, decide_true, decide_false, Bool.not_true, Bool.not_false, cond_true, cond_false, beq_self_eq_true, and_self, ne_eq, not_true_eq_false, not_false_eq_true, reduceCtorEq, Bool.true_beq, Bool.false_beq]
        exact hJ (Ab2, cb2, G11) _ hby (by simp only [go_sem, Nat.reduceAdd, Nat.reduceSub, Nat.reduceMul, Nat.reduceEqDiff, Nat.reduceLT, Nat.reduceLeDiff, Nat.reduceBEq, Nat.reduceBNe, Int.reduceLT, Int.reduceLE, Int.reduceEq, Int.reduceAdd, Int.reduceSub, Int.reduceNeg, decide_true, decide_false, Bool.not_true, Bool.not_false, cond_true, cond_false, beq_self_eq_true, and_self, ne_eq, not_true_eq_false, not_false_eq_true, reduceCtorEq, Bool.true_beq, Bool.false_beq]; simp [bodyB])
    · have q2 : decide ((v : Int) < 8) = false := decide_eq_false (by omega)
      simp only [go_sem, Nat.reduceAdd, Nat.reduceSub, Nat.reduceMul, Nat.reduceEqDiff, Nat.reduceLT, Nat.reduceLeDiff, Nat.reduceBEq, Nat.reduceBNe, Int.reduceLT, Int.reduceLE, Int.reduceEq, Int.reduceAdd, Int.reduceSub, Int.reduceNeg, decide_true, decide_false, Bool.not_true, Bool.not_false, cond_true, cond_false, beq_self_eq_true, and_self, ne_eq, not_true_eq_false, not_false_eq_true, reduceCtorEq, Bool.true_beq, Bool.false_beq, q1, q2]
      refine read_ok (R1 := []) rfl fun G5 hle5 hs5 => ?_
      simp only [go_sem, Nat.reduceAdd, Nat.reduceSub, Nat.reduceMul, Nat.reduceEqDiff, Nat.reduceLT, Nat.reduceLeDiff, Nat.reduceBEq, Nat.reduceBNe, Int.reduceLT, Int.reduceLE, Int.reduceEq, Int.reduceAdd, Int.reduceSub, Int.reduceNeg, decide_true, decide_false, Bool.not_true, Bool.not_false, cond_true, cond_false, beq_self_eq_true, and_self, ne_eq, not_true_eq_false, not_false_eq_true, reduceCtorEq, Bool.true_beq, Bool.false_beq]
      refine read_ok (R1 := []) rfl fun G6 hle6 hs6 => ?_
      have hl45 : G4.Le G5 := hle5 G4 (by simp)
      have hl46 : G4.Le G6 := hle6 G4 (by simp [St.seen, St.rowsTo])
      have hl56 : G5.Le G6 := hle6 G5 (by simp [St.seen, St.rowsTo])
      have hti : (IDS.take v).length = v := by rw [List.length_take]; omega
      have htb : (BS.take v).length = v := by rw [List.length_take]; omega
      have hids : IntsG G6 (.slice Ai v ci) (IDS.take v) := IntsG.of (by rw [hti]; exact Sl.mono hs5 hl56)
      have hbod : SafG G6 (.slice Ab v cb) (BS.take v) := saf_of (by rw [htb]; exact hs6) fun j u x h1 h2 => (hus j u x h1 h2).mono hl46
      clear hs5 hs6 hle5 hle6
      have hpv := hpk v
      have hpt : ∀ k, k ≤ v → packTo (IDS.take v) (BS.take v) k = packTo IDS BS k := fun k hk => packTo_take k hk
      simp only [go_sem, Nat.reduceAdd, Nat.reduceSub, Nat.reduceMul, Nat.reduceEqDiff, Nat.reduceLT, Nat.reduceLeDiff, Nat.reduceBEq, Nat.reduceBNe, Int.reduceLT, Int.reduceLE, Int.reduceEq, Int.reduceAdd, Int.reduceSub, Int.reduceNeg, decide_true, decide_false, Bool.not_true, Bool.not_false, cond_true, cond_false, beq_self_eq_true, and_self, ne_eq, not_true_eq_false, not_false_eq_true, reduceCtorEq, Bool.true_beq, Bool.false_beq]
      refine plain_ok (N := 3000) (call_does (fun u G => ∃ A c A2 c2, u = .tuple #[.slice A (packTo IDS BS v).length c, .slice A2 v c2, .int .i64 0] ∧ ByG G (.slice A (packTo IDS BS v).length c) (packTo IDS BS v) ∧ Sq PieceG 74 3 G (.slice A2 v c2) (piecesTo (a.length : Int) (IDS.take v) (BS.take v) v)) rfl rfl (by kernel_rfl) rfl (by simp only [dOk_some, dOk_none, Nat.reduceLT]) (fun G hG => ret_mono (pack_does (at_ := (a.length : Int)) (ids := IDS.take v) (bs := BS.take v) (by omega) (by omega) (by rw [hti, htb]) (by omega) (fun x hx => by have := hI1000 x (List.mem_of_mem_take hx); omega) (fun b hb => by have := hB250 b (List.mem_of_mem_take hb); omega) hG.wf (hids.mono (hG.le G6 (by simp))) (Sq.mono hbod rowG_mono (hG.le G6 (by simp)))) fun u G' _ h => by rw [hti, hpt v (Nat.le_refl _)] at h; exact h)) (QOk_body _ _ _) (by first | exact .inl rfl | exact .inr ⟨_, _, rfl, rfl⟩) ?_
      rintro _ ⟨_, G7, ⟨Ap, cp, Aq, cq, rfl, hpb, hpq⟩, hn7, rfl⟩
      clear hn7
      simp only [go_sem, Nat.reduceAdd, Nat.reduceSub, Nat.reduceMul, Nat.reduceEqDiff, Nat.reduceLT, Nat.reduceLeDiff, Nat.reduceBEq, Nat.reduceBNe, Int.reduceLT, Int.reduceLE, Int.reduceEq, Int.reduceAdd, Int.reduceSub, Int.reduceNeg, decide_true, decide_false, Bool.not_true, Bool.not_false, cond_true, cond_false, beq_self_eq_true, and_self, ne_eq, not_true_eq_false, not_false_eq_true, reduceCtorEq, Bool.true_beq, Bool.false_beq]
      obtain ⟨p2, hv2⟩ := vol_more (g := g) (bs := packTo IDS BS v) hv1 (by omega) hf1
      refine plain_ok (N := 3000) (call_does (fun u G => ∃ dv, u = .tuple #[dv, .int .i64 0] ∧ DevG G dv (appDev g d1 0 (packTo IDS BS v))) rfl rfl (by kernel_rfl) rfl (by simp only [dOk_some, dOk_none, Nat.reduceLT]) (fun G hG => ret_mono (append_does' (v := 0) (bs := packTo IDS BS v) hg hg1 (by omega) hG.wf (tidL hG (by simp) (by simp; decide)) (hd4.mono (hG.le G4 (by simp))) (hpb.mono (hG.le G7 (by simp)))) fun u G' _ h => dev_get h p2)) (QOk_body _ _ _) (by first | exact .inl rfl | exact .inr ⟨_, _, rfl, rfl⟩) ?_
      rintro _ ⟨_, G8, ⟨dv, rfl, hd8⟩, hn8, rfl⟩
      have hl68 : G6.Le G8 := hn8.le G6 (by simp)
      have hl78 : G7.Le G8 := hn8.le G7 (by simp)
      clear hn8
      have hg2 := good_app hg1 p2
      generalize appDev g d1 0 (packTo IDS BS v) = d2 at hd8 hv2 hg2
      obtain ⟨C1, n1, C2, n2, C3, n3, rfl, hfo⟩ := hd8.form
      clear hfo
      simp only [go_sem, Nat.reduceAdd, Nat.reduceSub, Nat.reduceMul, Nat.reduceEqDiff, Nat.reduceLT, Nat.reduceLeDiff, Nat.reduceBEq, Nat.reduceBNe, Int.reduceLT, Int.reduceLE, Int.reduceEq, Int.reduceAdd, Int.reduceSub, Int.reduceNeg, decide_true, decide_false, Bool.not_true, Bool.not_false, cond_true, cond_false, beq_self_eq_true, and_self, ne_eq, not_true_eq_false, not_false_eq_true, reduceCtorEq, Bool.true_beq, Bool.false_beq]
      refine ⟨by omega, ?_⟩
      refine loop_ok (N := 3000) (ι := Nat × GW)
        (fun i => match i with | (k, G) => ⟨[(5, .c (.p 0 g1 0)), (6, .c (.p 1 g2 0)), (10, .c (.v (.slice Ai v ci))), (11, .c (.v (.slice Ab v cb))), (147, .c (.v (.slice Aq v cq))), (148, .c (.v (.int .i64 (v : Int)))), (149, .c (.v (.int .i64 (k : Int))))],
          [⟨1, g2, 37, [.v (.slice C1 d2.safe.length n1), .v (.slice C2 d2.cache.length n2), .v (.slice C3 d2.vols.length n3), .v (.int .i64 d2.fuel)]⟩, ⟨0, g1, 32, [.v (.int .i64 g.ring), .v (.int .i64 g.area), .v (.int .i64 g.hot), .v (.int .i64 g.volume), .v (.int .i64 g.volumes)]⟩], [], [], [G], 2⟩)
        (fun i => match i with | (k, G) => k ≤ v ∧ DevG G (.agg #[.slice C1 d2.safe.length n1, .slice C2 d2.cache.length n2, .slice C3 d2.vols.length n3, .int .i64 d2.fuel]) d2 ∧ IntsG G (.slice Ai v ci) (IDS.take v) ∧ SafG G (.slice Ab v cb) (BS.take v) ∧ Sq PieceG 74 3 G (.slice Aq v cq) (piecesTo (a.length : Int) (IDS.take v) (BS.take v) v))
        (fun i => v - i.1) (QOk_body _ _ _) (0, G8) ⟨by omega, hd8, hids.mono hl68, Sq.mono hbod rowG_mono hl68, Sq.mono hpq pieceG_mono hl78⟩ (by simp only [go_sem, Nat.reduceAdd, Nat.reduceSub, Nat.reduceMul, Nat.reduceEqDiff, Nat.reduceLT, Nat.reduceLeDiff, Nat.reduceBEq, Nat.reduceBNe, Int.reduceLT, Int.reduceLE, Int.reduceEq, Int.reduceAdd, Int.reduceSub, Int.reduceNeg, decide_true, decide_false, Bool.not_true, Bool.not_false, cond_true, cond_false, beq_self_eq_true, and_self, ne_eq, not_true_eq_false, not_false_eq_true, reduceCtorEq, Bool.true_beq, Bool.false_beq]; simp) ?_
      clear hd8 hids hbod hpq hpb hl68 hl78 hl45 hl46 hl56 hr4 hd4 hba hus
      rintro ⟨k, G8⟩ ⟨hk, hd8, hids, hbod, hpq⟩
      simp only
      by_cases hkv : k < v
      · have q1 : decide ((k : Int) < (v : Int)) = true := decide_eq_true (by omega)
        have hx := piecesTo_at (a.length : Int) (IDS.take v) (BS.take v) v k hkv
        obtain ⟨he, hfb⟩ := piece_fetch (a := a) (ids := IDS.take v) (bs := BS.take v) (n := v) (k := k) (by rw [hpt v (Nat.le_refl _)]; exact hv2) hkv
        have hpk2 := hpk k
        rw [hpt k (by omega)] at hx he hfb
        obtain ⟨i, hi⟩ : ∃ i, (IDS.take v)[k]? = some i := ⟨_, List.getElem?_eq_getElem (by omega)⟩
        obtain ⟨b, hb⟩ : ∃ b, (BS.take v)[k]? = some b := ⟨_, List.getElem?_eq_getElem (by omega)⟩
        have gi : (IDS.take v).getD k 0 = i := by rw [List.getD_eq_getElem?_getD, hi]; rfl
        have gb : (BS.take v).getD k [] = b := by rw [List.getD_eq_getElem?_getD, hb]; rfl
        rw [gi, gb] at hx hfb
        rw [gb] at he
        have hi1 := hI1000 i (List.mem_of_mem_take (List.mem_of_getElem? hi))
        have hb1 := hB250 b (List.mem_of_mem_take (List.mem_of_getElem? hb))
        have hfl : (fetBytes d2 0 ((a.length : Int) + ((packTo IDS BS k).length : Int)) (6 + (b.length : Int))).length = 6 + b.length := by rw [hfb, List.length_append]; rfl
        have ht6 : (fetBytes d2 0 ((a.length : Int) + ((packTo IDS BS k).length : Int)) (6 + (b.length : Int))).take 6 = headB i (b.length : Int) := by rw [hfb]; rfl
        have hd6 : (fetBytes d2 0 ((a.length : Int) + ((packTo IDS BS k).length : Int)) (6 + (b.length : Int))).drop 6 = b := by rw [hfb]; rfl
        simp only [go_sem, Nat.reduceAdd, Nat.reduceSub, Nat.reduceMul, Nat.reduceEqDiff, Nat.reduceLT, Nat.reduceLeDiff, Nat.reduceBEq, Nat.reduceBNe, Int.reduceLT, Int.reduceLE, Int.reduceEq, Int.reduceAdd, Int.reduceSub, Int.reduceNeg, decide_true, decide_false, Bool.not_true, Bool.not_false, cond_true, cond_false, beq_self_eq_true, and_self, ne_eq, not_true_eq_false, not_false_eq_true, reduceCtorEq, Bool.true_beq, Bool.false_beq, q1]
        refine plain_ok (N := 3000) (elem_does (R := PieceG) (l := piecesTo (a.length : Int) (IDS.take v) (BS.take v) v) (m := k) rfl tySlice24 tySize74 rfl rfl (by simp only [dOk_some, dOk_none, Nat.reduceLT]) rfl hx (fun G hG => Sq.mono hpq pieceG_mono (hG.le G8 (by simp)))) (QOk_body _ _ _) (by first | exact .inl rfl | exact .inr ⟨_, _, rfl, rfl⟩) ?_
        rintro _ ⟨gw, ow, cs, G9, _, rfl, rfl⟩
        simp only [go_sem, Nat.reduceAdd, Nat.reduceSub, Nat.reduceMul, Nat.reduceEqDiff, Nat.reduceLT, Nat.reduceLeDiff, Nat.reduceBEq, Nat.reduceBNe, Int.reduceLT, Int.reduceLE, Int.reduceEq, Int.reduceAdd, Int.reduceSub, Int.reduceNeg, decide_true, decide_false, Bool.not_true, Bool.not_false, cond_true, cond_false, beq_self_eq_true, and_self, ne_eq, not_true_eq_false, not_false_eq_true, reduceCtorEq, Bool.true_beq, Bool.false_beq]
        intro g5
        refine plain_ok (N := 3000) (call_does (fun u G => ∃ A c, u = .tuple #[.slice A b.length c, .int .i64 0] ∧ ByG G (.slice A b.length c) b) rfl rfl (by kernel_rfl) rfl (by simp only [dOk_some, dOk_none, Nat.reduceLT]) (fun G hG => ret_mono (hotFetch_does (v := 0) (num := i) (at_ := (a.length : Int) + ((packTo IDS BS k).length : Int)) (n := b.length) hg hg2 (by omega) (by omega) (by omega) (by omega) he hfl hG.wf (hd8.mono (hG.le G8 (by simp)))) fun u G' _ h => by have := h.1 ht6; rw [hd6] at this; exact this)) (QOk_body _ _ _) (by first | exact .inl rfl | exact .inr ⟨_, _, rfl, rfl⟩) ?_
        rintro _ ⟨_, G10, ⟨Af, cf, rfl, hbf⟩, hn10, rfl⟩
        clear hn10
        simp only [go_sem, Nat.reduceAdd, Nat.reduceSub, Nat.reduceMul, Nat.reduceEqDiff, Nat.reduceLT, Nat.reduceLeDiff, Nat.reduceBEq, Nat.reduceBNe, Int.reduceLT, Int.reduceLE, Int.reduceEq, Int.reduceAdd, Int.reduceSub, Int.reduceNeg, decide_true, decide_false, Bool.not_true, Bool.not_false, cond_true, cond_false, beq_self_eq_true, and_self, ne_eq, not_true_eq_false, not_false_eq_true, reduceCtorEq, Bool.true_beq, Bool.false_beq]
        refine preview_ok (R := IntG) (kc := 1) hi (fun G hG => (hids.mono (hG G8 (by simp))).sc) fun ga oa csa Ga hAi _ hca hlea => ?_
        subst hAi
        obtain rfl := hca
        clear hlea
        simp only [go_sem, Nat.reduceAdd, Nat.reduceSub, Nat.reduceMul, Nat.reduceEqDiff, Nat.reduceLT, Nat.reduceLeDiff, Nat.reduceBEq, Nat.reduceBNe, Int.reduceLT, Int.reduceLE, Int.reduceEq, Int.reduceAdd, Int.reduceSub, Int.reduceNeg, decide_true, decide_false, Bool.not_true, Bool.not_false, cond_true, cond_false, beq_self_eq_true, and_self, ne_eq, not_true_eq_false, not_false_eq_true, reduceCtorEq, Bool.true_beq, Bool.false_beq]
        refine preview_ok (R := RowG) (kc := 1) hb (fun G hG => (Sq.mono hbod rowG_mono (hG G8 (by simp))).sc) fun gb2 ob csb Gb hAb _ hcb hleb => ?_
        subst hAb
        clear hleb
        obtain ⟨Abb, cbb, rfl, hbb⟩ := rowcell hcb
        simp only [go_sem, Nat.reduceAdd, Nat.reduceSub, Nat.reduceMul, Nat.reduceEqDiff, Nat.reduceLT, Nat.reduceLeDiff, Nat.reduceBEq, Nat.reduceBNe, Int.reduceLT, Int.reduceLE, Int.reduceEq, Int.reduceAdd, Int.reduceSub, Int.reduceNeg, decide_true, decide_false, Bool.not_true, Bool.not_false, cond_true, cond_false, beq_self_eq_true, and_self, ne_eq, not_true_eq_false, not_false_eq_true, reduceCtorEq, Bool.true_beq, Bool.false_beq]
        refine draw_ok (N := 3000) (.take 0 (.take 1 (.take 2 (.take 3 (.take 4 (.take 5 (.take 6 (.take 7 (.take 8 (.take 9 (.take 10 (.take 11 (.take 12 (.take 14 (.take 15 (.take 16 (.take 17 (.alt 13 (.alt 18 (.take 19 (.take 20 .done)) .last) (.alt 18 (.alt 13 (.take 19 (.take 20 .done)) .last) .last))))))))))))))))))) [] (QOk_body _ _ _) follows_mixed (by kernel_rfl) (by kernel_rfl) ?_
        simp only [go_sem, Nat.reduceAdd, Nat.reduceSub, Nat.reduceMul, Nat.reduceEqDiff, Nat.reduceLT, Nat.reduceLeDiff, Nat.reduceBEq, Nat.reduceBNe, Int.reduceLT, Int.reduceLE, Int.reduceEq, Int.reduceAdd, Int.reduceSub, Int.reduceNeg, decide_true, decide_false, Bool.not_true, Bool.not_false, cond_true, cond_false, beq_self_eq_true, and_self, ne_eq, not_true_eq_false, not_false_eq_true, reduceCtorEq, Bool.true_beq, Bool.false_beq]
        have q : decide (i = i) = true := decide_eq_true rfl
        refine take_elem 4 (m := k) rfl tySlice28 tySize3 rfl rfl (by simp only [dOk_some, dOk_none, Nat.reduceLT]) rfl (by omega) ?_
        simp only [go_sem, Nat.reduceAdd, Nat.reduceSub, Nat.reduceMul, Nat.reduceEqDiff, Nat.reduceLT, Nat.reduceLeDiff, Nat.reduceBEq, Nat.reduceBNe, Int.reduceLT, Int.reduceLE, Int.reduceEq, Int.reduceAdd, Int.reduceSub, Int.reduceNeg, decide_true, decide_false, Bool.not_true, Bool.not_false, cond_true, cond_false, beq_self_eq_true, and_self, ne_eq, not_true_eq_false, not_false_eq_true, reduceCtorEq, Bool.true_beq, Bool.false_beq, q]
        refine take_elem 5 (m := k) rfl tySlice29 tySize23 rfl rfl (by simp only [dOk_some, dOk_none, Nat.reduceLT]) rfl (by omega) ?_
        simp only [go_sem, Nat.reduceAdd, Nat.reduceSub, Nat.reduceMul, Nat.reduceEqDiff, Nat.reduceLT, Nat.reduceLeDiff, Nat.reduceBEq, Nat.reduceBNe, Int.reduceLT, Int.reduceLE, Int.reduceEq, Int.reduceAdd, Int.reduceSub, Int.reduceNeg, decide_true, decide_false, Bool.not_true, Bool.not_false, cond_true, cond_false, beq_self_eq_true, and_self, ne_eq, not_true_eq_false, not_false_eq_true, reduceCtorEq, Bool.true_beq, Bool.false_beq, q]
        refine ⟨?_, ?_⟩
        · refine any_ok2 (N := 3000) (text_does (bs := b) (e := 5) rfl tyStr9 tySlice23 tyInt5 rfl (by simp only [dOk_some, dOk_none, Nat.reduceLT]) (fun G hG => hbf.mono (hG.le G10 (by simp)))) (QOk_body _ _ _) rfl (by first | exact .inl rfl | exact .inr ⟨_, _, rfl, rfl⟩) (by intro _ hK; first | (obtain ⟨_, _, _, _, rfl⟩ := hK; exact ⟨rfl, fun _ h => h⟩) | (obtain ⟨_, _, rfl⟩ := hK; exact ⟨rfl, fun _ h => h⟩) | (obtain ⟨_, _, _, _, _, _, rfl⟩ := hK; exact ⟨rfl, fun _ h => List.mem_cons_of_mem _ h⟩) | (obtain ⟨_, _, _, _, _, _, _, rfl⟩ := hK; exact ⟨rfl, fun _ h => List.mem_cons_of_mem _ h⟩) | (obtain rfl := hK; exact ⟨rfl, fun _ h => h⟩)) ?_
          rintro _ rfl
          simp only [go_sem, Nat.reduceAdd, Nat.reduceSub, Nat.reduceMul, Nat.reduceEqDiff, Nat.reduceLT, Nat.reduceLeDiff, Nat.reduceBEq, Nat.reduceBNe, Int.reduceLT, Int.reduceLE, Int.reduceEq, Int.reduceAdd, Int.reduceSub, Int.reduceNeg, decide_true, decide_false, Bool.not_true, Bool.not_false, cond_true, cond_false, beq_self_eq_true, and_self, ne_eq, not_true_eq_false, not_false_eq_true, reduceCtorEq, Bool.true_beq, Bool.false_beq, q]
          refine any_ok2 (N := 3000) (text_does (bs := b) (e := 5) rfl tyStr9 tySlice23 tyInt5 rfl (by simp only [dOk_some, dOk_none, Nat.reduceLT]) (fun G hG => hbb.mono (hG.le Gb (by simp)))) (QOk_body _ _ _) rfl (by first | exact .inl rfl | exact .inr ⟨_, _, rfl, rfl⟩) (by intro _ hK; first | (obtain ⟨_, _, _, _, rfl⟩ := hK; exact ⟨rfl, fun _ h => h⟩) | (obtain ⟨_, _, rfl⟩ := hK; exact ⟨rfl, fun _ h => h⟩) | (obtain ⟨_, _, _, _, _, _, rfl⟩ := hK; exact ⟨rfl, fun _ h => List.mem_cons_of_mem _ h⟩) | (obtain ⟨_, _, _, _, _, _, _, rfl⟩ := hK; exact ⟨rfl, fun _ h => List.mem_cons_of_mem _ h⟩) | (obtain rfl := hK; exact ⟨rfl, fun _ h => h⟩)) ?_
          rintro _ rfl
          simp only [go_sem, Nat.reduceAdd, Nat.reduceSub, Nat.reduceMul, Nat.reduceEqDiff, Nat.reduceLT, Nat.reduceLeDiff, Nat.reduceBEq, Nat.reduceBNe, Int.reduceLT, Int.reduceLE, Int.reduceEq, Int.reduceAdd, Int.reduceSub, Int.reduceNeg, decide_true, decide_false, Bool.not_true, Bool.not_false, cond_true, cond_false, beq_self_eq_true, and_self, ne_eq, not_true_eq_false, not_false_eq_true, reduceCtorEq, Bool.true_beq, Bool.false_beq, q]
          refine ⟨by omega, ?_⟩
          refine plain_ok (N := 3000) (call_does (fun u _ => u = .tuple #[.slice none 0 0, .int .i64 4]) rfl rfl (by kernel_rfl) rfl (by simp only [dOk_some, dOk_none, Nat.reduceLT]) (fun G hG => ret_mono (hotFetch_does (v := 0) (num := i + 1) (at_ := (a.length : Int) + ((packTo IDS BS k).length : Int)) (n := b.length) hg hg2 (by omega) (by omega) (by omega) (by omega) he hfl hG.wf (hd8.mono (hG.le G8 (by simp)))) fun u G' _ h => h.2 (by rw [ht6]; exact head_next))) (QOk_body _ _ _) (by first | exact .inl rfl | exact .inr ⟨_, _, rfl, rfl⟩) ?_
          rintro _ ⟨_, G12, rfl, hn12, rfl⟩
          have hl812 : G8.Le G12 := hn12.le G8 (by simp)
          clear hn12
          simp only [go_sem, Nat.reduceAdd, Nat.reduceSub, Nat.reduceMul, Nat.reduceEqDiff, Nat.reduceLT, Nat.reduceLeDiff, Nat.reduceBEq, Nat.reduceBNe, Int.reduceLT, Int.reduceLE, Int.reduceEq, Int.reduceAdd, Int.reduceSub, Int.reduceNeg, decide_true, decide_false, Bool.not_true, Bool.not_false, cond_true, cond_false, beq_self_eq_true, and_self, ne_eq, not_true_eq_false, not_false_eq_true, reduceCtorEq, Bool.true_beq, Bool.false_beq]
          exact ⟨by omega, again_ok (k + 1, G12) ⟨by omega, hd8.mono hl812, hids.mono hl812, Sq.mono hbod rowG_mono hl812, Sq.mono hpq pieceG_mono hl812⟩ (by simp only; omega) (by simp only [go_sem, Nat.reduceAdd, Nat.reduceSub, Nat.reduceMul, Nat.reduceEqDiff, Nat.reduceLT, Nat.reduceLeDiff, Nat.reduceBEq, Nat.reduceBNe, Int.reduceLT, Int.reduceLE, Int.reduceEq, Int.reduceAdd, Int.reduceSub, Int.reduceNeg, decide_true, decide_false, Bool.not_true, Bool.not_false, cond_true, cond_false, beq_self_eq_true, and_self, ne_eq, not_true_eq_false, not_false_eq_true, reduceCtorEq, Bool.true_beq, Bool.false_beq]; simp)⟩
        · refine any_ok2 (N := 3000) (text_does (bs := b) (e := 5) rfl tyStr9 tySlice23 tyInt5 rfl (by simp only [dOk_some, dOk_none, Nat.reduceLT]) (fun G hG => hbb.mono (hG.le Gb (by simp)))) (QOk_body _ _ _) rfl (by first | exact .inl rfl | exact .inr ⟨_, _, rfl, rfl⟩) (by intro _ hK; first | (obtain ⟨_, _, _, _, rfl⟩ := hK; exact ⟨rfl, fun _ h => h⟩) | (obtain ⟨_, _, rfl⟩ := hK; exact ⟨rfl, fun _ h => h⟩) | (obtain ⟨_, _, _, _, _, _, rfl⟩ := hK; exact ⟨rfl, fun _ h => List.mem_cons_of_mem _ h⟩) | (obtain ⟨_, _, _, _, _, _, _, rfl⟩ := hK; exact ⟨rfl, fun _ h => List.mem_cons_of_mem _ h⟩) | (obtain rfl := hK; exact ⟨rfl, fun _ h => h⟩)) ?_
          rintro _ rfl
          simp only [go_sem, Nat.reduceAdd, Nat.reduceSub, Nat.reduceMul, Nat.reduceEqDiff, Nat.reduceLT, Nat.reduceLeDiff, Nat.reduceBEq, Nat.reduceBNe, Int.reduceLT, Int.reduceLE, Int.reduceEq, Int.reduceAdd, Int.reduceSub, Int.reduceNeg, decide_true, decide_false, Bool.not_true, Bool.not_false, cond_true, cond_false, beq_self_eq_true, and_self, ne_eq, not_true_eq_false, not_false_eq_true, reduceCtorEq, Bool.true_beq, Bool.false_beq, q]
          refine any_ok2 (N := 3000) (text_does (bs := b) (e := 5) rfl tyStr9 tySlice23 tyInt5 rfl (by simp only [dOk_some, dOk_none, Nat.reduceLT]) (fun G hG => hbf.mono (hG.le G10 (by simp)))) (QOk_body _ _ _) rfl (by first | exact .inl rfl | exact .inr ⟨_, _, rfl, rfl⟩) (by intro _ hK; first | (obtain ⟨_, _, _, _, rfl⟩ := hK; exact ⟨rfl, fun _ h => h⟩) | (obtain ⟨_, _, rfl⟩ := hK; exact ⟨rfl, fun _ h => h⟩) | (obtain ⟨_, _, _, _, _, _, rfl⟩ := hK; exact ⟨rfl, fun _ h => List.mem_cons_of_mem _ h⟩) | (obtain ⟨_, _, _, _, _, _, _, rfl⟩ := hK; exact ⟨rfl, fun _ h => List.mem_cons_of_mem _ h⟩) | (obtain rfl := hK; exact ⟨rfl, fun _ h => h⟩)) ?_
          rintro _ rfl
          simp only [go_sem, Nat.reduceAdd, Nat.reduceSub, Nat.reduceMul, Nat.reduceEqDiff, Nat.reduceLT, Nat.reduceLeDiff, Nat.reduceBEq, Nat.reduceBNe, Int.reduceLT, Int.reduceLE, Int.reduceEq, Int.reduceAdd, Int.reduceSub, Int.reduceNeg, decide_true, decide_false, Bool.not_true, Bool.not_false, cond_true, cond_false, beq_self_eq_true, and_self, ne_eq, not_true_eq_false, not_false_eq_true, reduceCtorEq, Bool.true_beq, Bool.false_beq, q]
          refine ⟨by omega, ?_⟩
          refine plain_ok (N := 3000) (call_does (fun u _ => u = .tuple #[.slice none 0 0, .int .i64 4]) rfl rfl (by kernel_rfl) rfl (by simp only [dOk_some, dOk_none, Nat.reduceLT]) (fun G hG => ret_mono (hotFetch_does (v := 0) (num := i + 1) (at_ := (a.length : Int) + ((packTo IDS BS k).length : Int)) (n := b.length) hg hg2 (by omega) (by omega) (by omega) (by omega) he hfl hG.wf (hd8.mono (hG.le G8 (by simp)))) fun u G' _ h => h.2 (by rw [ht6]; exact head_next))) (QOk_body _ _ _) (by first | exact .inl rfl | exact .inr ⟨_, _, rfl, rfl⟩) ?_
          rintro _ ⟨_, G12, rfl, hn12, rfl⟩
          have hl812 : G8.Le G12 := hn12.le G8 (by simp)
          clear hn12
          simp only [go_sem, Nat.reduceAdd, Nat.reduceSub, Nat.reduceMul, Nat.reduceEqDiff, Nat.reduceLT, Nat.reduceLeDiff, Nat.reduceBEq, Nat.reduceBNe, Int.reduceLT, Int.reduceLE, Int.reduceEq, Int.reduceAdd, Int.reduceSub, Int.reduceNeg, decide_true, decide_false, Bool.not_true, Bool.not_false, cond_true, cond_false, beq_self_eq_true, and_self, ne_eq, not_true_eq_false, not_false_eq_true, reduceCtorEq, Bool.true_beq, Bool.false_beq]
          exact ⟨by omega, again_ok (k + 1, G12) ⟨by omega, hd8.mono hl812, hids.mono hl812, Sq.mono hbod rowG_mono hl812, Sq.mono hpq pieceG_mono hl812⟩ (by simp only; omega) (by simp only [go_sem, Nat.reduceAdd, Nat.reduceSub, Nat.reduceMul, Nat.reduceEqDiff, Nat.reduceLT, Nat.reduceLeDiff, Nat.reduceBEq, Nat.reduceBNe, Int.reduceLT, Int.reduceLE, Int.reduceEq, Int.reduceAdd, Int.reduceSub, Int.reduceNeg, decide_true, decide_false, Bool.not_true, Bool.not_false, cond_true, cond_false, beq_self_eq_true, and_self, ne_eq, not_true_eq_false, not_false_eq_true, reduceCtorEq, Bool.true_beq, Bool.false_beq]; simp)⟩
      · have q1 : decide ((k : Int) < (v : Int)) = false := decide_eq_false (by omega)
        simp only [go_sem, Nat.reduceAdd, Nat.reduceSub, Nat.reduceMul, Nat.reduceEqDiff, Nat.reduceLT, Nat.reduceLeDiff, Nat.reduceBEq, Nat.reduceBNe, Int.reduceLT, Int.reduceLE, Int.reduceEq, Int.reduceAdd, Int.reduceSub, Int.reduceNeg, decide_true, decide_false, Bool.not_true, Bool.not_false, cond_true, cond_false, beq_self_eq_true, and_self, ne_eq, not_true_eq_false, not_false_eq_true, reduceCtorEq, Bool.true_beq, Bool.false_beq, q1]
        refine fin_ret (G := ⟨Non, w⟩) Try.results12 ?_
        simp only [go_sem, Nat.reduceAdd, Nat.reduceSub, Nat.reduceMul, Nat.reduceEqDiff, Nat.reduceLT, Nat.reduceLeDiff, Nat.reduceBEq, Nat.reduceBNe, Int.reduceLT, Int.reduceLE, Int.reduceEq, Int.reduceAdd, Int.reduceSub, Int.reduceNeg, decide_true, decide_false, Bool.not_true, Bool.not_false, cond_true, cond_false, beq_self_eq_true, and_self, ne_eq, not_true_eq_false, not_false_eq_true, reduceCtorEq, Bool.true_beq, Bool.false_beq]
        intro aa w' _ _
        rfl
  · have q1 : decide ((v : Int) < (l0.length : Int)) = false := decide_eq_false (by omega)
    simp only [go_sem, Nat.reduceAdd, Nat.reduceSub, Nat.reduceMul, Nat.reduceEqDiff, Nat.reduceLT, Nat.reduceLeDiff, Nat.reduceBEq, Nat.reduceBNe, Int.reduceLT, Int.reduceLE, Int.reduceEq, Int.reduceAdd, Int.reduceSub, Int.reduceNeg, decide_true, decide_false, Bool.not_true, Bool.not_false, cond_true, cond_false, beq_self_eq_true, and_self, ne_eq, not_true_eq_false, not_false_eq_true, reduceCtorEq, Bool.true_beq, Bool.false_beq, q1]
    refine read_ok (R1 := []) rfl fun G5 hle5 hs5 => ?_
    simp only [go_sem, Nat.reduceAdd, Nat.reduceSub, Nat.reduceMul, Nat.reduceEqDiff, Nat.reduceLT, Nat.reduceLeDiff, Nat.reduceBEq, Nat.reduceBNe, Int.reduceLT, Int.reduceLE, Int.reduceEq, Int.reduceAdd, Int.reduceSub, Int.reduceNeg, decide_true, decide_false, Bool.not_true, Bool.not_false, cond_true, cond_false, beq_self_eq_true, and_self, ne_eq, not_true_eq_false, not_false_eq_true, reduceCtorEq, Bool.true_beq, Bool.false_beq]
    refine read_ok (R1 := []) rfl fun G6 hle6 hs6 => ?_
    have hl45 : G4.Le G5 := hle5 G4 (by simp)
    have hl46 : G4.Le G6 := hle6 G4 (by simp [St.seen, St.rowsTo])
    have hl56 : G5.Le G6 := hle6 G5 (by simp [St.seen, St.rowsTo])
    have hti : (IDS.take v).length = v := by rw [List.length_take]; omega
    have htb : (BS.take v).length = v := by rw [List.length_take]; omega
    have hids : IntsG G6 (.slice Ai v ci) (IDS.take v) := IntsG.of (by rw [hti]; exact Sl.mono hs5 hl56)
    have hbod : SafG G6 (.slice Ab v cb) (BS.take v) := saf_of (by rw [htb]; exact hs6) fun j u x h1 h2 => (hus j u x h1 h2).mono hl46
    clear hs5 hs6 hle5 hle6
    have hpv := hpk v
    have hpt : ∀ k, k ≤ v → packTo (IDS.take v) (BS.take v) k = packTo IDS BS k := fun k hk => packTo_take k hk
    simp only [go_sem, Nat.reduceAdd, Nat.reduceSub, Nat.reduceMul, Nat.reduceEqDiff, Nat.reduceLT, Nat.reduceLeDiff, Nat.reduceBEq, Nat.reduceBNe, Int.reduceLT, Int.reduceLE, Int.reduceEq, Int.reduceAdd, Int.reduceSub, Int.reduceNeg, decide_true, decide_false, Bool.not_true, Bool.not_false, cond_true, cond_false, beq_self_eq_true, and_self, ne_eq, not_true_eq_false, not_false_eq_true, reduceCtorEq, Bool.true_beq, Bool.false_beq]
    refine plain_ok (N := 3000) (call_does (fun u G => ∃ A c A2 c2, u = .tuple #[.slice A (packTo IDS BS v).length c, .slice A2 v c2, .int .i64 0] ∧ ByG G (.slice A (packTo IDS BS v).length c) (packTo IDS BS v) ∧ Sq PieceG 74 3 G (.slice A2 v c2) (piecesTo (a.length : Int) (IDS.take v) (BS.take v) v)) rfl rfl (by kernel_rfl) rfl (by simp only [dOk_some, dOk_none, Nat.reduceLT]) (fun G hG => ret_mono (pack_does (at_ := (a.length : Int)) (ids := IDS.take v) (bs := BS.take v) (by omega) (by omega) (by rw [hti, htb]) (by omega) (fun x hx => by have := hI1000 x (List.mem_of_mem_take hx); omega) (fun b hb => by have := hB250 b (List.mem_of_mem_take hb); omega) hG.wf (hids.mono (hG.le G6 (by simp))) (Sq.mono hbod rowG_mono (hG.le G6 (by simp)))) fun u G' _ h => by rw [hti, hpt v (Nat.le_refl _)] at h; exact h)) (QOk_body _ _ _) (by first | exact .inl rfl | exact .inr ⟨_, _, rfl, rfl⟩) ?_
    rintro _ ⟨_, G7, ⟨Ap, cp, Aq, cq, rfl, hpb, hpq⟩, hn7, rfl⟩
    clear hn7
    simp only [go_sem, Nat.reduceAdd, Nat.reduceSub, Nat.reduceMul, Nat.reduceEqDiff, Nat.reduceLT, Nat.reduceLeDiff, Nat.reduceBEq, Nat.reduceBNe, Int.reduceLT, Int.reduceLE, Int.reduceEq, Int.reduceAdd, Int.reduceSub, Int.reduceNeg, decide_true, decide_false, Bool.not_true, Bool.not_false, cond_true, cond_false, beq_self_eq_true, and_self, ne_eq, not_true_eq_false, not_false_eq_true, reduceCtorEq, Bool.true_beq, Bool.false_beq]
    obtain ⟨p2, hv2⟩ := vol_more (g := g) (bs := packTo IDS BS v) hv1 (by omega) hf1
    refine plain_ok (N := 3000) (call_does (fun u G => ∃ dv, u = .tuple #[dv, .int .i64 0] ∧ DevG G dv (appDev g d1 0 (packTo IDS BS v))) rfl rfl (by kernel_rfl) rfl (by simp only [dOk_some, dOk_none, Nat.reduceLT]) (fun G hG => ret_mono (append_does' (v := 0) (bs := packTo IDS BS v) hg hg1 (by omega) hG.wf (tidL hG (by simp) (by simp; decide)) (hd4.mono (hG.le G4 (by simp))) (hpb.mono (hG.le G7 (by simp)))) fun u G' _ h => dev_get h p2)) (QOk_body _ _ _) (by first | exact .inl rfl | exact .inr ⟨_, _, rfl, rfl⟩) ?_
    rintro _ ⟨_, G8, ⟨dv, rfl, hd8⟩, hn8, rfl⟩
    have hl68 : G6.Le G8 := hn8.le G6 (by simp)
    have hl78 : G7.Le G8 := hn8.le G7 (by simp)
    clear hn8
    have hg2 := good_app hg1 p2
    generalize appDev g d1 0 (packTo IDS BS v) = d2 at hd8 hv2 hg2
    obtain ⟨C1, n1, C2, n2, C3, n3, rfl, hfo⟩ := hd8.form
    clear hfo
    simp only [go_sem, Nat.reduceAdd, Nat.reduceSub, Nat.reduceMul, Nat.reduceEqDiff, Nat.reduceLT, Nat.reduceLeDiff, Nat.reduceBEq, Nat.reduceBNe, Int.reduceLT, Int.reduceLE, Int.reduceEq, Int.reduceAdd, Int.reduceSub, Int.reduceNeg, decide_true, decide_false, Bool.not_true, Bool.not_false, cond_true, cond_false, beq_self_eq_true, and_self, ne_eq, not_true_eq_false, not_false_eq_true, reduceCtorEq, Bool.true_beq, Bool.false_beq]
    refine ⟨by omega, ?_⟩
    refine loop_ok (N := 3000) (ι := Nat × GW)
      (fun i => match i with | (k, G) => ⟨[(5, .c (.p 0 g1 0)), (6, .c (.p 1 g2 0)), (10, .c (.v (.slice Ai v ci))), (11, .c (.v (.slice Ab v cb))), (147, .c (.v (.slice Aq v cq))), (148, .c (.v (.int .i64 (v : Int)))), (149, .c (.v (.int .i64 (k : Int))))],
        [⟨1, g2, 37, [.v (.slice C1 d2.safe.length n1), .v (.slice C2 d2.cache.length n2), .v (.slice C3 d2.vols.length n3), .v (.int .i64 d2.fuel)]⟩, ⟨0, g1, 32, [.v (.int .i64 g.ring), .v (.int .i64 g.area), .v (.int .i64 g.hot), .v (.int .i64 g.volume), .v (.int .i64 g.volumes)]⟩], [], [], [G], 2⟩)
      (fun i => match i with | (k, G) => k ≤ v ∧ DevG G (.agg #[.slice C1 d2.safe.length n1, .slice C2 d2.cache.length n2, .slice C3 d2.vols.length n3, .int .i64 d2.fuel]) d2 ∧ IntsG G (.slice Ai v ci) (IDS.take v) ∧ SafG G (.slice Ab v cb) (BS.take v) ∧ Sq PieceG 74 3 G (.slice Aq v cq) (piecesTo (a.length : Int) (IDS.take v) (BS.take v) v))
      (fun i => v - i.1) (QOk_body _ _ _) (0, G8) ⟨by omega, hd8, hids.mono hl68, Sq.mono hbod rowG_mono hl68, Sq.mono hpq pieceG_mono hl78⟩ (by simp only [go_sem, Nat.reduceAdd, Nat.reduceSub, Nat.reduceMul, Nat.reduceEqDiff, Nat.reduceLT, Nat.reduceLeDiff, Nat.reduceBEq, Nat.reduceBNe, Int.reduceLT, Int.reduceLE, Int.reduceEq, Int.reduceAdd, Int.reduceSub, Int.reduceNeg, decide_true, decide_false, Bool.not_true, Bool.not_false, cond_true, cond_false, beq_self_eq_true, and_self, ne_eq, not_true_eq_false, not_false_eq_true, reduceCtorEq, Bool.true_beq, Bool.false_beq]; simp) ?_
    clear hd8 hids hbod hpq hpb hl68 hl78 hl45 hl46 hl56 hr4 hd4 hba hus
    rintro ⟨k, G8⟩ ⟨hk, hd8, hids, hbod, hpq⟩
    simp only
    by_cases hkv : k < v
    · have q1 : decide ((k : Int) < (v : Int)) = true := decide_eq_true (by omega)
      have hx := piecesTo_at (a.length : Int) (IDS.take v) (BS.take v) v k hkv
      obtain ⟨he, hfb⟩ := piece_fetch (a := a) (ids := IDS.take v) (bs := BS.take v) (n := v) (k := k) (by rw [hpt v (Nat.le_refl _)]; exact hv2) hkv
      have hpk2 := hpk k
      rw [hpt k (by omega)] at hx he hfb
      obtain ⟨i, hi⟩ : ∃ i, (IDS.take v)[k]? = some i := ⟨_, List.getElem?_eq_getElem (by omega)⟩
      obtain ⟨b, hb⟩ : ∃ b, (BS.take v)[k]? = some b := ⟨_, List.getElem?_eq_getElem (by omega)⟩
      have gi : (IDS.take v).getD k 0 = i := by rw [List.getD_eq_getElem?_getD, hi]; rfl
      have gb : (BS.take v).getD k [] = b := by rw [List.getD_eq_getElem?_getD, hb]; rfl
      rw [gi, gb] at hx hfb
      rw [gb] at he
      have hi1 := hI1000 i (List.mem_of_mem_take (List.mem_of_getElem? hi))
      have hb1 := hB250 b (List.mem_of_mem_take (List.mem_of_getElem? hb))
      have hfl : (fetBytes d2 0 ((a.length : Int) + ((packTo IDS BS k).length : Int)) (6 + (b.length : Int))).length = 6 + b.length := by rw [hfb, List.length_append]; rfl
      have ht6 : (fetBytes d2 0 ((a.length : Int) + ((packTo IDS BS k).length : Int)) (6 + (b.length : Int))).take 6 = headB i (b.length : Int) := by rw [hfb]; rfl
      have hd6 : (fetBytes d2 0 ((a.length : Int) + ((packTo IDS BS k).length : Int)) (6 + (b.length : Int))).drop 6 = b := by rw [hfb]; rfl
      simp only [go_sem, Nat.reduceAdd, Nat.reduceSub, Nat.reduceMul, Nat.reduceEqDiff, Nat.reduceLT, Nat.reduceLeDiff, Nat.reduceBEq, Nat.reduceBNe, Int.reduceLT, Int.reduceLE, Int.reduceEq, Int.reduceAdd, Int.reduceSub, Int.reduceNeg, decide_true, decide_false, Bool.not_true, Bool.not_false, cond_true, cond_false, beq_self_eq_true, and_self, ne_eq, not_true_eq_false, not_false_eq_true, reduceCtorEq, Bool.true_beq, Bool.false_beq, q1]
      refine plain_ok (N := 3000) (elem_does (R := PieceG) (l := piecesTo (a.length : Int) (IDS.take v) (BS.take v) v) (m := k) rfl tySlice24 tySize74 rfl rfl (by simp only [dOk_some, dOk_none, Nat.reduceLT]) rfl hx (fun G hG => Sq.mono hpq pieceG_mono (hG.le G8 (by simp)))) (QOk_body _ _ _) (by first | exact .inl rfl | exact .inr ⟨_, _, rfl, rfl⟩) ?_
      rintro _ ⟨gw, ow, cs, G9, _, rfl, rfl⟩
      simp only [go_sem, Nat.reduceAdd, Nat.reduceSub, Nat.reduceMul, Nat.reduceEqDiff, Nat.reduceLT, Nat.reduceLeDiff, Nat.reduceBEq, Nat.reduceBNe, Int.reduceLT, Int.reduceLE, Int.reduceEq, Int.reduceAdd, Int.reduceSub, Int.reduceNeg, decide_true, decide_false, Bool.not_true, Bool.not_false, cond_true, cond_false, beq_self_eq_true, and_self, ne_eq, not_true_eq_false, not_false_eq_true, reduceCtorEq, Bool.true_beq, Bool.false_beq]
      intro g5
      refine plain_ok (N := 3000) (call_does (fun u G => ∃ A c, u = .tuple #[.slice A b.length c, .int .i64 0] ∧ ByG G (.slice A b.length c) b) rfl rfl (by kernel_rfl) rfl (by simp only [dOk_some, dOk_none, Nat.reduceLT]) (fun G hG => ret_mono (hotFetch_does (v := 0) (num := i) (at_ := (a.length : Int) + ((packTo IDS BS k).length : Int)) (n := b.length) hg hg2 (by omega) (by omega) (by omega) (by omega) he hfl hG.wf (hd8.mono (hG.le G8 (by simp)))) fun u G' _ h => by have := h.1 ht6; rw [hd6] at this; exact this)) (QOk_body _ _ _) (by first | exact .inl rfl | exact .inr ⟨_, _, rfl, rfl⟩) ?_
      rintro _ ⟨_, G10, ⟨Af, cf, rfl, hbf⟩, hn10, rfl⟩
      clear hn10
      simp only [go_sem, Nat.reduceAdd, Nat.reduceSub, Nat.reduceMul, Nat.reduceEqDiff, Nat.reduceLT, Nat.reduceLeDiff, Nat.reduceBEq, Nat.reduceBNe, Int.reduceLT, Int.reduceLE, Int.reduceEq, Int.reduceAdd, Int.reduceSub, Int.reduceNeg, decide_true, decide_false, Bool.not_true, Bool.not_false, cond_true, cond_false, beq_self_eq_true, and_self, ne_eq, not_true_eq_false, not_false_eq_true, reduceCtorEq, Bool.true_beq, Bool.false_beq]
      refine preview_ok (R := IntG) (kc := 1) hi (fun G hG => (hids.mono (hG G8 (by simp))).sc) fun ga oa csa Ga hAi _ hca hlea => ?_
      subst hAi
      obtain rfl := hca
      clear hlea
      simp only [go_sem, Nat.reduceAdd, Nat.reduceSub, Nat.reduceMul, Nat.reduceEqDiff, Nat.reduceLT, Nat.reduceLeDiff, Nat.reduceBEq, Nat.reduceBNe, Int.reduceLT, Int.reduceLE, Int.reduceEq, Int.reduceAdd, Int.reduceSub, Int.reduceNeg, decide_true, decide_false, Bool.not_true, Bool.not_false, cond_true, cond_false, beq_self_eq_true, and_self, ne_eq, not_true_eq_false, not_false_eq_true, reduceCtorEq, Bool.true_beq, Bool.false_beq]
      refine preview_ok (R := RowG) (kc := 1) hb (fun G hG => (Sq.mono hbod rowG_mono (hG G8 (by simp))).sc) fun gb2 ob csb Gb hAb _ hcb hleb => ?_
      subst hAb
      clear hleb
      obtain ⟨Abb, cbb, rfl, hbb⟩ := rowcell hcb
      simp only [go_sem, Nat.reduceAdd, Nat.reduceSub, Nat.reduceMul, Nat.reduceEqDiff, Nat.reduceLT, Nat.reduceLeDiff, Nat.reduceBEq, Nat.reduceBNe, Int.reduceLT, Int.reduceLE, Int.reduceEq, Int.reduceAdd, Int.reduceSub, Int.reduceNeg, decide_true, decide_false, Bool.not_true, Bool.not_false, cond_true, cond_false, beq_self_eq_true, and_self, ne_eq, not_true_eq_false, not_false_eq_true, reduceCtorEq, Bool.true_beq, Bool.false_beq]
      refine draw_ok (N := 3000) (.take 0 (.take 1 (.take 2 (.take 3 (.take 4 (.take 5 (.take 6 (.take 7 (.take 8 (.take 9 (.take 10 (.take 11 (.take 12 (.take 14 (.take 15 (.take 16 (.take 17 (.alt 13 (.alt 18 (.take 19 (.take 20 .done)) .last) (.alt 18 (.alt 13 (.take 19 (.take 20 .done)) .last) .last))))))))))))))))))) [] (QOk_body _ _ _) follows_mixed (by kernel_rfl) (by kernel_rfl) ?_
      simp only [go_sem, Nat.reduceAdd, Nat.reduceSub, Nat.reduceMul, Nat.reduceEqDiff, Nat.reduceLT, Nat.reduceLeDiff, Nat.reduceBEq, Nat.reduceBNe, Int.reduceLT, Int.reduceLE, Int.reduceEq, Int.reduceAdd, Int.reduceSub, Int.reduceNeg, decide_true, decide_false, Bool.not_true, Bool.not_false, cond_true, cond_false, beq_self_eq_true, and_self, ne_eq, not_true_eq_false, not_false_eq_true, reduceCtorEq, Bool.true_beq, Bool.false_beq]
      have q : decide (i = i) = true := decide_eq_true rfl
      refine take_elem 4 (m := k) rfl tySlice28 tySize3 rfl rfl (by simp only [dOk_some, dOk_none, Nat.reduceLT]) rfl (by omega) ?_
      simp only [go_sem, Nat.reduceAdd, Nat.reduceSub, Nat.reduceMul, Nat.reduceEqDiff, Nat.reduceLT, Nat.reduceLeDiff, Nat.reduceBEq, Nat.reduceBNe, Int.reduceLT, Int.reduceLE, Int.reduceEq, Int.reduceAdd, Int.reduceSub, Int.reduceNeg, decide_true, decide_false, Bool.not_true, Bool.not_false, cond_true, cond_false, beq_self_eq_true, and_self, ne_eq, not_true_eq_false, not_false_eq_true, reduceCtorEq, Bool.true_beq, Bool.false_beq, q]
      refine take_elem 5 (m := k) rfl tySlice29 tySize23 rfl rfl (by simp only [dOk_some, dOk_none, Nat.reduceLT]) rfl (by omega) ?_
      simp only [go_sem, Nat.reduceAdd, Nat.reduceSub, Nat.reduceMul, Nat.reduceEqDiff, Nat.reduceLT, Nat.reduceLeDiff, Nat.reduceBEq, Nat.reduceBNe, Int.reduceLT, Int.reduceLE, Int.reduceEq, Int.reduceAdd, Int.reduceSub, Int.reduceNeg, decide_true, decide_false, Bool.not_true, Bool.not_false, cond_true, cond_false, beq_self_eq_true, and_self, ne_eq, not_true_eq_false, not_false_eq_true, reduceCtorEq, Bool.true_beq, Bool.false_beq, q]
      refine ⟨?_, ?_⟩
      · refine any_ok2 (N := 3000) (text_does (bs := b) (e := 5) rfl tyStr9 tySlice23 tyInt5 rfl (by simp only [dOk_some, dOk_none, Nat.reduceLT]) (fun G hG => hbf.mono (hG.le G10 (by simp)))) (QOk_body _ _ _) rfl (by first | exact .inl rfl | exact .inr ⟨_, _, rfl, rfl⟩) (by intro _ hK; first | (obtain ⟨_, _, _, _, rfl⟩ := hK; exact ⟨rfl, fun _ h => h⟩) | (obtain ⟨_, _, rfl⟩ := hK; exact ⟨rfl, fun _ h => h⟩) | (obtain ⟨_, _, _, _, _, _, rfl⟩ := hK; exact ⟨rfl, fun _ h => List.mem_cons_of_mem _ h⟩) | (obtain ⟨_, _, _, _, _, _, _, rfl⟩ := hK; exact ⟨rfl, fun _ h => List.mem_cons_of_mem _ h⟩) | (obtain rfl := hK; exact ⟨rfl, fun _ h => h⟩)) ?_
        rintro _ rfl
        simp only [go_sem, Nat.reduceAdd, Nat.reduceSub, Nat.reduceMul, Nat.reduceEqDiff, Nat.reduceLT, Nat.reduceLeDiff, Nat.reduceBEq, Nat.reduceBNe, Int.reduceLT, Int.reduceLE, Int.reduceEq, Int.reduceAdd, Int.reduceSub, Int.reduceNeg, decide_true, decide_false, Bool.not_true, Bool.not_false, cond_true, cond_false, beq_self_eq_true, and_self, ne_eq, not_true_eq_false, not_false_eq_true, reduceCtorEq, Bool.true_beq, Bool.false_beq, q]
        refine any_ok2 (N := 3000) (text_does (bs := b) (e := 5) rfl tyStr9 tySlice23 tyInt5 rfl (by simp only [dOk_some, dOk_none, Nat.reduceLT]) (fun G hG => hbb.mono (hG.le Gb (by simp)))) (QOk_body _ _ _) rfl (by first | exact .inl rfl | exact .inr ⟨_, _, rfl, rfl⟩) (by intro _ hK; first | (obtain ⟨_, _, _, _, rfl⟩ := hK; exact ⟨rfl, fun _ h => h⟩) | (obtain ⟨_, _, rfl⟩ := hK; exact ⟨rfl, fun _ h => h⟩) | (obtain ⟨_, _, _, _, _, _, rfl⟩ := hK; exact ⟨rfl, fun _ h => List.mem_cons_of_mem _ h⟩) | (obtain ⟨_, _, _, _, _, _, _, rfl⟩ := hK; exact ⟨rfl, fun _ h => List.mem_cons_of_mem _ h⟩) | (obtain rfl := hK; exact ⟨rfl, fun _ h => h⟩)) ?_
        rintro _ rfl
        simp only [go_sem, Nat.reduceAdd, Nat.reduceSub, Nat.reduceMul, Nat.reduceEqDiff, Nat.reduceLT, Nat.reduceLeDiff, Nat.reduceBEq, Nat.reduceBNe, Int.reduceLT, Int.reduceLE, Int.reduceEq, Int.reduceAdd, Int.reduceSub, Int.reduceNeg, decide_true, decide_false, Bool.not_true, Bool.not_false, cond_true, cond_false, beq_self_eq_true, and_self, ne_eq, not_true_eq_false, not_false_eq_true, reduceCtorEq, Bool.true_beq, Bool.false_beq, q]
        refine ⟨by omega, ?_⟩
        refine plain_ok (N := 3000) (call_does (fun u _ => u = .tuple #[.slice none 0 0, .int .i64 4]) rfl rfl (by kernel_rfl) rfl (by simp only [dOk_some, dOk_none, Nat.reduceLT]) (fun G hG => ret_mono (hotFetch_does (v := 0) (num := i + 1) (at_ := (a.length : Int) + ((packTo IDS BS k).length : Int)) (n := b.length) hg hg2 (by omega) (by omega) (by omega) (by omega) he hfl hG.wf (hd8.mono (hG.le G8 (by simp)))) fun u G' _ h => h.2 (by rw [ht6]; exact head_next))) (QOk_body _ _ _) (by first | exact .inl rfl | exact .inr ⟨_, _, rfl, rfl⟩) ?_
        rintro _ ⟨_, G12, rfl, hn12, rfl⟩
        have hl812 : G8.Le G12 := hn12.le G8 (by simp)
        clear hn12
        simp only [go_sem, Nat.reduceAdd, Nat.reduceSub, Nat.reduceMul, Nat.reduceEqDiff, Nat.reduceLT, Nat.reduceLeDiff, Nat.reduceBEq, Nat.reduceBNe, Int.reduceLT, Int.reduceLE, Int.reduceEq, Int.reduceAdd, Int.reduceSub, Int.reduceNeg, decide_true, decide_false, Bool.not_true, Bool.not_false, cond_true, cond_false, beq_self_eq_true, and_self, ne_eq, not_true_eq_false, not_false_eq_true, reduceCtorEq, Bool.true_beq, Bool.false_beq]
        exact ⟨by omega, again_ok (k + 1, G12) ⟨by omega, hd8.mono hl812, hids.mono hl812, Sq.mono hbod rowG_mono hl812, Sq.mono hpq pieceG_mono hl812⟩ (by simp only; omega) (by simp only [go_sem, Nat.reduceAdd, Nat.reduceSub, Nat.reduceMul, Nat.reduceEqDiff, Nat.reduceLT, Nat.reduceLeDiff, Nat.reduceBEq, Nat.reduceBNe, Int.reduceLT, Int.reduceLE, Int.reduceEq, Int.reduceAdd, Int.reduceSub, Int.reduceNeg, decide_true, decide_false, Bool.not_true, Bool.not_false, cond_true, cond_false, beq_self_eq_true, and_self, ne_eq, not_true_eq_false, not_false_eq_true, reduceCtorEq, Bool.true_beq, Bool.false_beq]; simp)⟩
      · refine any_ok2 (N := 3000) (text_does (bs := b) (e := 5) rfl tyStr9 tySlice23 tyInt5 rfl (by simp only [dOk_some, dOk_none, Nat.reduceLT]) (fun G hG => hbb.mono (hG.le Gb (by simp)))) (QOk_body _ _ _) rfl (by first | exact .inl rfl | exact .inr ⟨_, _, rfl, rfl⟩) (by intro _ hK; first | (obtain ⟨_, _, _, _, rfl⟩ := hK; exact ⟨rfl, fun _ h => h⟩) | (obtain ⟨_, _, rfl⟩ := hK; exact ⟨rfl, fun _ h => h⟩) | (obtain ⟨_, _, _, _, _, _, rfl⟩ := hK; exact ⟨rfl, fun _ h => List.mem_cons_of_mem _ h⟩) | (obtain ⟨_, _, _, _, _, _, _, rfl⟩ := hK; exact ⟨rfl, fun _ h => List.mem_cons_of_mem _ h⟩) | (obtain rfl := hK; exact ⟨rfl, fun _ h => h⟩)) ?_
        rintro _ rfl
        simp only [go_sem, Nat.reduceAdd, Nat.reduceSub, Nat.reduceMul, Nat.reduceEqDiff, Nat.reduceLT, Nat.reduceLeDiff, Nat.reduceBEq, Nat.reduceBNe, Int.reduceLT, Int.reduceLE, Int.reduceEq, Int.reduceAdd, Int.reduceSub, Int.reduceNeg, decide_true, decide_false, Bool.not_true, Bool.not_false, cond_true, cond_false, beq_self_eq_true, and_self, ne_eq, not_true_eq_false, not_false_eq_true, reduceCtorEq, Bool.true_beq, Bool.false_beq, q]
        refine any_ok2 (N := 3000) (text_does (bs := b) (e := 5) rfl tyStr9 tySlice23 tyInt5 rfl (by simp only [dOk_some, dOk_none, Nat.reduceLT]) (fun G hG => hbf.mono (hG.le G10 (by simp)))) (QOk_body _ _ _) rfl (by first | exact .inl rfl | exact .inr ⟨_, _, rfl, rfl⟩) (by intro _ hK; first | (obtain ⟨_, _, _, _, rfl⟩ := hK; exact ⟨rfl, fun _ h => h⟩) | (obtain ⟨_, _, rfl⟩ := hK; exact ⟨rfl, fun _ h => h⟩) | (obtain ⟨_, _, _, _, _, _, rfl⟩ := hK; exact ⟨rfl, fun _ h => List.mem_cons_of_mem _ h⟩) | (obtain ⟨_, _, _, _, _, _, _, rfl⟩ := hK; exact ⟨rfl, fun _ h => List.mem_cons_of_mem _ h⟩) | (obtain rfl := hK; exact ⟨rfl, fun _ h => h⟩)) ?_
        rintro _ rfl
        simp only [go_sem, Nat.reduceAdd, Nat.reduceSub, Nat.reduceMul, Nat.reduceEqDiff, Nat.reduceLT, Nat.reduceLeDiff, Nat.reduceBEq, Nat.reduceBNe, Int.reduceLT, Int.reduceLE, Int.reduceEq, Int.reduceAdd, Int.reduceSub, Int.reduceNeg, decide_true, decide_false, Bool.not_true, Bool.not_false, cond_true, cond_false, beq_self_eq_true, and_self, ne_eq, not_true_eq_false, not_false_eq_true, reduceCtorEq, Bool.true_beq, Bool.false_beq, q]
        refine ⟨by omega, ?_⟩
        refine plain_ok (N := 3000) (call_does (fun u _ => u = .tuple #[.slice none 0 0, .int .i64 4]) rfl rfl (by kernel_rfl) rfl (by simp only [dOk_some, dOk_none, Nat.reduceLT]) (fun G hG => ret_mono (hotFetch_does (v := 0) (num := i + 1) (at_ := (a.length : Int) + ((packTo IDS BS k).length : Int)) (n := b.length) hg hg2 (by omega) (by omega) (by omega) (by omega) he hfl hG.wf (hd8.mono (hG.le G8 (by simp)))) fun u G' _ h => h.2 (by rw [ht6]; exact head_next))) (QOk_body _ _ _) (by first | exact .inl rfl | exact .inr ⟨_, _, rfl, rfl⟩) ?_
        rintro _ ⟨_, G12, rfl, hn12, rfl⟩
        have hl812 : G8.Le G12 := hn12.le G8 (by simp)
        clear hn12
        simp only [go_sem, Nat.reduceAdd, Nat.reduceSub, Nat.reduceMul, Nat.reduceEqDiff, Nat.reduceLT, Nat.reduceLeDiff, Nat.reduceBEq, Nat.reduceBNe, Int.reduceLT, Int.reduceLE, Int.reduceEq, Int.reduceAdd, Int.reduceSub, Int.reduceNeg, decide_true, decide_false, Bool.not_true, Bool.not_false, cond_true, cond_false, beq_self_eq_true, and_self, ne_eq, not_true_eq_false, not_false_eq_true, reduceCtorEq, Bool.true_beq, Bool.false_beq]
        exact ⟨by omega, again_ok (k + 1, G12) ⟨by omega, hd8.mono hl812, hids.mono hl812, Sq.mono hbod rowG_mono hl812, Sq.mono hpq pieceG_mono hl812⟩ (by simp only; omega) (by simp only [go_sem, Nat.reduceAdd, Nat.reduceSub, Nat.reduceMul, Nat.reduceEqDiff, Nat.reduceLT, Nat.reduceLeDiff, Nat.reduceBEq, Nat.reduceBNe, Int.reduceLT, Int.reduceLE, Int.reduceEq, Int.reduceAdd, Int.reduceSub, Int.reduceNeg, decide_true, decide_false, Bool.not_true, Bool.not_false, cond_true, cond_false, beq_self_eq_true, and_self, ne_eq, not_true_eq_false, not_false_eq_true, reduceCtorEq, Bool.true_beq, Bool.false_beq]; simp)⟩
    · have q1 : decide ((k : Int) < (v : Int)) = false := decide_eq_false (by omega)
      simp only [go_sem, Nat.reduceAdd, Nat.reduceSub, Nat.reduceMul, Nat.reduceEqDiff, Nat.reduceLT, Nat.reduceLeDiff, Nat.reduceBEq, Nat.reduceBNe, Int.reduceLT, Int.reduceLE, Int.reduceEq, Int.reduceAdd, Int.reduceSub, Int.reduceNeg, decide_true, decide_false, Bool.not_true, Bool.not_false, cond_true, cond_false, beq_self_eq_true, and_self, ne_eq, not_true_eq_false, not_false_eq_true, reduceCtorEq, Bool.true_beq, Bool.false_beq, q1]
      refine fin_ret (G := ⟨Non, w⟩) Try.results12 ?_
      simp only [go_sem, Nat.reduceAdd, Nat.reduceSub, Nat.reduceMul, Nat.reduceEqDiff, Nat.reduceLT, Nat.reduceLeDiff, Nat.reduceBEq, Nat.reduceBNe, Int.reduceLT, Int.reduceLE, Int.reduceEq, Int.reduceAdd, Int.reduceSub, Int.reduceNeg, decide_true, decide_false, Bool.not_true, Bool.not_false, cond_true, cond_false, beq_self_eq_true, and_self, ne_eq, not_true_eq_false, not_false_eq_true, reduceCtorEq, Bool.true_beq, Bool.false_beq]
      intro aa w' _ _
      rfl
theorem packFetch_walk {w : World} (v0 : Value) (l0 : List Raw) (h0 : RawsG ⟨Non, w⟩ v0 l0) (s : ByteArray) (_ : s.size ≤ maxLen) :
    Calls Try.prog 12 #[v0, .string s] w fun e w' => e = .returned (.bool true) ∧ Below w.heap.size w w' :=
  (packFetch_ret v0 l0 h0 s).mono fun e w' ⟨v, he, hv, hc⟩ => ⟨by rw [he, hv], hc.below⟩
end Go.Proofs.Ytomfladifefomaa
