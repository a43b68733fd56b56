/- icehousekeep.devices: whatever is done, the devices stay such that may be. Conditions: as each law states them. -/
import Derived.Test.YtomfladifefomaaL0
namespace Go.Proofs.Ytomfladifefomaa
open Go.RowKit
set_option linter.unusedSimpArgs false
structure Raw where
  kind : Int
  a : Int
  b : Int
  c : Int
  d : Int
  text : ByteArray
def i64 (n : Int) : Prop := -9223372036854775808 ≤ n ∧ n ≤ 9223372036854775807
def RawG (_ : GW) (x : Raw) (cs : List Value) : Prop := cs = [.int .i64 x.kind, .int .i64 x.a, .int .i64 x.b, .int .i64 x.c, .int .i64 x.d, .string x.text] ∧ i64 x.kind ∧ i64 x.a ∧ i64 x.b ∧ i64 x.c ∧ i64 x.d ∧ x.text.size ≤ maxLen
theorem rawG_mono : MonoR RawG := fun _ _ _ _ _ h => h
def RawsG (G : GW) (v : Value) (l : List Raw) : Prop := ScR RawG 6 G v l
theorem cut_len (s : ByteArray) (n : Nat) : (s.extract 0 (min s.size n)).data.toList.length ≤ n := by
  rw [Array.length_toList]
  show (s.extract 0 (min s.size n)).size ≤ n
  simp; omega
theorem cut_is (s : ByteArray) (m : Int) (n : Nat) (h : m = (n : Int)) : (s.extract (Int.toNat 0) (min (s.size : Int) m).toNat).data.toList = (s.extract 0 (min s.size n)).data.toList := by
  subst h
  congr 3
  omega
theorem cut_sz (s : ByteArray) (m : Int) (h : m ≤ 1000000) : (s.extract (Int.toNat 0) (min (s.size : Int) m).toNat).size ≤ 1000000 := by simp; omega
theorem spent_fuel1 {d : Dev} (h : d.fuel = -1) : (spent d).fuel = -1 := by simp [spent, h]
theorem app_fuel {g : Geo} {d : Dev} {v : Int} {bs : List UInt8} (h : d.fuel = -1) : (appDev g d v bs).fuel = -1 := by
  unfold appDev
  split
  · exact spent_fuel1 h
  · exact spent_fuel1 h
theorem app_cache {g : Geo} {d : Dev} {v : Int} {bs : List UInt8} : (appDev g d v bs).cache = d.cache := by
  unfold appDev
  split <;> rfl
set_option maxRecDepth 100000 in
set_option maxHeartbeats 8000000 in
theorem devices_does {g : Geo} (hg : GoodGeo g) {rv : Value} {l : List Raw} {most : Int} (hm0 : 0 ≤ most) (hm : most ≤ 1000) {G0 : GW} (hW : G0.Wf) (hT : Tid devX G0) (hl : RawsG G0 rv l) :
    Calls Try.prog 34 #[geoV g, rv, .int .i64 most] G0.w (Ret G0 fun v G => ∃ dv d, v = .tuple #[dv, .bool true] ∧ DevG G dv d ∧ GoodDev g d ∧ d.fuel = -1 ∧ (d.cache.length : Int) ≤ most) := by
  obtain ⟨A, c, rfl, _, _⟩ := ScR.form hl
  have hTb : Tid bX G0 := hT.mono bX_devX
  refine enter (G := G0) (n := 113) 3000 hW Try.func34 rfl Try.ntmps34 (by simp) ?_
  simp only [go_sem, Nat.reduceAdd, Nat.reduceSub, Nat.reduceMul, Nat.reduceEqDiff, Nat.reduceLT, Nat.reduceLeDiff, Nat.reduceBEq, Nat.reduceBNe, Int.reduceLT, Int.reduceLE, Int.reduceEq, Int.reduceAdd, Int.reduceSub, Int.reduceNeg, decide_true, decide_false, Bool.not_true, Bool.not_false, cond_true, cond_false, beq_self_eq_true, and_self, ne_eq, not_true_eq_false, not_false_eq_true, reduceCtorEq, Bool.true_beq, Bool.false_beq, geoV]
  intro g1 g2
  refine plain_ok (N := 3000) (call_does (fun v G => ∃ dv, v = .tuple #[dv, .int .i64 0] ∧ DevG G dv (newDev g)) rfl rfl (by kernel_rfl) rfl (by simp only [dOk_some, dOk_none, Nat.reduceLT]) (fun G hG => new_does hg hG.wf (tidM hG (fun _ h => h) hT hW rfl rfl (by simp) (by simp; decide)))) (QOk_body _ _ _) (by first | exact .inl rfl | exact .inr ⟨_, _, rfl, rfl⟩) ?_
  rintro _ ⟨_, G1, ⟨dv, rfl, hd0⟩, hn1, rfl⟩
  have hl01 : G0.Le G1 := hn1.le G0 (by simp)
  clear hn1
  obtain ⟨d0, e0⟩ : ∃ d0, d0 = newDev g := ⟨_, rfl⟩
  rw [← e0] at hd0
  have hg0 : GoodDev g d0 := e0 ▸ newGood g hg
  have hf0 : d0.fuel = -1 := by rw [e0]; rfl
  have hc0 : d0.cache.length = 0 := by rw [e0]; rfl
  clear e0
  obtain ⟨A1, k1, A2, k2, A3, k3, rfl, hfo⟩ := hd0.form
  clear hfo
  have hpos : ∀ d, GoodDev g d → 0 < d.safe.length ∧ d.safe.length ≤ 1000 := by
    intro d hd
    have := hd.safe
    unfold sectorsOf at this
    have := hg.r1; have := hg.a1; have := hg.h1; have := hg.r2; have := hg.a2; have := hg.h2; omega
  have q0 : decide ((d0.safe.length : Int) = 0) = false := decide_eq_false (by have := (hpos d0 hg0).1; omega)
  simp only [go_sem, Nat.reduceAdd, Nat.reduceSub, Nat.reduceMul, Nat.reduceEqDiff, Nat.reduceLT, Nat.reduceLeDiff, Nat.reduceBEq, Nat.reduceBNe, Int.reduceLT, Int.reduceLE, Int.reduceEq, Int.reduceAdd, Int.reduceSub, Int.reduceNeg, decide_true, decide_false, Bool.not_true, Bool.not_false, cond_true, cond_false, beq_self_eq_true, and_self, ne_eq, not_true_eq_false, not_false_eq_true, reduceCtorEq, Bool.true_beq, Bool.false_beq, q0]
  intro g3
  have hl0 : RawsG G1 (.slice A l.length c) l := ScR.mono hl rawG_mono hl01
  refine loop_ok (N := 3000) (ι := Nat × Dev × (Option Addr × Nat) × (Option Addr × Nat) × (Option Addr × Nat) × GW)
    (fun i => match i with | (v, d, (B1, m1), (B2, m2), (B3, m3), G) => ⟨[(1, .c (.v (.slice A l.length c))), (2, .c (.v (.int .i64 most))), (3, .c (.p 0 g1 0)), (6, .c (.p 1 g2 0)), (8, .c (.p 2 g3 0)), (9, .c (.v (.int .i64 0))), (10, .c (.v (.int .i64 (v : Int))))],
      [⟨2, g3, 37, [.v (.slice B1 d.safe.length m1), .v (.slice B2 d.cache.length m2), .v (.slice B3 d.vols.length m3), .v (.int .i64 d.fuel)]⟩, ⟨1, g2, 37, [.v (.slice none 0 0), .v (.slice none 0 0), .v (.slice none 0 0), .v (.int .i64 0)]⟩, ⟨0, g1, 32, [.v (.int .i64 g.ring), .v (.int .i64 g.area), .v (.int .i64 g.hot), .v (.int .i64 g.volume), .v (.int .i64 g.volumes)]⟩], [], [], [G], 3⟩)
    (fun i => match i with | (v, d, (B1, m1), (B2, m2), (B3, m3), G) => (v ≤ l.length ∧ (v : Int) ≤ most ∧ d.cache.length ≤ v) ∧ RawsG G (.slice A l.length c) l ∧ GoodDev g d ∧ d.fuel = -1 ∧ DevG G (.agg #[.slice B1 d.safe.length m1, .slice B2 d.cache.length m2, .slice B3 d.vols.length m3, .int .i64 d.fuel]) d)
    (fun i => l.length - i.1) (QOk_body _ _ _) (0, d0, (A1, k1), (A2, k2), (A3, k3), G1) ⟨⟨by omega, by omega, by omega⟩, hl0, hg0, hf0, hd0⟩ (by simp only [go_sem, Nat.reduceAdd, Nat.reduceSub, Nat.reduceMul, Nat.reduceEqDiff, Nat.reduceLT, Nat.reduceLeDiff, Nat.reduceBEq, Nat.reduceBNe, Int.reduceLT, Int.reduceLE, Int.reduceEq, Int.reduceAdd, Int.reduceSub, Int.reduceNeg, decide_true, decide_false, Bool.not_true, Bool.not_false, cond_true, cond_false, beq_self_eq_true, and_self, ne_eq, not_true_eq_false, not_false_eq_true, reduceCtorEq, Bool.true_beq, Bool.false_beq]; simp) ?_
  clear hl01 hd0 hg0 hf0 hl0 hc0 A1 k1 A2 k2 A3 k3 q0 d0
  rintro ⟨v, d, ⟨B1, m1⟩, ⟨B2, m2⟩, ⟨B3, m3⟩, G1⟩ ⟨⟨hv, hvm, hvc⟩, hl1, hgd, hf, hd1⟩
  simp only
  obtain ⟨hp1, hp2⟩ := hpos d hgd
  by_cases hlt : v < l.length
  · have q1 : decide ((v : Int) < (l.length : Int)) = true := by simpa using hlt
    by_cases hlm : (v : Int) < most
    · have q2 : decide ((v : Int) < most) = true := by simpa using hlm
      obtain ⟨x, hx⟩ : ∃ x, l[v]? = some x := ⟨_, List.getElem?_eq_getElem hlt⟩
      simp only [go_sem, Nat.reduceAdd, Nat.reduceSub, Nat.reduceMul, Nat.reduceEqDiff, Nat.reduceLT, Nat.reduceLeDiff, Nat.reduceBEq, Nat.reduceBNe, Int.reduceLT, Int.reduceLE, Int.reduceEq, Int.reduceAdd, Int.reduceSub, Int.reduceNeg, decide_true, decide_false, Bool.not_true, Bool.not_false, cond_true, cond_false, beq_self_eq_true, and_self, ne_eq, not_true_eq_false, not_false_eq_true, reduceCtorEq, Bool.true_beq, Bool.false_beq, q1, q2]
      refine plain_ok (N := 3000) (elemC_does (R := RawG) (l := l) (m := v) rfl tySlice48 tySize58 rfl rfl (by simp only [dOk_some, dOk_none, Nat.reduceLT]) rfl hx (fun G hG => ScR.mono hl1 rawG_mono (hG.le G1 (by simp)))) (QOk_body _ _ _) (by first | exact .inl rfl | exact .inr ⟨_, _, rfl, rfl⟩) ?_
      rintro _ ⟨gw, ow, cs, G2, hcl, ⟨rfl, ⟨b1, b2⟩, ⟨b3, b4⟩, _, _, _, b6⟩, hn2, rfl⟩
      have hl12 : G1.Le G2 := hn2.le G1 (by simp)
      clear hn2 hcl
      simp only [go_sem, Nat.reduceAdd, Nat.reduceSub, Nat.reduceMul, Nat.reduceEqDiff, Nat.reduceLT, Nat.reduceLeDiff, Nat.reduceBEq, Nat.reduceBNe, Int.reduceLT, Int.reduceLE, Int.reduceEq, Int.reduceAdd, Int.reduceSub, Int.reduceNeg, decide_true, decide_false, Bool.not_true, Bool.not_false, cond_true, cond_false, beq_self_eq_true, and_self, ne_eq, not_true_eq_false, not_false_eq_true, reduceCtorEq, Bool.true_beq, Bool.false_beq]
      intro g4
      refine ⟨by omega, ?_⟩
      obtain ⟨bs, hbs⟩ : ∃ bs : List UInt8, bs = (x.text.extract 0 (min x.text.size 64)).data.toList := ⟨_, rfl⟩
      have hbl : bs.length ≤ 64 := by rw [hbs]; exact cut_len x.text 64
      refine plain_ok (N := 3000) (bytes_does (e := 5) rfl (tyStr9) (tySlice23) (tyInt5) rfl (by simp only [dOk_some, dOk_none, Nat.reduceLT]) (cut_sz x.text 64 (by omega))) (QOk_body _ _ _) (by first | exact .inl rfl | exact .inr ⟨_, _, rfl, rfl⟩) ?_
      rw [cut_is x.text 64 64 rfl, ← hbs]
      rintro _ ⟨Ab, cb, G3, hby, rfl⟩
      simp only [go_sem, Nat.reduceAdd, Nat.reduceSub, Nat.reduceMul, Nat.reduceEqDiff, Nat.reduceLT, Nat.reduceLeDiff, Nat.reduceBEq, Nat.reduceBNe, Int.reduceLT, Int.reduceLE, Int.reduceEq, Int.reduceAdd, Int.reduceSub, Int.reduceNeg, decide_true, decide_false, Bool.not_true, Bool.not_false, cond_true, cond_false, beq_self_eq_true, and_self, ne_eq, not_true_eq_false, not_false_eq_true, reduceCtorEq, Bool.true_beq, Bool.false_beq]
      intro g5
      refine plain_ok (N := 3000) (call_does (fun v _ => ∃ k : Nat, (k : Int) = pick x.kind 6 ∧ (k : Int) < 6 ∧ v = .int .i64 (k : Int)) rfl rfl (by kernel_rfl) rfl (by simp only [dOk_some, dOk_none, Nat.reduceLT]) (fun G hG => picked_does b1 b2 (by omega) (by omega))) (QOk_body _ _ _) (by first | exact .inl rfl | exact .inr ⟨_, _, rfl, rfl⟩) ?_
      rintro _ ⟨_, G4, ⟨k, _, hk6, rfl⟩, hn4, rfl⟩
      have hl14 : G1.Le G4 := hn4.le G1 (by simp)
      clear hn4
      by_cases k0 : k = 0
      · have r0 : decide ((k : Int) = 0) = true := decide_eq_true (by omega)
        simp only [go_sem, Nat.reduceAdd, Nat.reduceSub, Nat.reduceMul, Nat.reduceEqDiff, Nat.reduceLT, Nat.reduceLeDiff, Nat.reduceBEq, Nat.reduceBNe, Int.reduceLT, Int.reduceLE, Int.reduceEq, Int.reduceAdd, Int.reduceSub, Int.reduceNeg, decide_true, decide_false, Bool.not_true, Bool.not_false, cond_true, cond_false, beq_self_eq_true, and_self, ne_eq, not_true_eq_false, not_false_eq_true, reduceCtorEq, Bool.true_beq, Bool.false_beq, r0]
        refine draw_ok (N := 3000) (.take 0 (.take 1 (.take 2 (.take 3 (.take 4 (.take 5 (.take 6 (.take 8 (.alt 7 (.alt 9 (.take 10 (.take 11 (.take 12 (.alt 13 (.take 14 .done) .last)))) .last) .last))))))))) [5] (QOk_body _ _ _) follows_mixed (by kernel_rfl) (by kernel_rfl) ?_
        simp only [go_sem, Nat.reduceAdd, Nat.reduceSub, Nat.reduceMul, Nat.reduceEqDiff, Nat.reduceLT, Nat.reduceLeDiff, Nat.reduceBEq, Nat.reduceBNe, Int.reduceLT, Int.reduceLE, Int.reduceEq, Int.reduceAdd, Int.reduceSub, Int.reduceNeg, decide_true, decide_false, Bool.not_true, Bool.not_false, cond_true, cond_false, beq_self_eq_true, and_self, ne_eq, not_true_eq_false, not_false_eq_true, reduceCtorEq, Bool.true_beq, Bool.false_beq]
        refine any_ok2 (N := 3000) (call_does (fun v _ => ∃ j : Nat, (j : Int) = pick x.a (d.safe.length : Int) ∧ (j : Int) < (d.safe.length : Int) ∧ v = .int .i64 (j : Int)) rfl rfl (by kernel_rfl) rfl (by simp only [dOk_some, dOk_none, Nat.reduceLT]) (fun G hG => picked_does b3 b4 (by omega) (by omega))) (QOk_body _ _ _) rfl (by first | exact .inl rfl | exact .inr ⟨_, _, rfl, rfl⟩) (by intro _ hK; first | (obtain ⟨_, _, _, _, rfl⟩ := hK; exact ⟨rfl, fun _ h => h⟩) | (obtain ⟨_, _, rfl⟩ := hK; exact ⟨rfl, fun _ h => h⟩) | (obtain ⟨_, _, _, _, _, _, rfl⟩ := hK; exact ⟨rfl, fun _ h => List.mem_cons_of_mem _ h⟩) | (obtain ⟨_, _, _, _, _, _, _, rfl⟩ := hK; exact ⟨rfl, fun _ h => List.mem_cons_of_mem _ h⟩) | (obtain rfl := hK; exact ⟨rfl, fun _ h => h⟩)) ?_
        rintro _ ⟨_, G5, ⟨j, _, hj, rfl⟩, hn5, rfl⟩
        clear hn5
        simp only [go_sem, Nat.reduceAdd, Nat.reduceSub, Nat.reduceMul, Nat.reduceEqDiff, Nat.reduceLT, Nat.reduceLeDiff, Nat.reduceBEq, Nat.reduceBNe, Int.reduceLT, Int.reduceLE, Int.reduceEq, Int.reduceAdd, Int.reduceSub, Int.reduceNeg, decide_true, decide_false, Bool.not_true, Bool.not_false, cond_true, cond_false, beq_self_eq_true, and_self, ne_eq, not_true_eq_false, not_false_eq_true, reduceCtorEq, Bool.true_beq, Bool.false_beq]
        by_cases he : putErr d (j : Int) bs.length = 0
        · refine any_ok2 (N := 3000) (call_does (fun v G => ∃ dv, v = .tuple #[dv, .int .i64 0] ∧ DevG G dv (putDev d (j : Int) bs)) rfl rfl (by kernel_rfl) rfl (by simp only [dOk_some, dOk_none, Nat.reduceLT]) (fun G hG => ret_mono (put_does (n := (j : Int)) (bs := bs) hg hgd hG.wf (tidB hG (fun _ h => h) hTb hW rfl rfl (by simp) (by simp; decide)) (hd1.mono (hG.le G1 (by simp))) (ByG.mono hby (hG.le G3 (by simp)))) fun v G' _ h => dev_get h he)) (QOk_body _ _ _) rfl (by first | exact .inl rfl | exact .inr ⟨_, _, rfl, rfl⟩) (by intro _ hK; first | (obtain ⟨_, _, _, _, rfl⟩ := hK; exact ⟨rfl, fun _ h => h⟩) | (obtain ⟨_, _, rfl⟩ := hK; exact ⟨rfl, fun _ h => h⟩) | (obtain ⟨_, _, _, _, _, _, rfl⟩ := hK; exact ⟨rfl, fun _ h => List.mem_cons_of_mem _ h⟩) | (obtain ⟨_, _, _, _, _, _, _, rfl⟩ := hK; exact ⟨rfl, fun _ h => List.mem_cons_of_mem _ h⟩) | (obtain rfl := hK; exact ⟨rfl, fun _ h => h⟩)) ?_
          rintro _ ⟨_, G6, ⟨dv, rfl, hd2⟩, hn6, rfl⟩
          have hg2 := good_put hgd he
          have hf2 : (putDev d (j : Int) bs).fuel = -1 := spent_fuel1 hf
          have hc2 : (putDev d (j : Int) bs).cache.length ≤ v + 1 := by simp [putDev]; omega
          generalize putDev d (j : Int) bs = d2 at hd2 hg2 hf2 hc2
          have hl16 : G1.Le G6 := hn6.le G1 (by simp)
          clear hn6
          obtain ⟨C1, n1, C2, n2, C3, n3, rfl, hfo⟩ := hd2.form
          clear hfo
          simp only [go_sem, Nat.reduceAdd, Nat.reduceSub, Nat.reduceMul, Nat.reduceEqDiff, Nat.reduceLT, Nat.reduceLeDiff, Nat.reduceBEq, Nat.reduceBNe, Int.reduceLT, Int.reduceLE, Int.reduceEq, Int.reduceAdd, Int.reduceSub, Int.reduceNeg, decide_true, decide_false, Bool.not_true, Bool.not_false, cond_true, cond_false, beq_self_eq_true, and_self, ne_eq, not_true_eq_false, not_false_eq_true, reduceCtorEq, Bool.true_beq, Bool.false_beq]
          exact ⟨by omega, again_ok (v + 1, d2, (C1, n1), (C2, n2), (C3, n3), G6) ⟨⟨by omega, by omega, hc2⟩, ScR.mono hl1 rawG_mono hl16, hg2, hf2, hd2⟩ (by simp only; omega) (by simp only [go_sem, Nat.reduceAdd, Nat.reduceSub, Nat.reduceMul, Nat.reduceEqDiff, Nat.reduceLT, Nat.reduceLeDiff, Nat.reduceBEq, Nat.reduceBNe, Int.reduceLT, Int.reduceLE, Int.reduceEq, Int.reduceAdd, Int.reduceSub, Int.reduceNeg, decide_true, decide_false, Bool.not_true, Bool.not_false, cond_true, cond_false, beq_self_eq_true, and_self, ne_eq, not_true_eq_false, not_false_eq_true, reduceCtorEq, Bool.true_beq, Bool.false_beq]; simp)⟩
        · refine any_ok2 (N := 3000) (call_does (fun v G => v = .tuple #[.agg #[.slice none 0 0, .slice none 0 0, .slice none 0 0, .int .i64 0], .int .i64 (putErr d (j : Int) bs.length)]) rfl rfl (by kernel_rfl) rfl (by simp only [dOk_some, dOk_none, Nat.reduceLT]) (fun G hG => ret_mono (put_does (n := (j : Int)) (bs := bs) hg hgd hG.wf (tidB hG (fun _ h => h) hTb hW rfl rfl (by simp) (by simp; decide)) (hd1.mono (hG.le G1 (by simp))) (ByG.mono hby (hG.le G3 (by simp)))) fun v G' _ h => dev_bad h rfl he)) (QOk_body _ _ _) rfl (by first | exact .inl rfl | exact .inr ⟨_, _, rfl, rfl⟩) (by intro _ hK; first | (obtain ⟨_, _, _, _, rfl⟩ := hK; exact ⟨rfl, fun _ h => h⟩) | (obtain ⟨_, _, rfl⟩ := hK; exact ⟨rfl, fun _ h => h⟩) | (obtain ⟨_, _, _, _, _, _, rfl⟩ := hK; exact ⟨rfl, fun _ h => List.mem_cons_of_mem _ h⟩) | (obtain ⟨_, _, _, _, _, _, _, rfl⟩ := hK; exact ⟨rfl, fun _ h => List.mem_cons_of_mem _ h⟩) | (obtain rfl := hK; exact ⟨rfl, fun _ h => h⟩)) ?_
          rintro _ ⟨_, G6, rfl, hn6, rfl⟩
          have q : decide (putErr d (j : Int) bs.length = 0) = false := decide_eq_false he
          have hl16 : G1.Le G6 := hn6.le G1 (by simp)
          clear hn6
          simp only [go_sem, Nat.reduceAdd, Nat.reduceSub, Nat.reduceMul, Nat.reduceEqDiff, Nat.reduceLT, Nat.reduceLeDiff, Nat.reduceBEq, Nat.reduceBNe, Int.reduceLT, Int.reduceLE, Int.reduceEq, Int.reduceAdd, Int.reduceSub, Int.reduceNeg, decide_true, decide_false, Bool.not_true, Bool.not_false, cond_true, cond_false, beq_self_eq_true, and_self, ne_eq, not_true_eq_false, not_false_eq_true, reduceCtorEq, Bool.true_beq, Bool.false_beq, q]
          exact ⟨by omega, again_ok (v + 1, d, (B1, m1), (B2, m2), (B3, m3), G6) ⟨⟨by omega, by omega, Nat.le_succ_of_le hvc⟩, ScR.mono hl1 rawG_mono hl16, hgd, hf, hd1.mono hl16⟩ (by simp only; omega) (by simp only [go_sem, Nat.reduceAdd, Nat.reduceSub, Nat.reduceMul, Nat.reduceEqDiff, Nat.reduceLT, Nat.reduceLeDiff, Nat.reduceBEq, Nat.reduceBNe, Int.reduceLT, Int.reduceLE, Int.reduceEq, Int.reduceAdd, Int.reduceSub, Int.reduceNeg, decide_true, decide_false, Bool.not_true, Bool.not_false, cond_true, cond_false, beq_self_eq_true, and_self, ne_eq, not_true_eq_false, not_false_eq_true, reduceCtorEq, Bool.true_beq, Bool.false_beq]; simp)⟩
      have r0 : decide ((k : Int) = 0) = false := decide_eq_false (by omega)
      by_cases k1 : k = 1
      · have r1 : decide ((k : Int) = 1) = true := decide_eq_true (by omega)
        simp only [go_sem, Nat.reduceAdd, Nat.reduceSub, Nat.reduceMul, Nat.reduceEqDiff, Nat.reduceLT, Nat.reduceLeDiff, Nat.reduceBEq, Nat.reduceBNe, Int.reduceLT, Int.reduceLE, Int.reduceEq, Int.reduceAdd, Int.reduceSub, Int.reduceNeg, decide_true, decide_false, Bool.not_true, Bool.not_false, cond_true, cond_false, beq_self_eq_true, and_self, ne_eq, not_true_eq_false, not_false_eq_true, reduceCtorEq, Bool.true_beq, Bool.false_beq, r0, r1]
        refine draw_ok (N := 3000) (.take 0 (.take 1 (.take 2 (.take 3 (.take 4 (.take 5 (.take 6 (.take 8 (.alt 7 (.alt 9 (.take 10 (.take 11 (.take 12 (.alt 13 (.take 14 .done) .last)))) .last) .last))))))))) [5] (QOk_body _ _ _) follows_mixed (by kernel_rfl) (by kernel_rfl) ?_
        simp only [go_sem, Nat.reduceAdd, Nat.reduceSub, Nat.reduceMul, Nat.reduceEqDiff, Nat.reduceLT, Nat.reduceLeDiff, Nat.reduceBEq, Nat.reduceBNe, Int.reduceLT, Int.reduceLE, Int.reduceEq, Int.reduceAdd, Int.reduceSub, Int.reduceNeg, decide_true, decide_false, Bool.not_true, Bool.not_false, cond_true, cond_false, beq_self_eq_true, and_self, ne_eq, not_true_eq_false, not_false_eq_true, reduceCtorEq, Bool.true_beq, Bool.false_beq]
        refine any_ok2 (N := 3000) (call_does (fun v _ => ∃ j : Nat, (j : Int) = pick x.a (d.safe.length : Int) ∧ (j : Int) < (d.safe.length : Int) ∧ v = .int .i64 (j : Int)) rfl rfl (by kernel_rfl) rfl (by simp only [dOk_some, dOk_none, Nat.reduceLT]) (fun G hG => picked_does b3 b4 (by omega) (by omega))) (QOk_body _ _ _) rfl (by first | exact .inl rfl | exact .inr ⟨_, _, rfl, rfl⟩) (by intro _ hK; first | (obtain ⟨_, _, _, _, rfl⟩ := hK; exact ⟨rfl, fun _ h => h⟩) | (obtain ⟨_, _, rfl⟩ := hK; exact ⟨rfl, fun _ h => h⟩) | (obtain ⟨_, _, _, _, _, _, rfl⟩ := hK; exact ⟨rfl, fun _ h => List.mem_cons_of_mem _ h⟩) | (obtain ⟨_, _, _, _, _, _, _, rfl⟩ := hK; exact ⟨rfl, fun _ h => List.mem_cons_of_mem _ h⟩) | (obtain rfl := hK; exact ⟨rfl, fun _ h => h⟩)) ?_
        rintro _ ⟨_, G5, ⟨j, _, hj, rfl⟩, hn5, rfl⟩
        clear hn5
        simp only [go_sem, Nat.reduceAdd, Nat.reduceSub, Nat.reduceMul, Nat.reduceEqDiff, Nat.reduceLT, Nat.reduceLeDiff, Nat.reduceBEq, Nat.reduceBNe, Int.reduceLT, Int.reduceLE, Int.reduceEq, Int.reduceAdd, Int.reduceSub, Int.reduceNeg, decide_true, decide_false, Bool.not_true, Bool.not_false, cond_true, cond_false, beq_self_eq_true, and_self, ne_eq, not_true_eq_false, not_false_eq_true, reduceCtorEq, Bool.true_beq, Bool.false_beq]
        by_cases he : putErr d (j : Int) bs.length = 0
        · refine any_ok2 (N := 3000) (call_does (fun v G => ∃ dv, v = .tuple #[dv, .int .i64 0] ∧ DevG G dv (putDev d (j : Int) bs)) rfl rfl (by kernel_rfl) rfl (by simp only [dOk_some, dOk_none, Nat.reduceLT]) (fun G hG => ret_mono (put_does (n := (j : Int)) (bs := bs) hg hgd hG.wf (tidB hG (fun _ h => h) hTb hW rfl rfl (by simp) (by simp; decide)) (hd1.mono (hG.le G1 (by simp))) (ByG.mono hby (hG.le G3 (by simp)))) fun v G' _ h => dev_get h he)) (QOk_body _ _ _) rfl (by first | exact .inl rfl | exact .inr ⟨_, _, rfl, rfl⟩) (by intro _ hK; first | (obtain ⟨_, _, _, _, rfl⟩ := hK; exact ⟨rfl, fun _ h => h⟩) | (obtain ⟨_, _, rfl⟩ := hK; exact ⟨rfl, fun _ h => h⟩) | (obtain ⟨_, _, _, _, _, _, rfl⟩ := hK; exact ⟨rfl, fun _ h => List.mem_cons_of_mem _ h⟩) | (obtain ⟨_, _, _, _, _, _, _, rfl⟩ := hK; exact ⟨rfl, fun _ h => List.mem_cons_of_mem _ h⟩) | (obtain rfl := hK; exact ⟨rfl, fun _ h => h⟩)) ?_
          rintro _ ⟨_, G6, ⟨dv, rfl, hd2⟩, hn6, rfl⟩
          have hg2 := good_put hgd he
          have hf2 : (putDev d (j : Int) bs).fuel = -1 := spent_fuel1 hf
          have hc2 : (putDev d (j : Int) bs).cache.length ≤ v + 1 := by simp [putDev]; omega
          generalize putDev d (j : Int) bs = d2 at hd2 hg2 hf2 hc2
          have hl16 : G1.Le G6 := hn6.le G1 (by simp)
          clear hn6
          obtain ⟨C1, n1, C2, n2, C3, n3, rfl, hfo⟩ := hd2.form
          clear hfo
          simp only [go_sem, Nat.reduceAdd, Nat.reduceSub, Nat.reduceMul, Nat.reduceEqDiff, Nat.reduceLT, Nat.reduceLeDiff, Nat.reduceBEq, Nat.reduceBNe, Int.reduceLT, Int.reduceLE, Int.reduceEq, Int.reduceAdd, Int.reduceSub, Int.reduceNeg, decide_true, decide_false, Bool.not_true, Bool.not_false, cond_true, cond_false, beq_self_eq_true, and_self, ne_eq, not_true_eq_false, not_false_eq_true, reduceCtorEq, Bool.true_beq, Bool.false_beq]
          exact ⟨by omega, again_ok (v + 1, d2, (C1, n1), (C2, n2), (C3, n3), G6) ⟨⟨by omega, by omega, hc2⟩, ScR.mono hl1 rawG_mono hl16, hg2, hf2, hd2⟩ (by simp only; omega) (by simp only [go_sem, Nat.reduceAdd, Nat.reduceSub, Nat.reduceMul, Nat.reduceEqDiff, Nat.reduceLT, Nat.reduceLeDiff, Nat.reduceBEq, Nat.reduceBNe, Int.reduceLT, Int.reduceLE, Int.reduceEq, Int.reduceAdd, Int.reduceSub, Int.reduceNeg, decide_true, decide_false, Bool.not_true, Bool.not_false, cond_true, cond_false, beq_self_eq_true, and_self, ne_eq, not_true_eq_false, not_false_eq_true, reduceCtorEq, Bool.true_beq, Bool.false_beq]; simp)⟩
        · refine any_ok2 (N := 3000) (call_does (fun v G => v = .tuple #[.agg #[.slice none 0 0, .slice none 0 0, .slice none 0 0, .int .i64 0], .int .i64 (putErr d (j : Int) bs.length)]) rfl rfl (by kernel_rfl) rfl (by simp only [dOk_some, dOk_none, Nat.reduceLT]) (fun G hG => ret_mono (put_does (n := (j : Int)) (bs := bs) hg hgd hG.wf (tidB hG (fun _ h => h) hTb hW rfl rfl (by simp) (by simp; decide)) (hd1.mono (hG.le G1 (by simp))) (ByG.mono hby (hG.le G3 (by simp)))) fun v G' _ h => dev_bad h rfl he)) (QOk_body _ _ _) rfl (by first | exact .inl rfl | exact .inr ⟨_, _, rfl, rfl⟩) (by intro _ hK; first | (obtain ⟨_, _, _, _, rfl⟩ := hK; exact ⟨rfl, fun _ h => h⟩) | (obtain ⟨_, _, rfl⟩ := hK; exact ⟨rfl, fun _ h => h⟩) | (obtain ⟨_, _, _, _, _, _, rfl⟩ := hK; exact ⟨rfl, fun _ h => List.mem_cons_of_mem _ h⟩) | (obtain ⟨_, _, _, _, _, _, _, rfl⟩ := hK; exact ⟨rfl, fun _ h => List.mem_cons_of_mem _ h⟩) | (obtain rfl := hK; exact ⟨rfl, fun _ h => h⟩)) ?_
          rintro _ ⟨_, G6, rfl, hn6, rfl⟩
          have q : decide (putErr d (j : Int) bs.length = 0) = false := decide_eq_false he
          have hl16 : G1.Le G6 := hn6.le G1 (by simp)
          clear hn6
          simp only [go_sem, Nat.reduceAdd, Nat.reduceSub, Nat.reduceMul, Nat.reduceEqDiff, Nat.reduceLT, Nat.reduceLeDiff, Nat.reduceBEq, Nat.reduceBNe, Int.reduceLT, Int.reduceLE, Int.reduceEq, Int.reduceAdd, Int.reduceSub, Int.reduceNeg, decide_true, decide_false, Bool.not_true, Bool.not_false, cond_true, cond_false, beq_self_eq_true, and_self, ne_eq, not_true_eq_false, not_false_eq_true, reduceCtorEq, Bool.true_beq, Bool.false_beq, q]
          exact ⟨by omega, again_ok (v + 1, d, (B1, m1), (B2, m2), (B3, m3), G6) ⟨⟨by omega, by omega, Nat.le_succ_of_le hvc⟩, ScR.mono hl1 rawG_mono hl16, hgd, hf, hd1.mono hl16⟩ (by simp only; omega) (by simp only [go_sem, Nat.reduceAdd, Nat.reduceSub, Nat.reduceMul, Nat.reduceEqDiff, Nat.reduceLT, Nat.reduceLeDiff, Nat.reduceBEq, Nat.reduceBNe, Int.reduceLT, Int.reduceLE, Int.reduceEq, Int.reduceAdd, Int.reduceSub, Int.reduceNeg, decide_true, decide_false, Bool.not_true, Bool.not_false, cond_true, cond_false, beq_self_eq_true, and_self, ne_eq, not_true_eq_false, not_false_eq_true, reduceCtorEq, Bool.true_beq, Bool.false_beq]; simp)⟩
      have r1 : decide ((k : Int) = 1) = false := decide_eq_false (by omega)
      by_cases k2 : k = 2
      · have r2 : decide ((k : Int) = 2) = true := decide_eq_true (by omega)
        simp only [go_sem, Nat.reduceAdd, Nat.reduceSub, Nat.reduceMul, Nat.reduceEqDiff, Nat.reduceLT, Nat.reduceLeDiff, Nat.reduceBEq, Nat.reduceBNe, Int.reduceLT, Int.reduceLE, Int.reduceEq, Int.reduceAdd, Int.reduceSub, Int.reduceNeg, decide_true, decide_false, Bool.not_true, Bool.not_false, cond_true, cond_false, beq_self_eq_true, and_self, ne_eq, not_true_eq_false, not_false_eq_true, reduceCtorEq, Bool.true_beq, Bool.false_beq, r0, r1, r2]
        refine draw_ok (N := 3000) (.take 0 (.take 1 (.take 2 (.take 3 (.take 4 (.take 5 (.take 6 (.take 8 (.alt 7 (.alt 9 (.take 10 (.take 11 (.take 12 (.alt 13 (.take 14 .done) .last)))) .last) .last))))))))) [5] (QOk_body _ _ _) follows_mixed (by kernel_rfl) (by kernel_rfl) ?_
        simp only [go_sem, Nat.reduceAdd, Nat.reduceSub, Nat.reduceMul, Nat.reduceEqDiff, Nat.reduceLT, Nat.reduceLeDiff, Nat.reduceBEq, Nat.reduceBNe, Int.reduceLT, Int.reduceLE, Int.reduceEq, Int.reduceAdd, Int.reduceSub, Int.reduceNeg, decide_true, decide_false, Bool.not_true, Bool.not_false, cond_true, cond_false, beq_self_eq_true, and_self, ne_eq, not_true_eq_false, not_false_eq_true, reduceCtorEq, Bool.true_beq, Bool.false_beq]
        refine any_ok2 (N := 3000) (call_does (fun v _ => ∃ j : Nat, (j : Int) = pick x.a (d.safe.length : Int) ∧ (j : Int) < (d.safe.length : Int) ∧ v = .int .i64 (j : Int)) rfl rfl (by kernel_rfl) rfl (by simp only [dOk_some, dOk_none, Nat.reduceLT]) (fun G hG => picked_does b3 b4 (by omega) (by omega))) (QOk_body _ _ _) rfl (by first | exact .inl rfl | exact .inr ⟨_, _, rfl, rfl⟩) (by intro _ hK; first | (obtain ⟨_, _, _, _, rfl⟩ := hK; exact ⟨rfl, fun _ h => h⟩) | (obtain ⟨_, _, rfl⟩ := hK; exact ⟨rfl, fun _ h => h⟩) | (obtain ⟨_, _, _, _, _, _, rfl⟩ := hK; exact ⟨rfl, fun _ h => List.mem_cons_of_mem _ h⟩) | (obtain ⟨_, _, _, _, _, _, _, rfl⟩ := hK; exact ⟨rfl, fun _ h => List.mem_cons_of_mem _ h⟩) | (obtain rfl := hK; exact ⟨rfl, fun _ h => h⟩)) ?_
        rintro _ ⟨_, G5, ⟨j, _, hj, rfl⟩, hn5, rfl⟩
        clear hn5
        simp only [go_sem, Nat.reduceAdd, Nat.reduceSub, Nat.reduceMul, Nat.reduceEqDiff, Nat.reduceLT, Nat.reduceLeDiff, Nat.reduceBEq, Nat.reduceBNe, Int.reduceLT, Int.reduceLE, Int.reduceEq, Int.reduceAdd, Int.reduceSub, Int.reduceNeg, decide_true, decide_false, Bool.not_true, Bool.not_false, cond_true, cond_false, beq_self_eq_true, and_self, ne_eq, not_true_eq_false, not_false_eq_true, reduceCtorEq, Bool.true_beq, Bool.false_beq]
        by_cases he : putErr d (j : Int) bs.length = 0
        · refine any_ok2 (N := 3000) (call_does (fun v G => ∃ dv, v = .tuple #[dv, .int .i64 0] ∧ DevG G dv (putDev d (j : Int) bs)) rfl rfl (by kernel_rfl) rfl (by simp only [dOk_some, dOk_none, Nat.reduceLT]) (fun G hG => ret_mono (put_does (n := (j : Int)) (bs := bs) hg hgd hG.wf (tidB hG (fun _ h => h) hTb hW rfl rfl (by simp) (by simp; decide)) (hd1.mono (hG.le G1 (by simp))) (ByG.mono hby (hG.le G3 (by simp)))) fun v G' _ h => dev_get h he)) (QOk_body _ _ _) rfl (by first | exact .inl rfl | exact .inr ⟨_, _, rfl, rfl⟩) (by intro _ hK; first | (obtain ⟨_, _, _, _, rfl⟩ := hK; exact ⟨rfl, fun _ h => h⟩) | (obtain ⟨_, _, rfl⟩ := hK; exact ⟨rfl, fun _ h => h⟩) | (obtain ⟨_, _, _, _, _, _, rfl⟩ := hK; exact ⟨rfl, fun _ h => List.mem_cons_of_mem _ h⟩) | (obtain ⟨_, _, _, _, _, _, _, rfl⟩ := hK; exact ⟨rfl, fun _ h => List.mem_cons_of_mem _ h⟩) | (obtain rfl := hK; exact ⟨rfl, fun _ h => h⟩)) ?_
          rintro _ ⟨_, G6, ⟨dv, rfl, hd2⟩, hn6, rfl⟩
          have hg2 := good_put hgd he
          have hf2 : (putDev d (j : Int) bs).fuel = -1 := spent_fuel1 hf
          have hc2 : (putDev d (j : Int) bs).cache.length ≤ v + 1 := by simp [putDev]; omega
          generalize putDev d (j : Int) bs = d2 at hd2 hg2 hf2 hc2
          have hl16 : G1.Le G6 := hn6.le G1 (by simp)
          clear hn6
          obtain ⟨C1, n1, C2, n2, C3, n3, rfl, hfo⟩ := hd2.form
          clear hfo
          simp only [go_sem, Nat.reduceAdd, Nat.reduceSub, Nat.reduceMul, Nat.reduceEqDiff, Nat.reduceLT, Nat.reduceLeDiff, Nat.reduceBEq, Nat.reduceBNe, Int.reduceLT, Int.reduceLE, Int.reduceEq, Int.reduceAdd, Int.reduceSub, Int.reduceNeg, decide_true, decide_false, Bool.not_true, Bool.not_false, cond_true, cond_false, beq_self_eq_true, and_self, ne_eq, not_true_eq_false, not_false_eq_true, reduceCtorEq, Bool.true_beq, Bool.false_beq]
          exact ⟨by omega, again_ok (v + 1, d2, (C1, n1), (C2, n2), (C3, n3), G6) ⟨⟨by omega, by omega, hc2⟩, ScR.mono hl1 rawG_mono hl16, hg2, hf2, hd2⟩ (by simp only; omega) (by simp only [go_sem, Nat.reduceAdd, Nat.reduceSub, Nat.reduceMul, Nat.reduceEqDiff, Nat.reduceLT, Nat.reduceLeDiff, Nat.reduceBEq, Nat.reduceBNe, Int.reduceLT, Int.reduceLE, Int.reduceEq, Int.reduceAdd, Int.reduceSub, Int.reduceNeg, decide_true, decide_false, Bool.not_true, Bool.not_false, cond_true, cond_false, beq_self_eq_true, and_self, ne_eq, not_true_eq_false, not_false_eq_true, reduceCtorEq, Bool.true_beq, Bool.false_beq]; simp)⟩
        · refine any_ok2 (N := 3000) (call_does (fun v G => v = .tuple #[.agg #[.slice none 0 0, .slice none 0 0, .slice none 0 0, .int .i64 0], .int .i64 (putErr d (j : Int) bs.length)]) rfl rfl (by kernel_rfl) rfl (by simp only [dOk_some, dOk_none, Nat.reduceLT]) (fun G hG => ret_mono (put_does (n := (j : Int)) (bs := bs) hg hgd hG.wf (tidB hG (fun _ h => h) hTb hW rfl rfl (by simp) (by simp; decide)) (hd1.mono (hG.le G1 (by simp))) (ByG.mono hby (hG.le G3 (by simp)))) fun v G' _ h => dev_bad h rfl he)) (QOk_body _ _ _) rfl (by first | exact .inl rfl | exact .inr ⟨_, _, rfl, rfl⟩) (by intro _ hK; first | (obtain ⟨_, _, _, _, rfl⟩ := hK; exact ⟨rfl, fun _ h => h⟩) | (obtain ⟨_, _, rfl⟩ := hK; exact ⟨rfl, fun _ h => h⟩) | (obtain ⟨_, _, _, _, _, _, rfl⟩ := hK; exact ⟨rfl, fun _ h => List.mem_cons_of_mem _ h⟩) | (obtain ⟨_, _, _, _, _, _, _, rfl⟩ := hK; exact ⟨rfl, fun _ h => List.mem_cons_of_mem _ h⟩) | (obtain rfl := hK; exact ⟨rfl, fun _ h => h⟩)) ?_
          rintro _ ⟨_, G6, rfl, hn6, rfl⟩
          have q : decide (putErr d (j : Int) bs.length = 0) = false := decide_eq_false he
          have hl16 : G1.Le G6 := hn6.le G1 (by simp)
          clear hn6
          simp only [go_sem, Nat.reduceAdd, Nat.reduceSub, Nat.reduceMul, Nat.reduceEqDiff, Nat.reduceLT, Nat.reduceLeDiff, Nat.reduceBEq, Nat.reduceBNe, Int.reduceLT, Int.reduceLE, Int.reduceEq, Int.reduceAdd, Int.reduceSub, Int.reduceNeg, decide_true, decide_false, Bool.not_true, Bool.not_false, cond_true, cond_false, beq_self_eq_true, and_self, ne_eq, not_true_eq_false, not_false_eq_true, reduceCtorEq, Bool.true_beq, Bool.false_beq, q]
          exact ⟨by omega, again_ok (v + 1, d, (B1, m1), (B2, m2), (B3, m3), G6) ⟨⟨by omega, by omega, Nat.le_succ_of_le hvc⟩, ScR.mono hl1 rawG_mono hl16, hgd, hf, hd1.mono hl16⟩ (by simp only; omega) (by simp only [go_sem, Nat.reduceAdd, Nat.reduceSub, Nat.reduceMul, Nat.reduceEqDiff, Nat.reduceLT, Nat.reduceLeDiff, Nat.reduceBEq, Nat.reduceBNe, Int.reduceLT, Int.reduceLE, Int.reduceEq, Int.reduceAdd, Int.reduceSub, Int.reduceNeg, decide_true, decide_false, Bool.not_true, Bool.not_false, cond_true, cond_false, beq_self_eq_true, and_self, ne_eq, not_true_eq_false, not_false_eq_true, reduceCtorEq, Bool.true_beq, Bool.false_beq]; simp)⟩
      have r2 : decide ((k : Int) = 2) = false := decide_eq_false (by omega)
      have hdn : downErr d = 0 := by unfold downErr; rw [if_neg (by omega)]
      by_cases k3 : k = 3
      · have r3 : decide ((k : Int) = 3) = true := decide_eq_true (by omega)
        simp only [go_sem, Nat.reduceAdd, Nat.reduceSub, Nat.reduceMul, Nat.reduceEqDiff, Nat.reduceLT, Nat.reduceLeDiff, Nat.reduceBEq, Nat.reduceBNe, Int.reduceLT, Int.reduceLE, Int.reduceEq, Int.reduceAdd, Int.reduceSub, Int.reduceNeg, decide_true, decide_false, Bool.not_true, Bool.not_false, cond_true, cond_false, beq_self_eq_true, and_self, ne_eq, not_true_eq_false, not_false_eq_true, reduceCtorEq, Bool.true_beq, Bool.false_beq, r0, r1, r2, r3]
        refine plain_ok (N := 3000) (call_does (fun v G => ∃ dv, v = .tuple #[dv, .int .i64 0] ∧ DevG G dv (flushDev d)) rfl rfl (by kernel_rfl) rfl (by simp only [dOk_some, dOk_none, Nat.reduceLT]) (fun G hG => ret_mono (flush_does hg hgd hG.wf (tidB hG (fun _ h => h) hTb hW rfl rfl (by simp) (by simp; decide)) (hd1.mono (hG.le G1 (by simp)))) fun v G' _ h => dev_get h hdn)) (QOk_body _ _ _) (by first | exact .inl rfl | exact .inr ⟨_, _, rfl, rfl⟩) ?_
        rintro _ ⟨_, G6, ⟨dv, rfl, hd2⟩, hn6, rfl⟩
        have hg2 := good_flush hgd
        have hf2 : (flushDev d).fuel = -1 := spent_fuel1 hf
        have hc2 : (flushDev d).cache.length ≤ v + 1 := by simp [flushDev]
        generalize flushDev d = d2 at hd2 hg2 hf2 hc2
        have hl16 : G1.Le G6 := hn6.le G1 (by simp)
        clear hn6
        obtain ⟨C1, n1, C2, n2, C3, n3, rfl, hfo⟩ := hd2.form
        clear hfo
        simp only [go_sem, Nat.reduceAdd, Nat.reduceSub, Nat.reduceMul, Nat.reduceEqDiff, Nat.reduceLT, Nat.reduceLeDiff, Nat.reduceBEq, Nat.reduceBNe, Int.reduceLT, Int.reduceLE, Int.reduceEq, Int.reduceAdd, Int.reduceSub, Int.reduceNeg, decide_true, decide_false, Bool.not_true, Bool.not_false, cond_true, cond_false, beq_self_eq_true, and_self, ne_eq, not_true_eq_false, not_false_eq_true, reduceCtorEq, Bool.true_beq, Bool.false_beq]
        exact ⟨by omega, again_ok (v + 1, d2, (C1, n1), (C2, n2), (C3, n3), G6) ⟨⟨by omega, by omega, hc2⟩, ScR.mono hl1 rawG_mono hl16, hg2, hf2, hd2⟩ (by simp only; omega) (by simp only [go_sem, Nat.reduceAdd, Nat.reduceSub, Nat.reduceMul, Nat.reduceEqDiff, Nat.reduceLT, Nat.reduceLeDiff, Nat.reduceBEq, Nat.reduceBNe, Int.reduceLT, Int.reduceLE, Int.reduceEq, Int.reduceAdd, Int.reduceSub, Int.reduceNeg, decide_true, decide_false, Bool.not_true, Bool.not_false, cond_true, cond_false, beq_self_eq_true, and_self, ne_eq, not_true_eq_false, not_false_eq_true, reduceCtorEq, Bool.true_beq, Bool.false_beq]; simp)⟩
      have r3 : decide ((k : Int) = 3) = false := decide_eq_false (by omega)
      by_cases k4 : k = 4
      · have r4 : decide ((k : Int) = 4) = true := decide_eq_true (by omega)
        have hmany := hgd.many
        have hn8 := hg.n2
        simp only [go_sem, Nat.reduceAdd, Nat.reduceSub, Nat.reduceMul, Nat.reduceEqDiff, Nat.reduceLT, Nat.reduceLeDiff, Nat.reduceBEq, Nat.reduceBNe, Int.reduceLT, Int.reduceLE, Int.reduceEq, Int.reduceAdd, Int.reduceSub, Int.reduceNeg, decide_true, decide_false, Bool.not_true, Bool.not_false, cond_true, cond_false, beq_self_eq_true, and_self, ne_eq, not_true_eq_false, not_false_eq_true, reduceCtorEq, Bool.true_beq, Bool.false_beq, r0, r1, r2, r3, r4]
        refine draw_ok (N := 3000) (.take 0 (.take 1 (.take 2 (.take 3 (.take 4 (.take 5 (.take 6 (.take 7 (.take 9 (.alt 8 (.alt 10 (.take 11 (.take 12 (.take 13 (.alt 14 (.take 15 .done) .last)))) .last) .last)))))))))) [5] (QOk_body _ _ _) follows_mixed (by kernel_rfl) (by kernel_rfl) ?_
        simp only [go_sem, Nat.reduceAdd, Nat.reduceSub, Nat.reduceMul, Nat.reduceEqDiff, Nat.reduceLT, Nat.reduceLeDiff, Nat.reduceBEq, Nat.reduceBNe, Int.reduceLT, Int.reduceLE, Int.reduceEq, Int.reduceAdd, Int.reduceSub, Int.reduceNeg, decide_true, decide_false, Bool.not_true, Bool.not_false, cond_true, cond_false, beq_self_eq_true, and_self, ne_eq, not_true_eq_false, not_false_eq_true, reduceCtorEq, Bool.true_beq, Bool.false_beq]
        refine ⟨by omega, ?_⟩
        refine any_ok2 (N := 3000) (call_does (fun v _ => ∃ j : Nat, (j : Int) = pick x.a ((d.vols.length : Int) + 1) ∧ (j : Int) < (d.vols.length : Int) + 1 ∧ v = .int .i64 (j : Int)) rfl rfl (by kernel_rfl) rfl (by simp only [dOk_some, dOk_none, Nat.reduceLT]) (fun G hG => picked_does b3 b4 (by omega) (by omega))) (QOk_body _ _ _) rfl (by first | exact .inl rfl | exact .inr ⟨_, _, rfl, rfl⟩) (by intro _ hK; first | (obtain ⟨_, _, _, _, rfl⟩ := hK; exact ⟨rfl, fun _ h => h⟩) | (obtain ⟨_, _, rfl⟩ := hK; exact ⟨rfl, fun _ h => h⟩) | (obtain ⟨_, _, _, _, _, _, rfl⟩ := hK; exact ⟨rfl, fun _ h => List.mem_cons_of_mem _ h⟩) | (obtain ⟨_, _, _, _, _, _, _, rfl⟩ := hK; exact ⟨rfl, fun _ h => List.mem_cons_of_mem _ h⟩) | (obtain rfl := hK; exact ⟨rfl, fun _ h => h⟩)) ?_
        rintro _ ⟨_, G5, ⟨j, _, hj, rfl⟩, hn5, rfl⟩
        clear hn5
        simp only [go_sem, Nat.reduceAdd, Nat.reduceSub, Nat.reduceMul, Nat.reduceEqDiff, Nat.reduceLT, Nat.reduceLeDiff, Nat.reduceBEq, Nat.reduceBNe, Int.reduceLT, Int.reduceLE, Int.reduceEq, Int.reduceAdd, Int.reduceSub, Int.reduceNeg, decide_true, decide_false, Bool.not_true, Bool.not_false, cond_true, cond_false, beq_self_eq_true, and_self, ne_eq, not_true_eq_false, not_false_eq_true, reduceCtorEq, Bool.true_beq, Bool.false_beq]
        by_cases he : appErr g d (j : Int) bs.length = 0
        · refine any_ok2 (N := 3000) (call_does (fun v G => ∃ dv, v = .tuple #[dv, .int .i64 0] ∧ DevG G dv (appDev g d (j : Int) bs)) rfl rfl (by kernel_rfl) rfl (by simp only [dOk_some, dOk_none, Nat.reduceLT]) (fun G hG => ret_mono (append_does' (v := (j : Int)) (bs := bs) hg hgd (by omega) hG.wf (tidB hG (fun _ h => h) hTb hW rfl rfl (by simp) (by simp; decide)) (hd1.mono (hG.le G1 (by simp))) (ByG.mono hby (hG.le G3 (by simp)))) fun v G' _ h => dev_get h he)) (QOk_body _ _ _) rfl (by first | exact .inl rfl | exact .inr ⟨_, _, rfl, rfl⟩) (by intro _ hK; first | (obtain ⟨_, _, _, _, rfl⟩ := hK; exact ⟨rfl, fun _ h => h⟩) | (obtain ⟨_, _, rfl⟩ := hK; exact ⟨rfl, fun _ h => h⟩) | (obtain ⟨_, _, _, _, _, _, rfl⟩ := hK; exact ⟨rfl, fun _ h => List.mem_cons_of_mem _ h⟩) | (obtain ⟨_, _, _, _, _, _, _, rfl⟩ := hK; exact ⟨rfl, fun _ h => List.mem_cons_of_mem _ h⟩) | (obtain rfl := hK; exact ⟨rfl, fun _ h => h⟩)) ?_
          rintro _ ⟨_, G6, ⟨dv, rfl, hd2⟩, hn6, rfl⟩
          have hg2 := good_app hgd he
          have hf2 : (appDev g d (j : Int) bs).fuel = -1 := app_fuel hf
          have hc2 : (appDev g d (j : Int) bs).cache.length ≤ v + 1 := by rw [app_cache]; omega
          generalize appDev g d (j : Int) bs = d2 at hd2 hg2 hf2 hc2
          have hl16 : G1.Le G6 := hn6.le G1 (by simp)
          clear hn6
          obtain ⟨C1, n1, C2, n2, C3, n3, rfl, hfo⟩ := hd2.form
          clear hfo
          simp only [go_sem, Nat.reduceAdd, Nat.reduceSub, Nat.reduceMul, Nat.reduceEqDiff, Nat.reduceLT, Nat.reduceLeDiff, Nat.reduceBEq, Nat.reduceBNe, Int.reduceLT, Int.reduceLE, Int.reduceEq, Int.reduceAdd, Int.reduceSub, Int.reduceNeg, decide_true, decide_false, Bool.not_true, Bool.not_false, cond_true, cond_false, beq_self_eq_true, and_self, ne_eq, not_true_eq_false, not_false_eq_true, reduceCtorEq, Bool.true_beq, Bool.false_beq]
          exact ⟨by omega, again_ok (v + 1, d2, (C1, n1), (C2, n2), (C3, n3), G6) ⟨⟨by omega, by omega, hc2⟩, ScR.mono hl1 rawG_mono hl16, hg2, hf2, hd2⟩ (by simp only; omega) (by simp only [go_sem, Nat.reduceAdd, Nat.reduceSub, Nat.reduceMul, Nat.reduceEqDiff, Nat.reduceLT, Nat.reduceLeDiff, Nat.reduceBEq, Nat.reduceBNe, Int.reduceLT, Int.reduceLE, Int.reduceEq, Int.reduceAdd, Int.reduceSub, Int.reduceNeg, decide_true, decide_false, Bool.not_true, Bool.not_false, cond_true, cond_false, beq_self_eq_true, and_self, ne_eq, not_true_eq_false, not_false_eq_true, reduceCtorEq, Bool.true_beq, Bool.false_beq]; simp)⟩
        · refine any_ok2 (N := 3000) (call_does (fun v G => v = .tuple #[.agg #[.slice none 0 0, .slice none 0 0, .slice none 0 0, .int .i64 0], .int .i64 (appErr g d (j : Int) bs.length)]) rfl rfl (by kernel_rfl) rfl (by simp only [dOk_some, dOk_none, Nat.reduceLT]) (fun G hG => ret_mono (append_does' (v := (j : Int)) (bs := bs) hg hgd (by omega) hG.wf (tidB hG (fun _ h => h) hTb hW rfl rfl (by simp) (by simp; decide)) (hd1.mono (hG.le G1 (by simp))) (ByG.mono hby (hG.le G3 (by simp)))) fun v G' _ h => dev_bad h rfl he)) (QOk_body _ _ _) rfl (by first | exact .inl rfl | exact .inr ⟨_, _, rfl, rfl⟩) (by intro _ hK; first | (obtain ⟨_, _, _, _, rfl⟩ := hK; exact ⟨rfl, fun _ h => h⟩) | (obtain ⟨_, _, rfl⟩ := hK; exact ⟨rfl, fun _ h => h⟩) | (obtain ⟨_, _, _, _, _, _, rfl⟩ := hK; exact ⟨rfl, fun _ h => List.mem_cons_of_mem _ h⟩) | (obtain ⟨_, _, _, _, _, _, _, rfl⟩ := hK; exact ⟨rfl, fun _ h => List.mem_cons_of_mem _ h⟩) | (obtain rfl := hK; exact ⟨rfl, fun _ h => h⟩)) ?_
          rintro _ ⟨_, G6, rfl, hn6, rfl⟩
          have q : decide (appErr g d (j : Int) bs.length = 0) = false := decide_eq_false he
          have hl16 : G1.Le G6 := hn6.le G1 (by simp)
          clear hn6
          simp only [go_sem, Nat.reduceAdd, Nat.reduceSub, Nat.reduceMul, Nat.reduceEqDiff, Nat.reduceLT, Nat.reduceLeDiff, Nat.reduceBEq, Nat.reduceBNe, Int.reduceLT, Int.reduceLE, Int.reduceEq, Int.reduceAdd, Int.reduceSub, Int.reduceNeg, decide_true, decide_false, Bool.not_true, Bool.not_false, cond_true, cond_false, beq_self_eq_true, and_self, ne_eq, not_true_eq_false, not_false_eq_true, reduceCtorEq, Bool.true_beq, Bool.false_beq, q]
          exact ⟨by omega, again_ok (v + 1, d, (B1, m1), (B2, m2), (B3, m3), G6) ⟨⟨by omega, by omega, Nat.le_succ_of_le hvc⟩, ScR.mono hl1 rawG_mono hl16, hgd, hf, hd1.mono hl16⟩ (by simp only; omega) (by simp only [go_sem, Nat.reduceAdd, Nat.reduceSub, Nat.reduceMul, Nat.reduceEqDiff, Nat.reduceLT, Nat.reduceLeDiff, Nat.reduceBEq, Nat.reduceBNe, Int.reduceLT, Int.reduceLE, Int.reduceEq, Int.reduceAdd, Int.reduceSub, Int.reduceNeg, decide_true, decide_false, Bool.not_true, Bool.not_false, cond_true, cond_false, beq_self_eq_true, and_self, ne_eq, not_true_eq_false, not_false_eq_true, reduceCtorEq, Bool.true_beq, Bool.false_beq]; simp)⟩
      have r4 : decide ((k : Int) = 4) = false := decide_eq_false (by omega)
      simp only [go_sem, Nat.reduceAdd, Nat.reduceSub, Nat.reduceMul, Nat.reduceEqDiff, Nat.reduceLT, Nat.reduceLeDiff, Nat.reduceBEq, Nat.reduceBNe, Int.reduceLT, Int.reduceLE, Int.reduceEq, Int.reduceAdd, Int.reduceSub, Int.reduceNeg, decide_true, decide_false, Bool.not_true, Bool.not_false, cond_true, cond_false, beq_self_eq_true, and_self, ne_eq, not_true_eq_false, not_false_eq_true, reduceCtorEq, Bool.true_beq, Bool.false_beq, r0, r1, r2, r3, r4]
      refine plain_ok (N := 3000) (call_does (fun v G => ∃ dv, v = .tuple #[dv, .int .i64 0] ∧ DevG G dv (markDev d)) rfl rfl (by kernel_rfl) rfl (by simp only [dOk_some, dOk_none, Nat.reduceLT]) (fun G hG => ret_mono (mark_does hg hgd hG.wf (tidB hG (fun _ h => h) hTb hW rfl rfl (by simp) (by simp; decide)) (hd1.mono (hG.le G1 (by simp)))) fun v G' _ h => dev_get h hdn)) (QOk_body _ _ _) (by first | exact .inl rfl | exact .inr ⟨_, _, rfl, rfl⟩) ?_
      rintro _ ⟨_, G6, ⟨dv, rfl, hd2⟩, hn6, rfl⟩
      have hg2 := good_mark hgd
      have hf2 : (markDev d).fuel = -1 := spent_fuel1 hf
      have hc2 : (markDev d).cache.length ≤ v + 1 := by show d.cache.length ≤ v + 1; omega
      generalize markDev d = d2 at hd2 hg2 hf2 hc2
      have hl16 : G1.Le G6 := hn6.le G1 (by simp)
      clear hn6
      obtain ⟨C1, n1, C2, n2, C3, n3, rfl, hfo⟩ := hd2.form
      clear hfo
      simp only [go_sem, Nat.reduceAdd, Nat.reduceSub, Nat.reduceMul, Nat.reduceEqDiff, Nat.reduceLT, Nat.reduceLeDiff, Nat.reduceBEq, Nat.reduceBNe, Int.reduceLT, Int.reduceLE, Int.reduceEq, Int.reduceAdd, Int.reduceSub, Int.reduceNeg, decide_true, decide_false, Bool.not_true, Bool.not_false, cond_true, cond_false, beq_self_eq_true, and_self, ne_eq, not_true_eq_false, not_false_eq_true, reduceCtorEq, Bool.true_beq, Bool.false_beq]
      exact ⟨by omega, again_ok (v + 1, d2, (C1, n1), (C2, n2), (C3, n3), G6) ⟨⟨by omega, by omega, hc2⟩, ScR.mono hl1 rawG_mono hl16, hg2, hf2, hd2⟩ (by simp only; omega) (by simp only [go_sem, Nat.reduceAdd, Nat.reduceSub, Nat.reduceMul, Nat.reduceEqDiff, Nat.reduceLT, Nat.reduceLeDiff, Nat.reduceBEq, Nat.reduceBNe, Int.reduceLT, Int.reduceLE, Int.reduceEq, Int.reduceAdd, Int.reduceSub, Int.reduceNeg, decide_true, decide_false, Bool.not_true, Bool.not_false, cond_true, cond_false, beq_self_eq_true, and_self, ne_eq, not_true_eq_false, not_false_eq_true, reduceCtorEq, Bool.true_beq, Bool.false_beq]; simp)⟩
    · have q2 : decide ((v : Int) < most) = false := by simpa using hlm
      simp only [go_sem, Nat.reduceAdd, Nat.reduceSub, Nat.reduceMul, Nat.reduceEqDiff, Nat.reduceLT, Nat.reduceLeDiff, Nat.reduceBEq, Nat.reduceBNe, Int.reduceLT, Int.reduceLE, Int.reduceEq, Int.reduceAdd, Int.reduceSub, Int.reduceNeg, decide_true, decide_false, Bool.not_true, Bool.not_false, cond_true, cond_false, beq_self_eq_true, and_self, ne_eq, not_true_eq_false, not_false_eq_true, reduceCtorEq, Bool.true_beq, Bool.false_beq, q1, q2]
      refine fin_ret (G := G0) Try.results34 ?_
      simp only [go_sem, Nat.reduceAdd, Nat.reduceSub, Nat.reduceMul, Nat.reduceEqDiff, Nat.reduceLT, Nat.reduceLeDiff, Nat.reduceBEq, Nat.reduceBNe, Int.reduceLT, Int.reduceLE, Int.reduceEq, Int.reduceAdd, Int.reduceSub, Int.reduceNeg, decide_true, decide_false, Bool.not_true, Bool.not_false, cond_true, cond_false, beq_self_eq_true, and_self, ne_eq, not_true_eq_false, not_false_eq_true, reduceCtorEq, Bool.true_beq, Bool.false_beq]
      intro a w' _ hle
      exact ⟨_, d, rfl, hd1.mono (hle G1 (by simp)), hgd, hf, by omega⟩
  · have q1 : decide ((v : Int) < (l.length : Int)) = false := by simp; omega
    simp only [go_sem, Nat.reduceAdd, Nat.reduceSub, Nat.reduceMul, Nat.reduceEqDiff, Nat.reduceLT, Nat.reduceLeDiff, Nat.reduceBEq, Nat.reduceBNe, Int.reduceLT, Int.reduceLE, Int.reduceEq, Int.reduceAdd, Int.reduceSub, Int.reduceNeg, decide_true, decide_false, Bool.not_true, Bool.not_false, cond_true, cond_false, beq_self_eq_true, and_self, ne_eq, not_true_eq_false, not_false_eq_true, reduceCtorEq, Bool.true_beq, Bool.false_beq, q1]
    refine fin_ret (G := G0) Try.results34 ?_
    simp only [go_sem, Nat.reduceAdd, Nat.reduceSub, Nat.reduceMul, Nat.reduceEqDiff, Nat.reduceLT, Nat.reduceLeDiff, Nat.reduceBEq, Nat.reduceBNe, Int.reduceLT, Int.reduceLE, Int.reduceEq, Int.reduceAdd, Int.reduceSub, Int.reduceNeg, decide_true, decide_false, Bool.not_true, Bool.not_false, cond_true, cond_false, beq_self_eq_true, and_self, ne_eq, not_true_eq_false, not_false_eq_true, reduceCtorEq, Bool.true_beq, Bool.false_beq]
    intro a w' _ hle
    exact ⟨_, d, rfl, hd1.mono (hle G1 (by simp)), hgd, hf, by omega⟩
end Go.Proofs.Ytomfladifefomaa
