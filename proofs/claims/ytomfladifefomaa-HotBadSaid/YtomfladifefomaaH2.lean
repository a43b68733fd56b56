/- 'hot.Write': the sectors that are put, one behind the other, and flushed. Conditions: as each law states them. -/
import Derived.Test.YtomfladifefomaaH1
namespace Go.Proofs.Ytomfladifefomaa
open Go.RowKit
set_option linter.unusedSimpArgs false
def firstOf (g : Geo) : Int := 2 + g.ring + 2 * g.area
def chunk (b : List UInt8) (i : Nat) : List UInt8 := (b.drop (i * 64)).take 64
theorem chunk_len (b : List UInt8) (i : Nat) : (chunk b i).length = min 64 (b.length - i * 64) := by simp [chunk]
theorem chunk_take (b : List UInt8) (i : Nat) : (b.drop (i * 64)).take (chunk b i).length = chunk b i := by
  unfold chunk
  rw [List.length_take, ← List.take_take, List.take_length]
def writeTo (g : Geo) (d : Dev) (l : List Int) (b : List UInt8) : Nat → Dev
  | 0 => d
  | i + 1 => match l[i]? with
    | some n => putDev (writeTo g d l b i) (firstOf g + n) (chunk b i)
    | none => writeTo g d l b i
theorem writeTo_succ {g : Geo} {d : Dev} {l : List Int} {b : List UInt8} {i : Nat} {n : Int} (h : l[i]? = some n) : writeTo g d l b (i + 1) = putDev (writeTo g d l b i) (firstOf g + n) (chunk b i) := by simp [writeTo, h]
theorem roomB_parts {g : Geo} {l : List Int} {size : Int} (h : roomB g l size = true) : (∀ j, j < l.length → okAt g.hot l j = true) ∧ 0 ≤ size ∧ size ≤ 600 ∧ (l.length : Int) = (size + 63) / 64 := by
  unfold roomB at h
  rw [Bool.and_eq_true] at h
  exact ⟨of_decide_eq_true h.1, of_decide_eq_true h.2⟩
theorem okAt_parts {hot : Int} {l : List Int} {j : Nat} {n : Int} (h : okAt hot l j = true) (hj : l[j]? = some n) : 0 ≤ n ∧ n < hot ∧ n ∉ l.take j := by
  unfold okAt at h
  rw [hj] at h
  simp only [Bool.not_eq_true', Bool.or_eq_false_iff, decide_eq_false_iff_not] at h
  exact ⟨by omega, by omega, h.2⟩
def WroteG (g : Geo) (d : Dev) (l : List Int) (b : List UInt8) (v : Value) (G : GW) : Prop :=
  (∃ dv, v = .tuple #[dv, .int .i64 0] ∧ DevG G dv (flushDev (writeTo g d l b l.length)) ∧ (writeTo g d l b l.length).fuel ≠ 0 ∧ GoodDev g (writeTo g d l b l.length)) ∨
  (∃ dv i, i ≤ l.length ∧ v = .tuple #[dv, .int .i64 10] ∧ DevG G dv (writeTo g d l b i) ∧ (writeTo g d l b i).fuel = 0 ∧ GoodDev g (writeTo g d l b i))
set_option maxRecDepth 100000 in
set_option maxHeartbeats 16000000 in
theorem write_does {g : Geo} (hg : GoodGeo g) {d : Dev} (hd : GoodDev g d) {dv lv bv : Value} {l : List Int} {b : List UInt8} (hroom : roomB g l (b.length : Int) = true) (hmost : d.cache.length ≤ 1000) {G0 : GW} (hW : G0.Wf) (hT : Tid bX G0) (h : DevG G0 dv d) (hl : IntsG G0 lv l) (hb : ByG G0 bv b) :
    Calls Try.prog 44 #[geoV g, dv, lv, bv] G0.w (Ret G0 fun v G => WroteG g d l b v G) := by
  obtain ⟨A, c, rfl, _, _⟩ := hl.form
  obtain ⟨Ab, cb, rfl, hb1, hb2⟩ := hb.form
  obtain ⟨hok, hz0, hz1, hz2⟩ := roomB_parts hroom
  have hfi : firstOf g = 2 + g.ring + 2 * g.area := rfl
  have := hg.r1; have := hg.r2; have := hg.a1; have := hg.a2; have := hg.h1; have := hg.h2
  obtain ⟨A1, k1, A2, k2, A3, k3, rfl, hfo⟩ := h.form
  clear hfo
  refine enter (G := G0) (n := 81) 3000 hW Try.func44 rfl Try.ntmps44 (by simp) ?_
  simp only [go_sem, Nat.reduceAdd, Nat.reduceSub, Nat.reduceMul, Nat.reduceEqDiff, Nat.reduceLT, Nat.reduceLeDiff, Nat.reduceBEq, Nat.reduceBNe, Int.reduceLT, Int.reduceLE, Int.reduceEq, Int.reduceAdd, Int.reduceSub, Int.reduceNeg, decide_true, decide_false, Bool.not_true, Bool.not_false, cond_true, cond_false, beq_self_eq_true, and_self, ne_eq, not_true_eq_false, not_false_eq_true, reduceCtorEq, Bool.true_beq, Bool.false_beq, geoV]
  intro g1 g2 g3
  refine plain_ok (N := 3000) (call_does (fun v G => v = .int .i64 0) rfl rfl (by kernel_rfl) rfl (by simp only [dOk_some, dOk_none, Nat.reduceLT]) (fun G hG => chk hg hd (h.mono (hG.le G0 (by simp))))) (QOk_body _ _ _) (by first | exact .inl rfl | exact .inr ⟨_, _, rfl, rfl⟩) ?_
  rintro _ ⟨v, G1, rfl, hn1, rfl⟩
  clear hn1
  simp only [go_sem, Nat.reduceAdd, Nat.reduceSub, Nat.reduceMul, Nat.reduceEqDiff, Nat.reduceLT, Nat.reduceLeDiff, Nat.reduceBEq, Nat.reduceBNe, Int.reduceLT, Int.reduceLE, Int.reduceEq, Int.reduceAdd, Int.reduceSub, Int.reduceNeg, decide_true, decide_false, Bool.not_true, Bool.not_false, cond_true, cond_false, beq_self_eq_true, and_self, ne_eq, not_true_eq_false, not_false_eq_true, reduceCtorEq, Bool.true_beq, Bool.false_beq]
  refine plain_ok (N := 3000) (call_does (fun v _ => v = .bool true) rfl rfl (by kernel_rfl) rfl (by simp only [dOk_some, dOk_none, Nat.reduceLT]) (fun G hG => ret_mono (room_does (g := g) (size := (b.length : Int)) hG.wf (hl.mono (hG.le G0 (by simp)))) fun v G' _ h => by rw [h, hroom])) (QOk_body _ _ _) (by first | exact .inl rfl | exact .inr ⟨_, _, rfl, rfl⟩) ?_
  rintro _ ⟨_, G2, rfl, hn2, rfl⟩
  have hl02 : G0.Le G2 := hn2.le G0 (by simp)
  clear hn2
  simp only [go_sem, Nat.reduceAdd, Nat.reduceSub, Nat.reduceMul, Nat.reduceEqDiff, Nat.reduceLT, Nat.reduceLeDiff, Nat.reduceBEq, Nat.reduceBNe, Int.reduceLT, Int.reduceLE, Int.reduceEq, Int.reduceAdd, Int.reduceSub, Int.reduceNeg, decide_true, decide_false, Bool.not_true, Bool.not_false, cond_true, cond_false, beq_self_eq_true, and_self, ne_eq, not_true_eq_false, not_false_eq_true, reduceCtorEq, Bool.true_beq, Bool.false_beq]
  refine loop_ok (N := 3000) (ι := Nat × Dev × (Option Addr × Nat) × (Option Addr × Nat) × (Option Addr × Nat) × GW)
    (fun i => match i with | (v, d, (B1, m1), (B2, m2), (B3, m3), G) => ⟨[(2, .c (.v (.slice A l.length c))), (3, .c (.v (.slice Ab b.length cb))), (4, .c (.p 0 g1 0)), (5, .c (.p 1 g2 0)), (8, .c (.p 2 g3 0)), (9, .c (.v (.int .i64 0))), (31, .c (.v (.slice A l.length c))), (32, .c (.v (.int .i64 (l.length : Int)))), (33, .c (.v (.int .i64 (v : Int))))],
      [⟨2, g3, 37, [.v (.slice none 0 0), .v (.slice none 0 0), .v (.slice none 0 0), .v (.int .i64 0)]⟩, ⟨1, g2, 37, [.v (.slice B1 d.safe.length m1), .v (.slice B2 d.cache.length m2), .v (.slice B3 d.vols.length m3), .v (.int .i64 d.fuel)]⟩, ⟨0, g1, 32, [.v (.int .i64 g.ring), .v (.int .i64 g.area), .v (.int .i64 g.hot), .v (.int .i64 g.volume), .v (.int .i64 g.volumes)]⟩], [], [], [G], 3⟩)
    (fun i => match i with | (v, x, (B1, m1), (B2, m2), (B3, m3), G) => (v ≤ l.length ∧ x = writeTo g d l b v ∧ x.cache.length ≤ 1000 + v) ∧ GoodDev g x ∧ DevG G (.agg #[.slice B1 x.safe.length m1, .slice B2 x.cache.length m2, .slice B3 x.vols.length m3, .int .i64 x.fuel]) x ∧ IntsG G (.slice A l.length c) l ∧ ByG G (.slice Ab b.length cb) b)
    (fun i => l.length - i.1) (QOk_body _ _ _) (0, d, (A1, k1), (A2, k2), (A3, k3), G2) ⟨⟨by omega, rfl, by omega⟩, hd, h.mono hl02, hl.mono hl02, hb.mono hl02⟩ (by simp only [go_sem, Nat.reduceAdd, Nat.reduceSub, Nat.reduceMul, Nat.reduceEqDiff, Nat.reduceLT, Nat.reduceLeDiff, Nat.reduceBEq, Nat.reduceBNe, Int.reduceLT, Int.reduceLE, Int.reduceEq, Int.reduceAdd, Int.reduceSub, Int.reduceNeg, decide_true, decide_false, Bool.not_true, Bool.not_false, cond_true, cond_false, beq_self_eq_true, and_self, ne_eq, not_true_eq_false, not_false_eq_true, reduceCtorEq, Bool.true_beq, Bool.false_beq]; simp) ?_
  clear h hl hb hl02 A1 k1 A2 k2 A3 k3 G1 G2
  rintro ⟨v, x, ⟨B1, m1⟩, ⟨B2, m2⟩, ⟨B3, m3⟩, G2⟩ ⟨⟨hv, ex, hxc⟩, hgx, hdx, hl, hb⟩
  simp only
  have hsx : (x.safe.length : Int) = 2 + g.ring + 2 * g.area + g.hot := hgx.safe
  have hl10 : l.length ≤ 10 := by omega
  by_cases hlt : v < l.length
  · have q1 : decide ((v : Int) < (l.length : Int)) = true := decide_eq_true (by omega)
    obtain ⟨y, hy⟩ : ∃ y, l[v]? = some y := ⟨_, List.getElem?_eq_getElem hlt⟩
    obtain ⟨y0, y1, _⟩ := okAt_parts (hok v hlt) hy
    have hcl := chunk_len b v
    simp only [go_sem, Nat.reduceAdd, Nat.reduceSub, Nat.reduceMul, Nat.reduceEqDiff, Nat.reduceLT, Nat.reduceLeDiff, Nat.reduceBEq, Nat.reduceBNe, Int.reduceLT, Int.reduceLE, Int.reduceEq, Int.reduceAdd, Int.reduceSub, Int.reduceNeg, decide_true, decide_false, Bool.not_true, Bool.not_false, cond_true, cond_false, beq_self_eq_true, and_self, ne_eq, not_true_eq_false, not_false_eq_true, reduceCtorEq, Bool.true_beq, Bool.false_beq, q1]
    refine plain_ok (N := 3000) (elem_does (R := IntG) (l := l) (m := v) rfl tySlice28 tySize3 rfl rfl (by simp only [dOk_some, dOk_none, Nat.reduceLT]) rfl hy (fun G hG => hl.mono (hG.le G2 (by simp)))) (QOk_body _ _ _) (by first | exact .inl rfl | exact .inr ⟨_, _, rfl, rfl⟩) ?_
    rintro _ ⟨gw, ow, cs, G3, _, rfl, rfl⟩
    simp only [go_sem, Nat.reduceAdd, Nat.reduceSub, Nat.reduceMul, Nat.reduceEqDiff, Nat.reduceLT, Nat.reduceLeDiff, Nat.reduceBEq, Nat.reduceBNe, Int.reduceLT, Int.reduceLE, Int.reduceEq, Int.reduceAdd, Int.reduceSub, Int.reduceNeg, decide_true, decide_false, Bool.not_true, Bool.not_false, cond_true, cond_false, beq_self_eq_true, and_self, ne_eq, not_true_eq_false, not_false_eq_true, reduceCtorEq, Bool.true_beq, Bool.false_beq]
    refine draw_ok (N := 3000) (.take 0 (.take 1 (.take 2 (.take 4 (.take 6 (.take 7 (.take 8 (.take 9 (.take 10 (.take 11 (.take 12 (.take 13 (.take 14 (.alt 3 (.take 5 (.alt 15 (.alt 16 (.take 17 (.take 18 (.take 19 (.alt 20 (.alt 21 (.take 22 .done) .last) .last)))) (.alt 20 (.alt 16 (.take 17 (.take 18 (.take 19 (.alt 21 (.take 22 .done) .last)))) .last) .last)) (.alt 20 (.alt 15 (.alt 16 (.take 17 (.take 18 (.take 19 (.alt 21 (.take 22 .done) .last)))) .last) .last) .last))) (.alt 15 (.alt 3 (.take 5 (.alt 16 (.take 17 (.take 18 (.take 19 (.alt 20 (.alt 21 (.take 22 .done) .last) .last)))) (.alt 20 (.alt 16 (.take 17 (.take 18 (.take 19 (.alt 21 (.take 22 .done) .last)))) .last) .last))) (.alt 20 (.alt 3 (.take 5 (.alt 16 (.take 17 (.take 18 (.take 19 (.alt 21 (.take 22 .done) .last)))) .last)) .last) .last)) (.alt 20 (.alt 3 (.take 5 (.alt 15 (.alt 16 (.take 17 (.take 18 (.take 19 (.alt 21 (.take 22 .done) .last)))) .last) .last)) (.alt 15 (.alt 3 (.take 5 (.alt 16 (.take 17 (.take 18 (.take 19 (.alt 21 (.take 22 .done) .last)))) .last)) .last) .last)) .last)))))))))))))))) [] (QOk_body _ _ _) follows_mixed (by kernel_rfl) (by kernel_rfl) ?_
    simp only [go_sem, Nat.reduceAdd, Nat.reduceSub, Nat.reduceMul, Nat.reduceEqDiff, Nat.reduceLT, Nat.reduceLeDiff, Nat.reduceBEq, Nat.reduceBNe, Int.reduceLT, Int.reduceLE, Int.reduceEq, Int.reduceAdd, Int.reduceSub, Int.reduceNeg, decide_true, decide_false, Bool.not_true, Bool.not_false, cond_true, cond_false, beq_self_eq_true, and_self, ne_eq, not_true_eq_false, not_false_eq_true, reduceCtorEq, Bool.true_beq, Bool.false_beq]
    refine ⟨by omega, by omega, by omega, ?_⟩
    by_cases hf0 : x.fuel = 0
    · have he : putErr x (2 + g.ring + 2 * g.area + y) (chunk b v).length = 10 := by
        unfold putErr
        rw [if_neg (by omega), if_neg (by omega), if_neg (by omega), if_pos hf0]
      refine ⟨?_, ?_, ?_⟩
      · refine any_ok2 (N := 3000) (call_does (fun v _ => v = .int .i64 (2 + g.ring + 2 * g.area)) rfl rfl (by kernel_rfl) rfl (by simp only [dOk_some, dOk_none, Nat.reduceLT]) (fun G hG => first_does hg hG.wf)) (QOk_body _ _ _) rfl (by first | exact .inl rfl | exact .inr ⟨_, _, rfl, rfl⟩) (by intro _ hK; first | (obtain ⟨_, _, _, _, rfl⟩ := hK; exact ⟨rfl, fun _ h => h⟩) | (obtain ⟨_, _, rfl⟩ := hK; exact ⟨rfl, fun _ h => h⟩) | (obtain ⟨_, _, _, _, _, _, rfl⟩ := hK; exact ⟨rfl, fun _ h => List.mem_cons_of_mem _ h⟩) | (obtain ⟨_, _, _, _, _, _, _, rfl⟩ := hK; exact ⟨rfl, fun _ h => List.mem_cons_of_mem _ h⟩) | (obtain rfl := hK; exact ⟨rfl, fun _ h => h⟩)) ?_
        rintro _ ⟨_, G4, rfl, hn4, rfl⟩
        clear hn4
        simp only [go_sem, Nat.reduceAdd, Nat.reduceSub, Nat.reduceMul, Nat.reduceEqDiff, Nat.reduceLT, Nat.reduceLeDiff, Nat.reduceBEq, Nat.reduceBNe, Int.reduceLT, Int.reduceLE, Int.reduceEq, Int.reduceAdd, Int.reduceSub, Int.reduceNeg, decide_true, decide_false, Bool.not_true, Bool.not_false, cond_true, cond_false, beq_self_eq_true, and_self, ne_eq, not_true_eq_false, not_false_eq_true, reduceCtorEq, Bool.true_beq, Bool.false_beq]
        refine ⟨by omega, ?_⟩
        refine ⟨?_, ?_⟩
        · refine any_ok2 (N := 3000) (cut_does (v * 64) (chunk b v).length (cb - v * 64) rfl tySlice23 tySize5 rfl ⟨_, _, rfl, by omega⟩ ⟨_, _, rfl, by omega⟩ (show v * 64 + (cb - v * 64) = cb from by omega) (by simp) (by simp only [dOk_some, dOk_none, Nat.reduceLT]) (by omega) (by omega) (by omega) (fun G hG => (hb.mono (hG.le G2 (by simp)) : Sl _ _ _ _ _ _))) (QOk_body _ _ _) rfl (by first | exact .inl rfl | exact .inr ⟨_, _, rfl, rfl⟩) (by intro _ hK; first | (obtain ⟨_, _, _, _, rfl⟩ := hK; exact ⟨rfl, fun _ h => h⟩) | (obtain ⟨_, _, rfl⟩ := hK; exact ⟨rfl, fun _ h => h⟩) | (obtain ⟨_, _, _, _, _, _, rfl⟩ := hK; exact ⟨rfl, fun _ h => List.mem_cons_of_mem _ h⟩) | (obtain ⟨_, _, _, _, _, _, _, rfl⟩ := hK; exact ⟨rfl, fun _ h => List.mem_cons_of_mem _ h⟩) | (obtain rfl := hK; exact ⟨rfl, fun _ h => h⟩)) ?_
          rintro _ ⟨Ac, G5, hs5, hn5, rfl⟩
          clear hn5
          have hch := byG_cut hs5 (by omega)
          rw [chunk_take] at hch
          simp only [go_sem, Nat.reduceAdd, Nat.reduceSub, Nat.reduceMul, Nat.reduceEqDiff, Nat.reduceLT, Nat.reduceLeDiff, Nat.reduceBEq, Nat.reduceBNe, Int.reduceLT, Int.reduceLE, Int.reduceEq, Int.reduceAdd, Int.reduceSub, Int.reduceNeg, decide_true, decide_false, Bool.not_true, Bool.not_false, cond_true, cond_false, beq_self_eq_true, and_self, ne_eq, not_true_eq_false, not_false_eq_true, reduceCtorEq, Bool.true_beq, Bool.false_beq]
          refine ⟨?_, ?_⟩
          · refine any_ok2 (N := 3000) (call_does (fun v G => v = .tuple #[.agg #[.slice none 0 0, .slice none 0 0, .slice none 0 0, .int .i64 0], .int .i64 10]) rfl rfl (by kernel_rfl) rfl (by simp only [dOk_some, dOk_none, Nat.reduceLT]) (fun G hG => ret_mono (put_does (n := 2 + g.ring + 2 * g.area + y) (bs := chunk b v) hg hgx hG.wf (tidB hG (fun _ h => h) hT hW rfl rfl (by simp) (by simp; decide)) (hdx.mono (hG.le G2 (by simp))) (hch.mono (hG.le G5 (by simp)))) fun v G' _ h => dev_bad h he (by decide))) (QOk_body _ _ _) rfl (by first | exact .inl rfl | exact .inr ⟨_, _, rfl, rfl⟩) (by intro _ hK; first | (obtain ⟨_, _, _, _, rfl⟩ := hK; exact ⟨rfl, fun _ h => h⟩) | (obtain ⟨_, _, rfl⟩ := hK; exact ⟨rfl, fun _ h => h⟩) | (obtain ⟨_, _, _, _, _, _, rfl⟩ := hK; exact ⟨rfl, fun _ h => List.mem_cons_of_mem _ h⟩) | (obtain ⟨_, _, _, _, _, _, _, rfl⟩ := hK; exact ⟨rfl, fun _ h => List.mem_cons_of_mem _ h⟩) | (obtain rfl := hK; exact ⟨rfl, fun _ h => h⟩)) ?_
            rintro _ ⟨_, G6, rfl, hn6, rfl⟩
            clear hn6
            simp only [go_sem, Nat.reduceAdd, Nat.reduceSub, Nat.reduceMul, Nat.reduceEqDiff, Nat.reduceLT, Nat.reduceLeDiff, Nat.reduceBEq, Nat.reduceBNe, Int.reduceLT, Int.reduceLE, Int.reduceEq, Int.reduceAdd, Int.reduceSub, Int.reduceNeg, decide_true, decide_false, Bool.not_true, Bool.not_false, cond_true, cond_false, beq_self_eq_true, and_self, ne_eq, not_true_eq_false, not_false_eq_true, reduceCtorEq, Bool.true_beq, Bool.false_beq]
            intro g6
            refine fin_ret (G := G0) Try.results44 ?_
            simp only [go_sem, Nat.reduceAdd, Nat.reduceSub, Nat.reduceMul, Nat.reduceEqDiff, Nat.reduceLT, Nat.reduceLeDiff, Nat.reduceBEq, Nat.reduceBNe, Int.reduceLT, Int.reduceLE, Int.reduceEq, Int.reduceAdd, Int.reduceSub, Int.reduceNeg, decide_true, decide_false, Bool.not_true, Bool.not_false, cond_true, cond_false, beq_self_eq_true, and_self, ne_eq, not_true_eq_false, not_false_eq_true, reduceCtorEq, Bool.true_beq, Bool.false_beq]
            intro a w' _ hle
            exact .inr ⟨_, v, by omega, rfl, by rw [← ex]; exact hdx.mono (hle G2 (by simp)), by rw [← ex]; exact hf0, by rw [← ex]; exact hgx⟩
          · intro g6
            refine any_ok2 (N := 3000) (call_does (fun v G => v = .tuple #[.agg #[.slice none 0 0, .slice none 0 0, .slice none 0 0, .int .i64 0], .int .i64 10]) rfl rfl (by kernel_rfl) rfl (by simp only [dOk_some, dOk_none, Nat.reduceLT]) (fun G hG => ret_mono (put_does (n := 2 + g.ring + 2 * g.area + y) (bs := chunk b v) hg hgx hG.wf (tidB hG (fun _ h => h) hT hW rfl rfl (by simp) (by simp; decide)) (hdx.mono (hG.le G2 (by simp))) (hch.mono (hG.le G5 (by simp)))) fun v G' _ h => dev_bad h he (by decide))) (QOk_body _ _ _) rfl (by first | exact .inl rfl | exact .inr ⟨_, _, rfl, rfl⟩) (by intro _ hK; first | (obtain ⟨_, _, _, _, rfl⟩ := hK; exact ⟨rfl, fun _ h => h⟩) | (obtain ⟨_, _, rfl⟩ := hK; exact ⟨rfl, fun _ h => h⟩) | (obtain ⟨_, _, _, _, _, _, rfl⟩ := hK; exact ⟨rfl, fun _ h => List.mem_cons_of_mem _ h⟩) | (obtain ⟨_, _, _, _, _, _, _, rfl⟩ := hK; exact ⟨rfl, fun _ h => List.mem_cons_of_mem _ h⟩) | (obtain rfl := hK; exact ⟨rfl, fun _ h => h⟩)) ?_
            rintro _ ⟨_, G6, rfl, hn6, rfl⟩
            clear hn6
            simp only [go_sem, Nat.reduceAdd, Nat.reduceSub, Nat.reduceMul, Nat.reduceEqDiff, Nat.reduceLT, Nat.reduceLeDiff, Nat.reduceBEq, Nat.reduceBNe, Int.reduceLT, Int.reduceLE, Int.reduceEq, Int.reduceAdd, Int.reduceSub, Int.reduceNeg, decide_true, decide_false, Bool.not_true, Bool.not_false, cond_true, cond_false, beq_self_eq_true, and_self, ne_eq, not_true_eq_false, not_false_eq_true, reduceCtorEq, Bool.true_beq, Bool.false_beq]
            refine fin_ret (G := G0) Try.results44 ?_
            simp only [go_sem, Nat.reduceAdd, Nat.reduceSub, Nat.reduceMul, Nat.reduceEqDiff, Nat.reduceLT, Nat.reduceLeDiff, Nat.reduceBEq, Nat.reduceBNe, Int.reduceLT, Int.reduceLE, Int.reduceEq, Int.reduceAdd, Int.reduceSub, Int.reduceNeg, decide_true, decide_false, Bool.not_true, Bool.not_false, cond_true, cond_false, beq_self_eq_true, and_self, ne_eq, not_true_eq_false, not_false_eq_true, reduceCtorEq, Bool.true_beq, Bool.false_beq]
            intro a w' _ hle
            exact .inr ⟨_, v, by omega, rfl, by rw [← ex]; exact hdx.mono (hle G2 (by simp)), by rw [← ex]; exact hf0, by rw [← ex]; exact hgx⟩
        · intro g6
          refine any_ok2 (N := 3000) (cut_does (v * 64) (chunk b v).length (cb - v * 64) rfl tySlice23 tySize5 rfl ⟨_, _, rfl, by omega⟩ ⟨_, _, rfl, by omega⟩ (show v * 64 + (cb - v * 64) = cb from by omega) (by simp) (by simp only [dOk_some, dOk_none, Nat.reduceLT]) (by omega) (by omega) (by omega) (fun G hG => (hb.mono (hG.le G2 (by simp)) : Sl _ _ _ _ _ _))) (QOk_body _ _ _) rfl (by first | exact .inl rfl | exact .inr ⟨_, _, rfl, rfl⟩) (by intro _ hK; first | (obtain ⟨_, _, _, _, rfl⟩ := hK; exact ⟨rfl, fun _ h => h⟩) | (obtain ⟨_, _, rfl⟩ := hK; exact ⟨rfl, fun _ h => h⟩) | (obtain ⟨_, _, _, _, _, _, rfl⟩ := hK; exact ⟨rfl, fun _ h => List.mem_cons_of_mem _ h⟩) | (obtain ⟨_, _, _, _, _, _, _, rfl⟩ := hK; exact ⟨rfl, fun _ h => List.mem_cons_of_mem _ h⟩) | (obtain rfl := hK; exact ⟨rfl, fun _ h => h⟩)) ?_
          rintro _ ⟨Ac, G5, hs5, hn5, rfl⟩
          clear hn5
          have hch := byG_cut hs5 (by omega)
          rw [chunk_take] at hch
          simp only [go_sem, Nat.reduceAdd, Nat.reduceSub, Nat.reduceMul, Nat.reduceEqDiff, Nat.reduceLT, Nat.reduceLeDiff, Nat.reduceBEq, Nat.reduceBNe, Int.reduceLT, Int.reduceLE, Int.reduceEq, Int.reduceAdd, Int.reduceSub, Int.reduceNeg, decide_true, decide_false, Bool.not_true, Bool.not_false, cond_true, cond_false, beq_self_eq_true, and_self, ne_eq, not_true_eq_false, not_false_eq_true, reduceCtorEq, Bool.true_beq, Bool.false_beq]
          refine any_ok2 (N := 3000) (call_does (fun v G => v = .tuple #[.agg #[.slice none 0 0, .slice none 0 0, .slice none 0 0, .int .i64 0], .int .i64 10]) rfl rfl (by kernel_rfl) rfl (by simp only [dOk_some, dOk_none, Nat.reduceLT]) (fun G hG => ret_mono (put_does (n := 2 + g.ring + 2 * g.area + y) (bs := chunk b v) hg hgx hG.wf (tidB hG (fun _ h => h) hT hW rfl rfl (by simp) (by simp; decide)) (hdx.mono (hG.le G2 (by simp))) (hch.mono (hG.le G5 (by simp)))) fun v G' _ h => dev_bad h he (by decide))) (QOk_body _ _ _) rfl (by first | exact .inl rfl | exact .inr ⟨_, _, rfl, rfl⟩) (by intro _ hK; first | (obtain ⟨_, _, _, _, rfl⟩ := hK; exact ⟨rfl, fun _ h => h⟩) | (obtain ⟨_, _, rfl⟩ := hK; exact ⟨rfl, fun _ h => h⟩) | (obtain ⟨_, _, _, _, _, _, rfl⟩ := hK; exact ⟨rfl, fun _ h => List.mem_cons_of_mem _ h⟩) | (obtain ⟨_, _, _, _, _, _, _, rfl⟩ := hK; exact ⟨rfl, fun _ h => List.mem_cons_of_mem _ h⟩) | (obtain rfl := hK; exact ⟨rfl, fun _ h => h⟩)) ?_
          rintro _ ⟨_, G6, rfl, hn6, rfl⟩
          clear hn6
          simp only [go_sem, Nat.reduceAdd, Nat.reduceSub, Nat.reduceMul, Nat.reduceEqDiff, Nat.reduceLT, Nat.reduceLeDiff, Nat.reduceBEq, Nat.reduceBNe, Int.reduceLT, Int.reduceLE, Int.reduceEq, Int.reduceAdd, Int.reduceSub, Int.reduceNeg, decide_true, decide_false, Bool.not_true, Bool.not_false, cond_true, cond_false, beq_self_eq_true, and_self, ne_eq, not_true_eq_false, not_false_eq_true, reduceCtorEq, Bool.true_beq, Bool.false_beq]
          refine fin_ret (G := G0) Try.results44 ?_
          simp only [go_sem, Nat.reduceAdd, Nat.reduceSub, Nat.reduceMul, Nat.reduceEqDiff, Nat.reduceLT, Nat.reduceLeDiff, Nat.reduceBEq, Nat.reduceBNe, Int.reduceLT, Int.reduceLE, Int.reduceEq, Int.reduceAdd, Int.reduceSub, Int.reduceNeg, decide_true, decide_false, Bool.not_true, Bool.not_false, cond_true, cond_false, beq_self_eq_true, and_self, ne_eq, not_true_eq_false, not_false_eq_true, reduceCtorEq, Bool.true_beq, Bool.false_beq]
          intro a w' _ hle
          exact .inr ⟨_, v, by omega, rfl, by rw [← ex]; exact hdx.mono (hle G2 (by simp)), by rw [← ex]; exact hf0, by rw [← ex]; exact hgx⟩
      · refine any_ok2 (N := 3000) (cut_does (v * 64) (chunk b v).length (cb - v * 64) rfl tySlice23 tySize5 rfl ⟨_, _, rfl, by omega⟩ ⟨_, _, rfl, by omega⟩ (show v * 64 + (cb - v * 64) = cb from by omega) (by simp) (by simp only [dOk_some, dOk_none, Nat.reduceLT]) (by omega) (by omega) (by omega) (fun G hG => (hb.mono (hG.le G2 (by simp)) : Sl _ _ _ _ _ _))) (QOk_body _ _ _) rfl (by first | exact .inl rfl | exact .inr ⟨_, _, rfl, rfl⟩) (by intro _ hK; first | (obtain ⟨_, _, _, _, rfl⟩ := hK; exact ⟨rfl, fun _ h => h⟩) | (obtain ⟨_, _, rfl⟩ := hK; exact ⟨rfl, fun _ h => h⟩) | (obtain ⟨_, _, _, _, _, _, rfl⟩ := hK; exact ⟨rfl, fun _ h => List.mem_cons_of_mem _ h⟩) | (obtain ⟨_, _, _, _, _, _, _, rfl⟩ := hK; exact ⟨rfl, fun _ h => List.mem_cons_of_mem _ h⟩) | (obtain rfl := hK; exact ⟨rfl, fun _ h => h⟩)) ?_
        rintro _ ⟨Ac, G5, hs5, hn5, rfl⟩
        clear hn5
        have hch := byG_cut hs5 (by omega)
        rw [chunk_take] at hch
        simp only [go_sem, Nat.reduceAdd, Nat.reduceSub, Nat.reduceMul, Nat.reduceEqDiff, Nat.reduceLT, Nat.reduceLeDiff, Nat.reduceBEq, Nat.reduceBNe, Int.reduceLT, Int.reduceLE, Int.reduceEq, Int.reduceAdd, Int.reduceSub, Int.reduceNeg, decide_true, decide_false, Bool.not_true, Bool.not_false, cond_true, cond_false, beq_self_eq_true, and_self, ne_eq, not_true_eq_false, not_false_eq_true, reduceCtorEq, Bool.true_beq, Bool.false_beq]
        refine ⟨?_, ?_⟩
        · refine any_ok2 (N := 3000) (call_does (fun v _ => v = .int .i64 (2 + g.ring + 2 * g.area)) rfl rfl (by kernel_rfl) rfl (by simp only [dOk_some, dOk_none, Nat.reduceLT]) (fun G hG => first_does hg hG.wf)) (QOk_body _ _ _) rfl (by first | exact .inl rfl | exact .inr ⟨_, _, rfl, rfl⟩) (by intro _ hK; first | (obtain ⟨_, _, _, _, rfl⟩ := hK; exact ⟨rfl, fun _ h => h⟩) | (obtain ⟨_, _, rfl⟩ := hK; exact ⟨rfl, fun _ h => h⟩) | (obtain ⟨_, _, _, _, _, _, rfl⟩ := hK; exact ⟨rfl, fun _ h => List.mem_cons_of_mem _ h⟩) | (obtain ⟨_, _, _, _, _, _, _, rfl⟩ := hK; exact ⟨rfl, fun _ h => List.mem_cons_of_mem _ h⟩) | (obtain rfl := hK; exact ⟨rfl, fun _ h => h⟩)) ?_
          rintro _ ⟨_, G4, rfl, hn4, rfl⟩
          clear hn4
          simp only [go_sem, Nat.reduceAdd, Nat.reduceSub, Nat.reduceMul, Nat.reduceEqDiff, Nat.reduceLT, Nat.reduceLeDiff, Nat.reduceBEq, Nat.reduceBNe, Int.reduceLT, Int.reduceLE, Int.reduceEq, Int.reduceAdd, Int.reduceSub, Int.reduceNeg, decide_true, decide_false, Bool.not_true, Bool.not_false, cond_true, cond_false, beq_self_eq_true, and_self, ne_eq, not_true_eq_false, not_false_eq_true, reduceCtorEq, Bool.true_beq, Bool.false_beq]
          refine ⟨by omega, ?_⟩
          refine ⟨?_, ?_⟩
          · refine any_ok2 (N := 3000) (call_does (fun v G => v = .tuple #[.agg #[.slice none 0 0, .slice none 0 0, .slice none 0 0, .int .i64 0], .int .i64 10]) rfl rfl (by kernel_rfl) rfl (by simp only [dOk_some, dOk_none, Nat.reduceLT]) (fun G hG => ret_mono (put_does (n := 2 + g.ring + 2 * g.area + y) (bs := chunk b v) hg hgx hG.wf (tidB hG (fun _ h => h) hT hW rfl rfl (by simp) (by simp; decide)) (hdx.mono (hG.le G2 (by simp))) (hch.mono (hG.le G5 (by simp)))) fun v G' _ h => dev_bad h he (by decide))) (QOk_body _ _ _) rfl (by first | exact .inl rfl | exact .inr ⟨_, _, rfl, rfl⟩) (by intro _ hK; first | (obtain ⟨_, _, _, _, rfl⟩ := hK; exact ⟨rfl, fun _ h => h⟩) | (obtain ⟨_, _, rfl⟩ := hK; exact ⟨rfl, fun _ h => h⟩) | (obtain ⟨_, _, _, _, _, _, rfl⟩ := hK; exact ⟨rfl, fun _ h => List.mem_cons_of_mem _ h⟩) | (obtain ⟨_, _, _, _, _, _, _, rfl⟩ := hK; exact ⟨rfl, fun _ h => List.mem_cons_of_mem _ h⟩) | (obtain rfl := hK; exact ⟨rfl, fun _ h => h⟩)) ?_
            rintro _ ⟨_, G6, rfl, hn6, rfl⟩
            clear hn6
            simp only [go_sem, Nat.reduceAdd, Nat.reduceSub, Nat.reduceMul, Nat.reduceEqDiff, Nat.reduceLT, Nat.reduceLeDiff, Nat.reduceBEq, Nat.reduceBNe, Int.reduceLT, Int.reduceLE, Int.reduceEq, Int.reduceAdd, Int.reduceSub, Int.reduceNeg, decide_true, decide_false, Bool.not_true, Bool.not_false, cond_true, cond_false, beq_self_eq_true, and_self, ne_eq, not_true_eq_false, not_false_eq_true, reduceCtorEq, Bool.true_beq, Bool.false_beq]
            intro g6
            refine fin_ret (G := G0) Try.results44 ?_
            simp only [go_sem, Nat.reduceAdd, Nat.reduceSub, Nat.reduceMul, Nat.reduceEqDiff, Nat.reduceLT, Nat.reduceLeDiff, Nat.reduceBEq, Nat.reduceBNe, Int.reduceLT, Int.reduceLE, Int.reduceEq, Int.reduceAdd, Int.reduceSub, Int.reduceNeg, decide_true, decide_false, Bool.not_true, Bool.not_false, cond_true, cond_false, beq_self_eq_true, and_self, ne_eq, not_true_eq_false, not_false_eq_true, reduceCtorEq, Bool.true_beq, Bool.false_beq]
            intro a w' _ hle
            exact .inr ⟨_, v, by omega, rfl, by rw [← ex]; exact hdx.mono (hle G2 (by simp)), by rw [← ex]; exact hf0, by rw [← ex]; exact hgx⟩
          · intro g6
            refine any_ok2 (N := 3000) (call_does (fun v G => v = .tuple #[.agg #[.slice none 0 0, .slice none 0 0, .slice none 0 0, .int .i64 0], .int .i64 10]) rfl rfl (by kernel_rfl) rfl (by simp only [dOk_some, dOk_none, Nat.reduceLT]) (fun G hG => ret_mono (put_does (n := 2 + g.ring + 2 * g.area + y) (bs := chunk b v) hg hgx hG.wf (tidB hG (fun _ h => h) hT hW rfl rfl (by simp) (by simp; decide)) (hdx.mono (hG.le G2 (by simp))) (hch.mono (hG.le G5 (by simp)))) fun v G' _ h => dev_bad h he (by decide))) (QOk_body _ _ _) rfl (by first | exact .inl rfl | exact .inr ⟨_, _, rfl, rfl⟩) (by intro _ hK; first | (obtain ⟨_, _, _, _, rfl⟩ := hK; exact ⟨rfl, fun _ h => h⟩) | (obtain ⟨_, _, rfl⟩ := hK; exact ⟨rfl, fun _ h => h⟩) | (obtain ⟨_, _, _, _, _, _, rfl⟩ := hK; exact ⟨rfl, fun _ h => List.mem_cons_of_mem _ h⟩) | (obtain ⟨_, _, _, _, _, _, _, rfl⟩ := hK; exact ⟨rfl, fun _ h => List.mem_cons_of_mem _ h⟩) | (obtain rfl := hK; exact ⟨rfl, fun _ h => h⟩)) ?_
            rintro _ ⟨_, G6, rfl, hn6, rfl⟩
            clear hn6
            simp only [go_sem, Nat.reduceAdd, Nat.reduceSub, Nat.reduceMul, Nat.reduceEqDiff, Nat.reduceLT, Nat.reduceLeDiff, Nat.reduceBEq, Nat.reduceBNe, Int.reduceLT, Int.reduceLE, Int.reduceEq, Int.reduceAdd, Int.reduceSub, Int.reduceNeg, decide_true, decide_false, Bool.not_true, Bool.not_false, cond_true, cond_false, beq_self_eq_true, and_self, ne_eq, not_true_eq_false, not_false_eq_true, reduceCtorEq, Bool.true_beq, Bool.false_beq]
            refine fin_ret (G := G0) Try.results44 ?_
            simp only [go_sem, Nat.reduceAdd, Nat.reduceSub, Nat.reduceMul, Nat.reduceEqDiff, Nat.reduceLT, Nat.reduceLeDiff, Nat.reduceBEq, Nat.reduceBNe, Int.reduceLT, Int.reduceLE, Int.reduceEq, Int.reduceAdd, Int.reduceSub, Int.reduceNeg, decide_true, decide_false, Bool.not_true, Bool.not_false, cond_true, cond_false, beq_self_eq_true, and_self, ne_eq, not_true_eq_false, not_false_eq_true, reduceCtorEq, Bool.true_beq, Bool.false_beq]
            intro a w' _ hle
            exact .inr ⟨_, v, by omega, rfl, by rw [← ex]; exact hdx.mono (hle G2 (by simp)), by rw [← ex]; exact hf0, by rw [← ex]; exact hgx⟩
        · intro g6
          refine any_ok2 (N := 3000) (call_does (fun v _ => v = .int .i64 (2 + g.ring + 2 * g.area)) rfl rfl (by kernel_rfl) rfl (by simp only [dOk_some, dOk_none, Nat.reduceLT]) (fun G hG => first_does hg hG.wf)) (QOk_body _ _ _) rfl (by first | exact .inl rfl | exact .inr ⟨_, _, rfl, rfl⟩) (by intro _ hK; first | (obtain ⟨_, _, _, _, rfl⟩ := hK; exact ⟨rfl, fun _ h => h⟩) | (obtain ⟨_, _, rfl⟩ := hK; exact ⟨rfl, fun _ h => h⟩) | (obtain ⟨_, _, _, _, _, _, rfl⟩ := hK; exact ⟨rfl, fun _ h => List.mem_cons_of_mem _ h⟩) | (obtain ⟨_, _, _, _, _, _, _, rfl⟩ := hK; exact ⟨rfl, fun _ h => List.mem_cons_of_mem _ h⟩) | (obtain rfl := hK; exact ⟨rfl, fun _ h => h⟩)) ?_
          rintro _ ⟨_, G4, rfl, hn4, rfl⟩
          clear hn4
          simp only [go_sem, Nat.reduceAdd, Nat.reduceSub, Nat.reduceMul, Nat.reduceEqDiff, Nat.reduceLT, Nat.reduceLeDiff, Nat.reduceBEq, Nat.reduceBNe, Int.reduceLT, Int.reduceLE, Int.reduceEq, Int.reduceAdd, Int.reduceSub, Int.reduceNeg, decide_true, decide_false, Bool.not_true, Bool.not_false, cond_true, cond_false, beq_self_eq_true, and_self, ne_eq, not_true_eq_false, not_false_eq_true, reduceCtorEq, Bool.true_beq, Bool.false_beq]
          refine ⟨by omega, ?_⟩
          refine any_ok2 (N := 3000) (call_does (fun v G => v = .tuple #[.agg #[.slice none 0 0, .slice none 0 0, .slice none 0 0, .int .i64 0], .int .i64 10]) rfl rfl (by kernel_rfl) rfl (by simp only [dOk_some, dOk_none, Nat.reduceLT]) (fun G hG => ret_mono (put_does (n := 2 + g.ring + 2 * g.area + y) (bs := chunk b v) hg hgx hG.wf (tidB hG (fun _ h => h) hT hW rfl rfl (by simp) (by simp; decide)) (hdx.mono (hG.le G2 (by simp))) (hch.mono (hG.le G5 (by simp)))) fun v G' _ h => dev_bad h he (by decide))) (QOk_body _ _ _) rfl (by first | exact .inl rfl | exact .inr ⟨_, _, rfl, rfl⟩) (by intro _ hK; first | (obtain ⟨_, _, _, _, rfl⟩ := hK; exact ⟨rfl, fun _ h => h⟩) | (obtain ⟨_, _, rfl⟩ := hK; exact ⟨rfl, fun _ h => h⟩) | (obtain ⟨_, _, _, _, _, _, rfl⟩ := hK; exact ⟨rfl, fun _ h => List.mem_cons_of_mem _ h⟩) | (obtain ⟨_, _, _, _, _, _, _, rfl⟩ := hK; exact ⟨rfl, fun _ h => List.mem_cons_of_mem _ h⟩) | (obtain rfl := hK; exact ⟨rfl, fun _ h => h⟩)) ?_
          rintro _ ⟨_, G6, rfl, hn6, rfl⟩
          clear hn6
          simp only [go_sem, Nat.reduceAdd, Nat.reduceSub, Nat.reduceMul, Nat.reduceEqDiff, Nat.reduceLT, Nat.reduceLeDiff, Nat.reduceBEq, Nat.reduceBNe, Int.reduceLT, Int.reduceLE, Int.reduceEq, Int.reduceAdd, Int.reduceSub, Int.reduceNeg, decide_true, decide_false, Bool.not_true, Bool.not_false, cond_true, cond_false, beq_self_eq_true, and_self, ne_eq, not_true_eq_false, not_false_eq_true, reduceCtorEq, Bool.true_beq, Bool.false_beq]
          refine fin_ret (G := G0) Try.results44 ?_
          simp only [go_sem, Nat.reduceAdd, Nat.reduceSub, Nat.reduceMul, Nat.reduceEqDiff, Nat.reduceLT, Nat.reduceLeDiff, Nat.reduceBEq, Nat.reduceBNe, Int.reduceLT, Int.reduceLE, Int.reduceEq, Int.reduceAdd, Int.reduceSub, Int.reduceNeg, decide_true, decide_false, Bool.not_true, Bool.not_false, cond_true, cond_false, beq_self_eq_true, and_self, ne_eq, not_true_eq_false, not_false_eq_true, reduceCtorEq, Bool.true_beq, Bool.false_beq]
          intro a w' _ hle
          exact .inr ⟨_, v, by omega, rfl, by rw [← ex]; exact hdx.mono (hle G2 (by simp)), by rw [← ex]; exact hf0, by rw [← ex]; exact hgx⟩
      · intro g6
        refine ⟨?_, ?_⟩
        · refine any_ok2 (N := 3000) (call_does (fun v _ => v = .int .i64 (2 + g.ring + 2 * g.area)) rfl rfl (by kernel_rfl) rfl (by simp only [dOk_some, dOk_none, Nat.reduceLT]) (fun G hG => first_does hg hG.wf)) (QOk_body _ _ _) rfl (by first | exact .inl rfl | exact .inr ⟨_, _, rfl, rfl⟩) (by intro _ hK; first | (obtain ⟨_, _, _, _, rfl⟩ := hK; exact ⟨rfl, fun _ h => h⟩) | (obtain ⟨_, _, rfl⟩ := hK; exact ⟨rfl, fun _ h => h⟩) | (obtain ⟨_, _, _, _, _, _, rfl⟩ := hK; exact ⟨rfl, fun _ h => List.mem_cons_of_mem _ h⟩) | (obtain ⟨_, _, _, _, _, _, _, rfl⟩ := hK; exact ⟨rfl, fun _ h => List.mem_cons_of_mem _ h⟩) | (obtain rfl := hK; exact ⟨rfl, fun _ h => h⟩)) ?_
          rintro _ ⟨_, G4, rfl, hn4, rfl⟩
          clear hn4
          simp only [go_sem, Nat.reduceAdd, Nat.reduceSub, Nat.reduceMul, Nat.reduceEqDiff, Nat.reduceLT, Nat.reduceLeDiff, Nat.reduceBEq, Nat.reduceBNe, Int.reduceLT, Int.reduceLE, Int.reduceEq, Int.reduceAdd, Int.reduceSub, Int.reduceNeg, decide_true, decide_false, Bool.not_true, Bool.not_false, cond_true, cond_false, beq_self_eq_true, and_self, ne_eq, not_true_eq_false, not_false_eq_true, reduceCtorEq, Bool.true_beq, Bool.false_beq]
          refine ⟨by omega, ?_⟩
          refine any_ok2 (N := 3000) (cut_does (v * 64) (chunk b v).length (cb - v * 64) rfl tySlice23 tySize5 rfl ⟨_, _, rfl, by omega⟩ ⟨_, _, rfl, by omega⟩ (show v * 64 + (cb - v * 64) = cb from by omega) (by simp) (by simp only [dOk_some, dOk_none, Nat.reduceLT]) (by omega) (by omega) (by omega) (fun G hG => (hb.mono (hG.le G2 (by simp)) : Sl _ _ _ _ _ _))) (QOk_body _ _ _) rfl (by first | exact .inl rfl | exact .inr ⟨_, _, rfl, rfl⟩) (by intro _ hK; first | (obtain ⟨_, _, _, _, rfl⟩ := hK; exact ⟨rfl, fun _ h => h⟩) | (obtain ⟨_, _, rfl⟩ := hK; exact ⟨rfl, fun _ h => h⟩) | (obtain ⟨_, _, _, _, _, _, rfl⟩ := hK; exact ⟨rfl, fun _ h => List.mem_cons_of_mem _ h⟩) | (obtain ⟨_, _, _, _, _, _, _, rfl⟩ := hK; exact ⟨rfl, fun _ h => List.mem_cons_of_mem _ h⟩) | (obtain rfl := hK; exact ⟨rfl, fun _ h => h⟩)) ?_
          rintro _ ⟨Ac, G5, hs5, hn5, rfl⟩
          clear hn5
          have hch := byG_cut hs5 (by omega)
          rw [chunk_take] at hch
          simp only [go_sem, Nat.reduceAdd, Nat.reduceSub, Nat.reduceMul, Nat.reduceEqDiff, Nat.reduceLT, Nat.reduceLeDiff, Nat.reduceBEq, Nat.reduceBNe, Int.reduceLT, Int.reduceLE, Int.reduceEq, Int.reduceAdd, Int.reduceSub, Int.reduceNeg, decide_true, decide_false, Bool.not_true, Bool.not_false, cond_true, cond_false, beq_self_eq_true, and_self, ne_eq, not_true_eq_false, not_false_eq_true, reduceCtorEq, Bool.true_beq, Bool.false_beq]
          refine any_ok2 (N := 3000) (call_does (fun v G => v = .tuple #[.agg #[.slice none 0 0, .slice none 0 0, .slice none 0 0, .int .i64 0], .int .i64 10]) rfl rfl (by kernel_rfl) rfl (by simp only [dOk_some, dOk_none, Nat.reduceLT]) (fun G hG => ret_mono (put_does (n := 2 + g.ring + 2 * g.area + y) (bs := chunk b v) hg hgx hG.wf (tidB hG (fun _ h => h) hT hW rfl rfl (by simp) (by simp; decide)) (hdx.mono (hG.le G2 (by simp))) (hch.mono (hG.le G5 (by simp)))) fun v G' _ h => dev_bad h he (by decide))) (QOk_body _ _ _) rfl (by first | exact .inl rfl | exact .inr ⟨_, _, rfl, rfl⟩) (by intro _ hK; first | (obtain ⟨_, _, _, _, rfl⟩ := hK; exact ⟨rfl, fun _ h => h⟩) | (obtain ⟨_, _, rfl⟩ := hK; exact ⟨rfl, fun _ h => h⟩) | (obtain ⟨_, _, _, _, _, _, rfl⟩ := hK; exact ⟨rfl, fun _ h => List.mem_cons_of_mem _ h⟩) | (obtain ⟨_, _, _, _, _, _, _, rfl⟩ := hK; exact ⟨rfl, fun _ h => List.mem_cons_of_mem _ h⟩) | (obtain rfl := hK; exact ⟨rfl, fun _ h => h⟩)) ?_
          rintro _ ⟨_, G6, rfl, hn6, rfl⟩
          clear hn6
          simp only [go_sem, Nat.reduceAdd, Nat.reduceSub, Nat.reduceMul, Nat.reduceEqDiff, Nat.reduceLT, Nat.reduceLeDiff, Nat.reduceBEq, Nat.reduceBNe, Int.reduceLT, Int.reduceLE, Int.reduceEq, Int.reduceAdd, Int.reduceSub, Int.reduceNeg, decide_true, decide_false, Bool.not_true, Bool.not_false, cond_true, cond_false, beq_self_eq_true, and_self, ne_eq, not_true_eq_false, not_false_eq_true, reduceCtorEq, Bool.true_beq, Bool.false_beq]
          refine fin_ret (G := G0) Try.results44 ?_
          simp only [go_sem, Nat.reduceAdd, Nat.reduceSub, Nat.reduceMul, Nat.reduceEqDiff, Nat.reduceLT, Nat.reduceLeDiff, Nat.reduceBEq, Nat.reduceBNe, Int.reduceLT, Int.reduceLE, Int.reduceEq, Int.reduceAdd, Int.reduceSub, Int.reduceNeg, decide_true, decide_false, Bool.not_true, Bool.not_false, cond_true, cond_false, beq_self_eq_true, and_self, ne_eq, not_true_eq_false, not_false_eq_true, reduceCtorEq, Bool.true_beq, Bool.false_beq]
          intro a w' _ hle
          exact .inr ⟨_, v, by omega, rfl, by rw [← ex]; exact hdx.mono (hle G2 (by simp)), by rw [← ex]; exact hf0, by rw [← ex]; exact hgx⟩
        · refine any_ok2 (N := 3000) (cut_does (v * 64) (chunk b v).length (cb - v * 64) rfl tySlice23 tySize5 rfl ⟨_, _, rfl, by omega⟩ ⟨_, _, rfl, by omega⟩ (show v * 64 + (cb - v * 64) = cb from by omega) (by simp) (by simp only [dOk_some, dOk_none, Nat.reduceLT]) (by omega) (by omega) (by omega) (fun G hG => (hb.mono (hG.le G2 (by simp)) : Sl _ _ _ _ _ _))) (QOk_body _ _ _) rfl (by first | exact .inl rfl | exact .inr ⟨_, _, rfl, rfl⟩) (by intro _ hK; first | (obtain ⟨_, _, _, _, rfl⟩ := hK; exact ⟨rfl, fun _ h => h⟩) | (obtain ⟨_, _, rfl⟩ := hK; exact ⟨rfl, fun _ h => h⟩) | (obtain ⟨_, _, _, _, _, _, rfl⟩ := hK; exact ⟨rfl, fun _ h => List.mem_cons_of_mem _ h⟩) | (obtain ⟨_, _, _, _, _, _, _, rfl⟩ := hK; exact ⟨rfl, fun _ h => List.mem_cons_of_mem _ h⟩) | (obtain rfl := hK; exact ⟨rfl, fun _ h => h⟩)) ?_
          rintro _ ⟨Ac, G5, hs5, hn5, rfl⟩
          clear hn5
          have hch := byG_cut hs5 (by omega)
          rw [chunk_take] at hch
          simp only [go_sem, Nat.reduceAdd, Nat.reduceSub, Nat.reduceMul, Nat.reduceEqDiff, Nat.reduceLT, Nat.reduceLeDiff, Nat.reduceBEq, Nat.reduceBNe, Int.reduceLT, Int.reduceLE, Int.reduceEq, Int.reduceAdd, Int.reduceSub, Int.reduceNeg, decide_true, decide_false, Bool.not_true, Bool.not_false, cond_true, cond_false, beq_self_eq_true, and_self, ne_eq, not_true_eq_false, not_false_eq_true, reduceCtorEq, Bool.true_beq, Bool.false_beq]
          refine any_ok2 (N := 3000) (call_does (fun v _ => v = .int .i64 (2 + g.ring + 2 * g.area)) rfl rfl (by kernel_rfl) rfl (by simp only [dOk_some, dOk_none, Nat.reduceLT]) (fun G hG => first_does hg hG.wf)) (QOk_body _ _ _) rfl (by first | exact .inl rfl | exact .inr ⟨_, _, rfl, rfl⟩) (by intro _ hK; first | (obtain ⟨_, _, _, _, rfl⟩ := hK; exact ⟨rfl, fun _ h => h⟩) | (obtain ⟨_, _, rfl⟩ := hK; exact ⟨rfl, fun _ h => h⟩) | (obtain ⟨_, _, _, _, _, _, rfl⟩ := hK; exact ⟨rfl, fun _ h => List.mem_cons_of_mem _ h⟩) | (obtain ⟨_, _, _, _, _, _, _, rfl⟩ := hK; exact ⟨rfl, fun _ h => List.mem_cons_of_mem _ h⟩) | (obtain rfl := hK; exact ⟨rfl, fun _ h => h⟩)) ?_
          rintro _ ⟨_, G4, rfl, hn4, rfl⟩
          clear hn4
          simp only [go_sem, Nat.reduceAdd, Nat.reduceSub, Nat.reduceMul, Nat.reduceEqDiff, Nat.reduceLT, Nat.reduceLeDiff, Nat.reduceBEq, Nat.reduceBNe, Int.reduceLT, Int.reduceLE, Int.reduceEq, Int.reduceAdd, Int.reduceSub, Int.reduceNeg, decide_true, decide_false, Bool.not_true, Bool.not_false, cond_true, cond_false, beq_self_eq_true, and_self, ne_eq, not_true_eq_false, not_false_eq_true, reduceCtorEq, Bool.true_beq, Bool.false_beq]
          refine ⟨by omega, ?_⟩
          refine any_ok2 (N := 3000) (call_does (fun v G => v = .tuple #[.agg #[.slice none 0 0, .slice none 0 0, .slice none 0 0, .int .i64 0], .int .i64 10]) rfl rfl (by kernel_rfl) rfl (by simp only [dOk_some, dOk_none, Nat.reduceLT]) (fun G hG => ret_mono (put_does (n := 2 + g.ring + 2 * g.area + y) (bs := chunk b v) hg hgx hG.wf (tidB hG (fun _ h => h) hT hW rfl rfl (by simp) (by simp; decide)) (hdx.mono (hG.le G2 (by simp))) (hch.mono (hG.le G5 (by simp)))) fun v G' _ h => dev_bad h he (by decide))) (QOk_body _ _ _) rfl (by first | exact .inl rfl | exact .inr ⟨_, _, rfl, rfl⟩) (by intro _ hK; first | (obtain ⟨_, _, _, _, rfl⟩ := hK; exact ⟨rfl, fun _ h => h⟩) | (obtain ⟨_, _, rfl⟩ := hK; exact ⟨rfl, fun _ h => h⟩) | (obtain ⟨_, _, _, _, _, _, rfl⟩ := hK; exact ⟨rfl, fun _ h => List.mem_cons_of_mem _ h⟩) | (obtain ⟨_, _, _, _, _, _, _, rfl⟩ := hK; exact ⟨rfl, fun _ h => List.mem_cons_of_mem _ h⟩) | (obtain rfl := hK; exact ⟨rfl, fun _ h => h⟩)) ?_
          rintro _ ⟨_, G6, rfl, hn6, rfl⟩
          clear hn6
          simp only [go_sem, Nat.reduceAdd, Nat.reduceSub, Nat.reduceMul, Nat.reduceEqDiff, Nat.reduceLT, Nat.reduceLeDiff, Nat.reduceBEq, Nat.reduceBNe, Int.reduceLT, Int.reduceLE, Int.reduceEq, Int.reduceAdd, Int.reduceSub, Int.reduceNeg, decide_true, decide_false, Bool.not_true, Bool.not_false, cond_true, cond_false, beq_self_eq_true, and_self, ne_eq, not_true_eq_false, not_false_eq_true, reduceCtorEq, Bool.true_beq, Bool.false_beq]
          refine fin_ret (G := G0) Try.results44 ?_
          simp only [go_sem, Nat.reduceAdd, Nat.reduceSub, Nat.reduceMul, Nat.reduceEqDiff, Nat.reduceLT, Nat.reduceLeDiff, Nat.reduceBEq, Nat.reduceBNe, Int.reduceLT, Int.reduceLE, Int.reduceEq, Int.reduceAdd, Int.reduceSub, Int.reduceNeg, decide_true, decide_false, Bool.not_true, Bool.not_false, cond_true, cond_false, beq_self_eq_true, and_self, ne_eq, not_true_eq_false, not_false_eq_true, reduceCtorEq, Bool.true_beq, Bool.false_beq]
          intro a w' _ hle
          exact .inr ⟨_, v, by omega, rfl, by rw [← ex]; exact hdx.mono (hle G2 (by simp)), by rw [← ex]; exact hf0, by rw [← ex]; exact hgx⟩
    · have he : putErr x (2 + g.ring + 2 * g.area + y) (chunk b v).length = 0 := by
        unfold putErr
        rw [if_neg (by omega), if_neg (by omega), if_neg (by omega), if_neg hf0]
      refine ⟨?_, ?_, ?_⟩
      · refine any_ok2 (N := 3000) (call_does (fun v _ => v = .int .i64 (2 + g.ring + 2 * g.area)) rfl rfl (by kernel_rfl) rfl (by simp only [dOk_some, dOk_none, Nat.reduceLT]) (fun G hG => first_does hg hG.wf)) (QOk_body _ _ _) rfl (by first | exact .inl rfl | exact .inr ⟨_, _, rfl, rfl⟩) (by intro _ hK; first | (obtain ⟨_, _, _, _, rfl⟩ := hK; exact ⟨rfl, fun _ h => h⟩) | (obtain ⟨_, _, rfl⟩ := hK; exact ⟨rfl, fun _ h => h⟩) | (obtain ⟨_, _, _, _, _, _, rfl⟩ := hK; exact ⟨rfl, fun _ h => List.mem_cons_of_mem _ h⟩) | (obtain ⟨_, _, _, _, _, _, _, rfl⟩ := hK; exact ⟨rfl, fun _ h => List.mem_cons_of_mem _ h⟩) | (obtain rfl := hK; exact ⟨rfl, fun _ h => h⟩)) ?_
        rintro _ ⟨_, G4, rfl, hn4, rfl⟩
        clear hn4
        simp only [go_sem, Nat.reduceAdd, Nat.reduceSub, Nat.reduceMul, Nat.reduceEqDiff, Nat.reduceLT, Nat.reduceLeDiff, Nat.reduceBEq, Nat.reduceBNe, Int.reduceLT, Int.reduceLE, Int.reduceEq, Int.reduceAdd, Int.reduceSub, Int.reduceNeg, decide_true, decide_false, Bool.not_true, Bool.not_false, cond_true, cond_false, beq_self_eq_true, and_self, ne_eq, not_true_eq_false, not_false_eq_true, reduceCtorEq, Bool.true_beq, Bool.false_beq]
        refine ⟨by omega, ?_⟩
        refine ⟨?_, ?_⟩
        · refine any_ok2 (N := 3000) (cut_does (v * 64) (chunk b v).length (cb - v * 64) rfl tySlice23 tySize5 rfl ⟨_, _, rfl, by omega⟩ ⟨_, _, rfl, by omega⟩ (show v * 64 + (cb - v * 64) = cb from by omega) (by simp) (by simp only [dOk_some, dOk_none, Nat.reduceLT]) (by omega) (by omega) (by omega) (fun G hG => (hb.mono (hG.le G2 (by simp)) : Sl _ _ _ _ _ _))) (QOk_body _ _ _) rfl (by first | exact .inl rfl | exact .inr ⟨_, _, rfl, rfl⟩) (by intro _ hK; first | (obtain ⟨_, _, _, _, rfl⟩ := hK; exact ⟨rfl, fun _ h => h⟩) | (obtain ⟨_, _, rfl⟩ := hK; exact ⟨rfl, fun _ h => h⟩) | (obtain ⟨_, _, _, _, _, _, rfl⟩ := hK; exact ⟨rfl, fun _ h => List.mem_cons_of_mem _ h⟩) | (obtain ⟨_, _, _, _, _, _, _, rfl⟩ := hK; exact ⟨rfl, fun _ h => List.mem_cons_of_mem _ h⟩) | (obtain rfl := hK; exact ⟨rfl, fun _ h => h⟩)) ?_
          rintro _ ⟨Ac, G5, hs5, hn5, rfl⟩
          clear hn5
          have hch := byG_cut hs5 (by omega)
          rw [chunk_take] at hch
          simp only [go_sem, Nat.reduceAdd, Nat.reduceSub, Nat.reduceMul, Nat.reduceEqDiff, Nat.reduceLT, Nat.reduceLeDiff, Nat.reduceBEq, Nat.reduceBNe, Int.reduceLT, Int.reduceLE, Int.reduceEq, Int.reduceAdd, Int.reduceSub, Int.reduceNeg, decide_true, decide_false, Bool.not_true, Bool.not_false, cond_true, cond_false, beq_self_eq_true, and_self, ne_eq, not_true_eq_false, not_false_eq_true, reduceCtorEq, Bool.true_beq, Bool.false_beq]
          refine ⟨?_, ?_⟩
          · refine any_ok2 (N := 3000) (call_does (fun u G => ∃ dv, u = .tuple #[dv, .int .i64 0] ∧ DevG G dv (putDev x (2 + g.ring + 2 * g.area + y) (chunk b v))) rfl rfl (by kernel_rfl) rfl (by simp only [dOk_some, dOk_none, Nat.reduceLT]) (fun G hG => ret_mono (put_does (n := 2 + g.ring + 2 * g.area + y) (bs := chunk b v) hg hgx hG.wf (tidB hG (fun _ h => h) hT hW rfl rfl (by simp) (by simp; decide)) (hdx.mono (hG.le G2 (by simp))) (hch.mono (hG.le G5 (by simp)))) fun v G' _ h => dev_get h he)) (QOk_body _ _ _) rfl (by first | exact .inl rfl | exact .inr ⟨_, _, rfl, rfl⟩) (by intro _ hK; first | (obtain ⟨_, _, _, _, rfl⟩ := hK; exact ⟨rfl, fun _ h => h⟩) | (obtain ⟨_, _, rfl⟩ := hK; exact ⟨rfl, fun _ h => h⟩) | (obtain ⟨_, _, _, _, _, _, rfl⟩ := hK; exact ⟨rfl, fun _ h => List.mem_cons_of_mem _ h⟩) | (obtain ⟨_, _, _, _, _, _, _, rfl⟩ := hK; exact ⟨rfl, fun _ h => List.mem_cons_of_mem _ h⟩) | (obtain rfl := hK; exact ⟨rfl, fun _ h => h⟩)) ?_
            rintro _ ⟨_, G6, ⟨dv, rfl, hd2⟩, hn6, rfl⟩
            have hl26 : G2.Le G6 := hn6.le G2 (by simp)
            clear hn6
            have hg2 := good_put hgx he
            have hx2 : putDev x (2 + g.ring + 2 * g.area + y) (chunk b v) = writeTo g d l b (v + 1) := by rw [writeTo_succ hy, ex]; rfl
            have hc2 : (putDev x (2 + g.ring + 2 * g.area + y) (chunk b v)).cache.length ≤ 1000 + (v + 1) := by simp [putDev]; omega
            generalize putDev x (2 + g.ring + 2 * g.area + y) (chunk b v) = x2 at hd2 hg2 hx2 hc2
            obtain ⟨C1, n1, C2, n2, C3, n3, rfl, hfo⟩ := hd2.form
            clear hfo
            simp only [go_sem, Nat.reduceAdd, Nat.reduceSub, Nat.reduceMul, Nat.reduceEqDiff, Nat.reduceLT, Nat.reduceLeDiff, Nat.reduceBEq, Nat.reduceBNe, Int.reduceLT, Int.reduceLE, Int.reduceEq, Int.reduceAdd, Int.reduceSub, Int.reduceNeg, decide_true, decide_false, Bool.not_true, Bool.not_false, cond_true, cond_false, beq_self_eq_true, and_self, ne_eq, not_true_eq_false, not_false_eq_true, reduceCtorEq, Bool.true_beq, Bool.false_beq]
            intro g6
            exact ⟨by omega, again_ok (v + 1, x2, (C1, n1), (C2, n2), (C3, n3), G6) ⟨⟨by omega, hx2, hc2⟩, hg2, hd2, hl.mono hl26, hb.mono hl26⟩ (by simp only; omega) (by simp only [go_sem, Nat.reduceAdd, Nat.reduceSub, Nat.reduceMul, Nat.reduceEqDiff, Nat.reduceLT, Nat.reduceLeDiff, Nat.reduceBEq, Nat.reduceBNe, Int.reduceLT, Int.reduceLE, Int.reduceEq, Int.reduceAdd, Int.reduceSub, Int.reduceNeg, decide_true, decide_false, Bool.not_true, Bool.not_false, cond_true, cond_false, beq_self_eq_true, and_self, ne_eq, not_true_eq_false, not_false_eq_true, reduceCtorEq, Bool.true_beq, Bool.false_beq]; simp)⟩
          · intro g6
            refine any_ok2 (N := 3000) (call_does (fun u G => ∃ dv, u = .tuple #[dv, .int .i64 0] ∧ DevG G dv (putDev x (2 + g.ring + 2 * g.area + y) (chunk b v))) rfl rfl (by kernel_rfl) rfl (by simp only [dOk_some, dOk_none, Nat.reduceLT]) (fun G hG => ret_mono (put_does (n := 2 + g.ring + 2 * g.area + y) (bs := chunk b v) hg hgx hG.wf (tidB hG (fun _ h => h) hT hW rfl rfl (by simp) (by simp; decide)) (hdx.mono (hG.le G2 (by simp))) (hch.mono (hG.le G5 (by simp)))) fun v G' _ h => dev_get h he)) (QOk_body _ _ _) rfl (by first | exact .inl rfl | exact .inr ⟨_, _, rfl, rfl⟩) (by intro _ hK; first | (obtain ⟨_, _, _, _, rfl⟩ := hK; exact ⟨rfl, fun _ h => h⟩) | (obtain ⟨_, _, rfl⟩ := hK; exact ⟨rfl, fun _ h => h⟩) | (obtain ⟨_, _, _, _, _, _, rfl⟩ := hK; exact ⟨rfl, fun _ h => List.mem_cons_of_mem _ h⟩) | (obtain ⟨_, _, _, _, _, _, _, rfl⟩ := hK; exact ⟨rfl, fun _ h => List.mem_cons_of_mem _ h⟩) | (obtain rfl := hK; exact ⟨rfl, fun _ h => h⟩)) ?_
            rintro _ ⟨_, G6, ⟨dv, rfl, hd2⟩, hn6, rfl⟩
            have hl26 : G2.Le G6 := hn6.le G2 (by simp)
            clear hn6
            have hg2 := good_put hgx he
            have hx2 : putDev x (2 + g.ring + 2 * g.area + y) (chunk b v) = writeTo g d l b (v + 1) := by rw [writeTo_succ hy, ex]; rfl
            have hc2 : (putDev x (2 + g.ring + 2 * g.area + y) (chunk b v)).cache.length ≤ 1000 + (v + 1) := by simp [putDev]; omega
            generalize putDev x (2 + g.ring + 2 * g.area + y) (chunk b v) = x2 at hd2 hg2 hx2 hc2
            obtain ⟨C1, n1, C2, n2, C3, n3, rfl, hfo⟩ := hd2.form
            clear hfo
            simp only [go_sem, Nat.reduceAdd, Nat.reduceSub, Nat.reduceMul, Nat.reduceEqDiff, Nat.reduceLT, Nat.reduceLeDiff, Nat.reduceBEq, Nat.reduceBNe, Int.reduceLT, Int.reduceLE, Int.reduceEq, Int.reduceAdd, Int.reduceSub, Int.reduceNeg, decide_true, decide_false, Bool.not_true, Bool.not_false, cond_true, cond_false, beq_self_eq_true, and_self, ne_eq, not_true_eq_false, not_false_eq_true, reduceCtorEq, Bool.true_beq, Bool.false_beq]
            exact ⟨by omega, again_ok (v + 1, x2, (C1, n1), (C2, n2), (C3, n3), G6) ⟨⟨by omega, hx2, hc2⟩, hg2, hd2, hl.mono hl26, hb.mono hl26⟩ (by simp only; omega) (by simp only [go_sem, Nat.reduceAdd, Nat.reduceSub, Nat.reduceMul, Nat.reduceEqDiff, Nat.reduceLT, Nat.reduceLeDiff, Nat.reduceBEq, Nat.reduceBNe, Int.reduceLT, Int.reduceLE, Int.reduceEq, Int.reduceAdd, Int.reduceSub, Int.reduceNeg, decide_true, decide_false, Bool.not_true, Bool.not_false, cond_true, cond_false, beq_self_eq_true, and_self, ne_eq, not_true_eq_false, not_false_eq_true, reduceCtorEq, Bool.true_beq, Bool.false_beq]; simp)⟩
        · intro g6
          refine any_ok2 (N := 3000) (cut_does (v * 64) (chunk b v).length (cb - v * 64) rfl tySlice23 tySize5 rfl ⟨_, _, rfl, by omega⟩ ⟨_, _, rfl, by omega⟩ (show v * 64 + (cb - v * 64) = cb from by omega) (by simp) (by simp only [dOk_some, dOk_none, Nat.reduceLT]) (by omega) (by omega) (by omega) (fun G hG => (hb.mono (hG.le G2 (by simp)) : Sl _ _ _ _ _ _))) (QOk_body _ _ _) rfl (by first | exact .inl rfl | exact .inr ⟨_, _, rfl, rfl⟩) (by intro _ hK; first | (obtain ⟨_, _, _, _, rfl⟩ := hK; exact ⟨rfl, fun _ h => h⟩) | (obtain ⟨_, _, rfl⟩ := hK; exact ⟨rfl, fun _ h => h⟩) | (obtain ⟨_, _, _, _, _, _, rfl⟩ := hK; exact ⟨rfl, fun _ h => List.mem_cons_of_mem _ h⟩) | (obtain ⟨_, _, _, _, _, _, _, rfl⟩ := hK; exact ⟨rfl, fun _ h => List.mem_cons_of_mem _ h⟩) | (obtain rfl := hK; exact ⟨rfl, fun _ h => h⟩)) ?_
          rintro _ ⟨Ac, G5, hs5, hn5, rfl⟩
          clear hn5
          have hch := byG_cut hs5 (by omega)
          rw [chunk_take] at hch
          simp only [go_sem, Nat.reduceAdd, Nat.reduceSub, Nat.reduceMul, Nat.reduceEqDiff, Nat.reduceLT, Nat.reduceLeDiff, Nat.reduceBEq, Nat.reduceBNe, Int.reduceLT, Int.reduceLE, Int.reduceEq, Int.reduceAdd, Int.reduceSub, Int.reduceNeg, decide_true, decide_false, Bool.not_true, Bool.not_false, cond_true, cond_false, beq_self_eq_true, and_self, ne_eq, not_true_eq_false, not_false_eq_true, reduceCtorEq, Bool.true_beq, Bool.false_beq]
          refine any_ok2 (N := 3000) (call_does (fun u G => ∃ dv, u = .tuple #[dv, .int .i64 0] ∧ DevG G dv (putDev x (2 + g.ring + 2 * g.area + y) (chunk b v))) rfl rfl (by kernel_rfl) rfl (by simp only [dOk_some, dOk_none, Nat.reduceLT]) (fun G hG => ret_mono (put_does (n := 2 + g.ring + 2 * g.area + y) (bs := chunk b v) hg hgx hG.wf (tidB hG (fun _ h => h) hT hW rfl rfl (by simp) (by simp; decide)) (hdx.mono (hG.le G2 (by simp))) (hch.mono (hG.le G5 (by simp)))) fun v G' _ h => dev_get h he)) (QOk_body _ _ _) rfl (by first | exact .inl rfl | exact .inr ⟨_, _, rfl, rfl⟩) (by intro _ hK; first | (obtain ⟨_, _, _, _, rfl⟩ := hK; exact ⟨rfl, fun _ h => h⟩) | (obtain ⟨_, _, rfl⟩ := hK; exact ⟨rfl, fun _ h => h⟩) | (obtain ⟨_, _, _, _, _, _, rfl⟩ := hK; exact ⟨rfl, fun _ h => List.mem_cons_of_mem _ h⟩) | (obtain ⟨_, _, _, _, _, _, _, rfl⟩ := hK; exact ⟨rfl, fun _ h => List.mem_cons_of_mem _ h⟩) | (obtain rfl := hK; exact ⟨rfl, fun _ h => h⟩)) ?_
          rintro _ ⟨_, G6, ⟨dv, rfl, hd2⟩, hn6, rfl⟩
          have hl26 : G2.Le G6 := hn6.le G2 (by simp)
          clear hn6
          have hg2 := good_put hgx he
          have hx2 : putDev x (2 + g.ring + 2 * g.area + y) (chunk b v) = writeTo g d l b (v + 1) := by rw [writeTo_succ hy, ex]; rfl
          have hc2 : (putDev x (2 + g.ring + 2 * g.area + y) (chunk b v)).cache.length ≤ 1000 + (v + 1) := by simp [putDev]; omega
          generalize putDev x (2 + g.ring + 2 * g.area + y) (chunk b v) = x2 at hd2 hg2 hx2 hc2
          obtain ⟨C1, n1, C2, n2, C3, n3, rfl, hfo⟩ := hd2.form
          clear hfo
          simp only [go_sem, Nat.reduceAdd, Nat.reduceSub, Nat.reduceMul, Nat.reduceEqDiff, Nat.reduceLT, Nat.reduceLeDiff, Nat.reduceBEq, Nat.reduceBNe, Int.reduceLT, Int.reduceLE, Int.reduceEq, Int.reduceAdd, Int.reduceSub, Int.reduceNeg, decide_true, decide_false, Bool.not_true, Bool.not_false, cond_true, cond_false, beq_self_eq_true, and_self, ne_eq, not_true_eq_false, not_false_eq_true, reduceCtorEq, Bool.true_beq, Bool.false_beq]
          exact ⟨by omega, again_ok (v + 1, x2, (C1, n1), (C2, n2), (C3, n3), G6) ⟨⟨by omega, hx2, hc2⟩, hg2, hd2, hl.mono hl26, hb.mono hl26⟩ (by simp only; omega) (by simp only [go_sem, Nat.reduceAdd, Nat.reduceSub, Nat.reduceMul, Nat.reduceEqDiff, Nat.reduceLT, Nat.reduceLeDiff, Nat.reduceBEq, Nat.reduceBNe, Int.reduceLT, Int.reduceLE, Int.reduceEq, Int.reduceAdd, Int.reduceSub, Int.reduceNeg, decide_true, decide_false, Bool.not_true, Bool.not_false, cond_true, cond_false, beq_self_eq_true, and_self, ne_eq, not_true_eq_false, not_false_eq_true, reduceCtorEq, Bool.true_beq, Bool.false_beq]; simp)⟩
      · refine any_ok2 (N := 3000) (cut_does (v * 64) (chunk b v).length (cb - v * 64) rfl tySlice23 tySize5 rfl ⟨_, _, rfl, by omega⟩ ⟨_, _, rfl, by omega⟩ (show v * 64 + (cb - v * 64) = cb from by omega) (by simp) (by simp only [dOk_some, dOk_none, Nat.reduceLT]) (by omega) (by omega) (by omega) (fun G hG => (hb.mono (hG.le G2 (by simp)) : Sl _ _ _ _ _ _))) (QOk_body _ _ _) rfl (by first | exact .inl rfl | exact .inr ⟨_, _, rfl, rfl⟩) (by intro _ hK; first | (obtain ⟨_, _, _, _, rfl⟩ := hK; exact ⟨rfl, fun _ h => h⟩) | (obtain ⟨_, _, rfl⟩ := hK; exact ⟨rfl, fun _ h => h⟩) | (obtain ⟨_, _, _, _, _, _, rfl⟩ := hK; exact ⟨rfl, fun _ h => List.mem_cons_of_mem _ h⟩) | (obtain ⟨_, _, _, _, _, _, _, rfl⟩ := hK; exact ⟨rfl, fun _ h => List.mem_cons_of_mem _ h⟩) | (obtain rfl := hK; exact ⟨rfl, fun _ h => h⟩)) ?_
        rintro _ ⟨Ac, G5, hs5, hn5, rfl⟩
        clear hn5
        have hch := byG_cut hs5 (by omega)
        rw [chunk_take] at hch
        simp only [go_sem, Nat.reduceAdd, Nat.reduceSub, Nat.reduceMul, Nat.reduceEqDiff, Nat.reduceLT, Nat.reduceLeDiff, Nat.reduceBEq, Nat.reduceBNe, Int.reduceLT, Int.reduceLE, Int.reduceEq, Int.reduceAdd, Int.reduceSub, Int.reduceNeg, decide_true, decide_false, Bool.not_true, Bool.not_false, cond_true, cond_false, beq_self_eq_true, and_self, ne_eq, not_true_eq_false, not_false_eq_true, reduceCtorEq, Bool.true_beq, Bool.false_beq]
        refine ⟨?_, ?_⟩
        · refine any_ok2 (N := 3000) (call_does (fun v _ => v = .int .i64 (2 + g.ring + 2 * g.area)) rfl rfl (by kernel_rfl) rfl (by simp only [dOk_some, dOk_none, Nat.reduceLT]) (fun G hG => first_does hg hG.wf)) (QOk_body _ _ _) rfl (by first | exact .inl rfl | exact .inr ⟨_, _, rfl, rfl⟩) (by intro _ hK; first | (obtain ⟨_, _, _, _, rfl⟩ := hK; exact ⟨rfl, fun _ h => h⟩) | (obtain ⟨_, _, rfl⟩ := hK; exact ⟨rfl, fun _ h => h⟩) | (obtain ⟨_, _, _, _, _, _, rfl⟩ := hK; exact ⟨rfl, fun _ h => List.mem_cons_of_mem _ h⟩) | (obtain ⟨_, _, _, _, _, _, _, rfl⟩ := hK; exact ⟨rfl, fun _ h => List.mem_cons_of_mem _ h⟩) | (obtain rfl := hK; exact ⟨rfl, fun _ h => h⟩)) ?_
          rintro _ ⟨_, G4, rfl, hn4, rfl⟩
          clear hn4
          simp only [go_sem, Nat.reduceAdd, Nat.reduceSub, Nat.reduceMul, Nat.reduceEqDiff, Nat.reduceLT, Nat.reduceLeDiff, Nat.reduceBEq, Nat.reduceBNe, Int.reduceLT, Int.reduceLE, Int.reduceEq, Int.reduceAdd, Int.reduceSub, Int.reduceNeg, decide_true, decide_false, Bool.not_true, Bool.not_false, cond_true, cond_false, beq_self_eq_true, and_self, ne_eq, not_true_eq_false, not_false_eq_true, reduceCtorEq, Bool.true_beq, Bool.false_beq]
          refine ⟨by omega, ?_⟩
          refine ⟨?_, ?_⟩
          · refine any_ok2 (N := 3000) (call_does (fun u G => ∃ dv, u = .tuple #[dv, .int .i64 0] ∧ DevG G dv (putDev x (2 + g.ring + 2 * g.area + y) (chunk b v))) rfl rfl (by kernel_rfl) rfl (by simp only [dOk_some, dOk_none, Nat.reduceLT]) (fun G hG => ret_mono (put_does (n := 2 + g.ring + 2 * g.area + y) (bs := chunk b v) hg hgx hG.wf (tidB hG (fun _ h => h) hT hW rfl rfl (by simp) (by simp; decide)) (hdx.mono (hG.le G2 (by simp))) (hch.mono (hG.le G5 (by simp)))) fun v G' _ h => dev_get h he)) (QOk_body _ _ _) rfl (by first | exact .inl rfl | exact .inr ⟨_, _, rfl, rfl⟩) (by intro _ hK; first | (obtain ⟨_, _, _, _, rfl⟩ := hK; exact ⟨rfl, fun _ h => h⟩) | (obtain ⟨_, _, rfl⟩ := hK; exact ⟨rfl, fun _ h => h⟩) | (obtain ⟨_, _, _, _, _, _, rfl⟩ := hK; exact ⟨rfl, fun _ h => List.mem_cons_of_mem _ h⟩) | (obtain ⟨_, _, _, _, _, _, _, rfl⟩ := hK; exact ⟨rfl, fun _ h => List.mem_cons_of_mem _ h⟩) | (obtain rfl := hK; exact ⟨rfl, fun _ h => h⟩)) ?_
            rintro _ ⟨_, G6, ⟨dv, rfl, hd2⟩, hn6, rfl⟩
            have hl26 : G2.Le G6 := hn6.le G2 (by simp)
            clear hn6
            have hg2 := good_put hgx he
            have hx2 : putDev x (2 + g.ring + 2 * g.area + y) (chunk b v) = writeTo g d l b (v + 1) := by rw [writeTo_succ hy, ex]; rfl
            have hc2 : (putDev x (2 + g.ring + 2 * g.area + y) (chunk b v)).cache.length ≤ 1000 + (v + 1) := by simp [putDev]; omega
            generalize putDev x (2 + g.ring + 2 * g.area + y) (chunk b v) = x2 at hd2 hg2 hx2 hc2
            obtain ⟨C1, n1, C2, n2, C3, n3, rfl, hfo⟩ := hd2.form
            clear hfo
            simp only [go_sem, Nat.reduceAdd, Nat.reduceSub, Nat.reduceMul, Nat.reduceEqDiff, Nat.reduceLT, Nat.reduceLeDiff, Nat.reduceBEq, Nat.reduceBNe, Int.reduceLT, Int.reduceLE, Int.reduceEq, Int.reduceAdd, Int.reduceSub, Int.reduceNeg, decide_true, decide_false, Bool.not_true, Bool.not_false, cond_true, cond_false, beq_self_eq_true, and_self, ne_eq, not_true_eq_false, not_false_eq_true, reduceCtorEq, Bool.true_beq, Bool.false_beq]
            intro g6
            exact ⟨by omega, again_ok (v + 1, x2, (C1, n1), (C2, n2), (C3, n3), G6) ⟨⟨by omega, hx2, hc2⟩, hg2, hd2, hl.mono hl26, hb.mono hl26⟩ (by simp only; omega) (by simp only [go_sem, Nat.reduceAdd, Nat.reduceSub, Nat.reduceMul, Nat.reduceEqDiff, Nat.reduceLT, Nat.reduceLeDiff, Nat.reduceBEq, Nat.reduceBNe, Int.reduceLT, Int.reduceLE, Int.reduceEq, Int.reduceAdd, Int.reduceSub, Int.reduceNeg, decide_true, decide_false, Bool.not_true, Bool.not_false, cond_true, cond_false, beq_self_eq_true, and_self, ne_eq, not_true_eq_false, not_false_eq_true, reduceCtorEq, Bool.true_beq, Bool.false_beq]; simp)⟩
          · intro g6
            refine any_ok2 (N := 3000) (call_does (fun u G => ∃ dv, u = .tuple #[dv, .int .i64 0] ∧ DevG G dv (putDev x (2 + g.ring + 2 * g.area + y) (chunk b v))) rfl rfl (by kernel_rfl) rfl (by simp only [dOk_some, dOk_none, Nat.reduceLT]) (fun G hG => ret_mono (put_does (n := 2 + g.ring + 2 * g.area + y) (bs := chunk b v) hg hgx hG.wf (tidB hG (fun _ h => h) hT hW rfl rfl (by simp) (by simp; decide)) (hdx.mono (hG.le G2 (by simp))) (hch.mono (hG.le G5 (by simp)))) fun v G' _ h => dev_get h he)) (QOk_body _ _ _) rfl (by first | exact .inl rfl | exact .inr ⟨_, _, rfl, rfl⟩) (by intro _ hK; first | (obtain ⟨_, _, _, _, rfl⟩ := hK; exact ⟨rfl, fun _ h => h⟩) | (obtain ⟨_, _, rfl⟩ := hK; exact ⟨rfl, fun _ h => h⟩) | (obtain ⟨_, _, _, _, _, _, rfl⟩ := hK; exact ⟨rfl, fun _ h => List.mem_cons_of_mem _ h⟩) | (obtain ⟨_, _, _, _, _, _, _, rfl⟩ := hK; exact ⟨rfl, fun _ h => List.mem_cons_of_mem _ h⟩) | (obtain rfl := hK; exact ⟨rfl, fun _ h => h⟩)) ?_
            rintro _ ⟨_, G6, ⟨dv, rfl, hd2⟩, hn6, rfl⟩
            have hl26 : G2.Le G6 := hn6.le G2 (by simp)
            clear hn6
            have hg2 := good_put hgx he
            have hx2 : putDev x (2 + g.ring + 2 * g.area + y) (chunk b v) = writeTo g d l b (v + 1) := by rw [writeTo_succ hy, ex]; rfl
            have hc2 : (putDev x (2 + g.ring + 2 * g.area + y) (chunk b v)).cache.length ≤ 1000 + (v + 1) := by simp [putDev]; omega
            generalize putDev x (2 + g.ring + 2 * g.area + y) (chunk b v) = x2 at hd2 hg2 hx2 hc2
            obtain ⟨C1, n1, C2, n2, C3, n3, rfl, hfo⟩ := hd2.form
            clear hfo
            simp only [go_sem, Nat.reduceAdd, Nat.reduceSub, Nat.reduceMul, Nat.reduceEqDiff, Nat.reduceLT, Nat.reduceLeDiff, Nat.reduceBEq, Nat.reduceBNe, Int.reduceLT, Int.reduceLE, Int.reduceEq, Int.reduceAdd, Int.reduceSub, Int.reduceNeg, decide_true, decide_false, Bool.not_true, Bool.not_false, cond_true, cond_false, beq_self_eq_true, and_self, ne_eq, not_true_eq_false, not_false_eq_true, reduceCtorEq, Bool.true_beq, Bool.false_beq]
            exact ⟨by omega, again_ok (v + 1, x2, (C1, n1), (C2, n2), (C3, n3), G6) ⟨⟨by omega, hx2, hc2⟩, hg2, hd2, hl.mono hl26, hb.mono hl26⟩ (by simp only; omega) (by simp only [go_sem, Nat.reduceAdd, Nat.reduceSub, Nat.reduceMul, Nat.reduceEqDiff, Nat.reduceLT, Nat.reduceLeDiff, Nat.reduceBEq, Nat.reduceBNe, Int.reduceLT, Int.reduceLE, Int.reduceEq, Int.reduceAdd, Int.reduceSub, Int.reduceNeg, decide_true, decide_false, Bool.not_true, Bool.not_false, cond_true, cond_false, beq_self_eq_true, and_self, ne_eq, not_true_eq_false, not_false_eq_true, reduceCtorEq, Bool.true_beq, Bool.false_beq]; simp)⟩
        · intro g6
          refine any_ok2 (N := 3000) (call_does (fun v _ => v = .int .i64 (2 + g.ring + 2 * g.area)) rfl rfl (by kernel_rfl) rfl (by simp only [dOk_some, dOk_none, Nat.reduceLT]) (fun G hG => first_does hg hG.wf)) (QOk_body _ _ _) rfl (by first | exact .inl rfl | exact .inr ⟨_, _, rfl, rfl⟩) (by intro _ hK; first | (obtain ⟨_, _, _, _, rfl⟩ := hK; exact ⟨rfl, fun _ h => h⟩) | (obtain ⟨_, _, rfl⟩ := hK; exact ⟨rfl, fun _ h => h⟩) | (obtain ⟨_, _, _, _, _, _, rfl⟩ := hK; exact ⟨rfl, fun _ h => List.mem_cons_of_mem _ h⟩) | (obtain ⟨_, _, _, _, _, _, _, rfl⟩ := hK; exact ⟨rfl, fun _ h => List.mem_cons_of_mem _ h⟩) | (obtain rfl := hK; exact ⟨rfl, fun _ h => h⟩)) ?_
          rintro _ ⟨_, G4, rfl, hn4, rfl⟩
          clear hn4
          simp only [go_sem, Nat.reduceAdd, Nat.reduceSub, Nat.reduceMul, Nat.reduceEqDiff, Nat.reduceLT, Nat.reduceLeDiff, Nat.reduceBEq, Nat.reduceBNe, Int.reduceLT, Int.reduceLE, Int.reduceEq, Int.reduceAdd, Int.reduceSub, Int.reduceNeg, decide_true, decide_false, Bool.not_true, Bool.not_false, cond_true, cond_false, beq_self_eq_true, and_self, ne_eq, not_true_eq_false, not_false_eq_true, reduceCtorEq, Bool.true_beq, Bool.false_beq]
          refine ⟨by omega, ?_⟩
          refine any_ok2 (N := 3000) (call_does (fun u G => ∃ dv, u = .tuple #[dv, .int .i64 0] ∧ DevG G dv (putDev x (2 + g.ring + 2 * g.area + y) (chunk b v))) rfl rfl (by kernel_rfl) rfl (by simp only [dOk_some, dOk_none, Nat.reduceLT]) (fun G hG => ret_mono (put_does (n := 2 + g.ring + 2 * g.area + y) (bs := chunk b v) hg hgx hG.wf (tidB hG (fun _ h => h) hT hW rfl rfl (by simp) (by simp; decide)) (hdx.mono (hG.le G2 (by simp))) (hch.mono (hG.le G5 (by simp)))) fun v G' _ h => dev_get h he)) (QOk_body _ _ _) rfl (by first | exact .inl rfl | exact .inr ⟨_, _, rfl, rfl⟩) (by intro _ hK; first | (obtain ⟨_, _, _, _, rfl⟩ := hK; exact ⟨rfl, fun _ h => h⟩) | (obtain ⟨_, _, rfl⟩ := hK; exact ⟨rfl, fun _ h => h⟩) | (obtain ⟨_, _, _, _, _, _, rfl⟩ := hK; exact ⟨rfl, fun _ h => List.mem_cons_of_mem _ h⟩) | (obtain ⟨_, _, _, _, _, _, _, rfl⟩ := hK; exact ⟨rfl, fun _ h => List.mem_cons_of_mem _ h⟩) | (obtain rfl := hK; exact ⟨rfl, fun _ h => h⟩)) ?_
          rintro _ ⟨_, G6, ⟨dv, rfl, hd2⟩, hn6, rfl⟩
          have hl26 : G2.Le G6 := hn6.le G2 (by simp)
          clear hn6
          have hg2 := good_put hgx he
          have hx2 : putDev x (2 + g.ring + 2 * g.area + y) (chunk b v) = writeTo g d l b (v + 1) := by rw [writeTo_succ hy, ex]; rfl
          have hc2 : (putDev x (2 + g.ring + 2 * g.area + y) (chunk b v)).cache.length ≤ 1000 + (v + 1) := by simp [putDev]; omega
          generalize putDev x (2 + g.ring + 2 * g.area + y) (chunk b v) = x2 at hd2 hg2 hx2 hc2
          obtain ⟨C1, n1, C2, n2, C3, n3, rfl, hfo⟩ := hd2.form
          clear hfo
          simp only [go_sem, Nat.reduceAdd, Nat.reduceSub, Nat.reduceMul, Nat.reduceEqDiff, Nat.reduceLT, Nat.reduceLeDiff, Nat.reduceBEq, Nat.reduceBNe, Int.reduceLT, Int.reduceLE, Int.reduceEq, Int.reduceAdd, Int.reduceSub, Int.reduceNeg, decide_true, decide_false, Bool.not_true, Bool.not_false, cond_true, cond_false, beq_self_eq_true, and_self, ne_eq, not_true_eq_false, not_false_eq_true, reduceCtorEq, Bool.true_beq, Bool.false_beq]
          exact ⟨by omega, again_ok (v + 1, x2, (C1, n1), (C2, n2), (C3, n3), G6) ⟨⟨by omega, hx2, hc2⟩, hg2, hd2, hl.mono hl26, hb.mono hl26⟩ (by simp only; omega) (by simp only [go_sem, Nat.reduceAdd, Nat.reduceSub, Nat.reduceMul, Nat.reduceEqDiff, Nat.reduceLT, Nat.reduceLeDiff, Nat.reduceBEq, Nat.reduceBNe, Int.reduceLT, Int.reduceLE, Int.reduceEq, Int.reduceAdd, Int.reduceSub, Int.reduceNeg, decide_true, decide_false, Bool.not_true, Bool.not_false, cond_true, cond_false, beq_self_eq_true, and_self, ne_eq, not_true_eq_false, not_false_eq_true, reduceCtorEq, Bool.true_beq, Bool.false_beq]; simp)⟩
      · intro g6
        refine ⟨?_, ?_⟩
        · refine any_ok2 (N := 3000) (call_does (fun v _ => v = .int .i64 (2 + g.ring + 2 * g.area)) rfl rfl (by kernel_rfl) rfl (by simp only [dOk_some, dOk_none, Nat.reduceLT]) (fun G hG => first_does hg hG.wf)) (QOk_body _ _ _) rfl (by first | exact .inl rfl | exact .inr ⟨_, _, rfl, rfl⟩) (by intro _ hK; first | (obtain ⟨_, _, _, _, rfl⟩ := hK; exact ⟨rfl, fun _ h => h⟩) | (obtain ⟨_, _, rfl⟩ := hK; exact ⟨rfl, fun _ h => h⟩) | (obtain ⟨_, _, _, _, _, _, rfl⟩ := hK; exact ⟨rfl, fun _ h => List.mem_cons_of_mem _ h⟩) | (obtain ⟨_, _, _, _, _, _, _, rfl⟩ := hK; exact ⟨rfl, fun _ h => List.mem_cons_of_mem _ h⟩) | (obtain rfl := hK; exact ⟨rfl, fun _ h => h⟩)) ?_
          rintro _ ⟨_, G4, rfl, hn4, rfl⟩
          clear hn4
          simp only [go_sem, Nat.reduceAdd, Nat.reduceSub, Nat.reduceMul, Nat.reduceEqDiff, Nat.reduceLT, Nat.reduceLeDiff, Nat.reduceBEq, Nat.reduceBNe, Int.reduceLT, Int.reduceLE, Int.reduceEq, Int.reduceAdd, Int.reduceSub, Int.reduceNeg, decide_true, decide_false, Bool.not_true, Bool.not_false, cond_true, cond_false, beq_self_eq_true, and_self, ne_eq, not_true_eq_false, not_false_eq_true, reduceCtorEq, Bool.true_beq, Bool.false_beq]
          refine ⟨by omega, ?_⟩
          refine any_ok2 (N := 3000) (cut_does (v * 64) (chunk b v).length (cb - v * 64) rfl tySlice23 tySize5 rfl ⟨_, _, rfl, by omega⟩ ⟨_, _, rfl, by omega⟩ (show v * 64 + (cb - v * 64) = cb from by omega) (by simp) (by simp only [dOk_some, dOk_none, Nat.reduceLT]) (by omega) (by omega) (by omega) (fun G hG => (hb.mono (hG.le G2 (by simp)) : Sl _ _ _ _ _ _))) (QOk_body _ _ _) rfl (by first | exact .inl rfl | exact .inr ⟨_, _, rfl, rfl⟩) (by intro _ hK; first | (obtain ⟨_, _, _, _, rfl⟩ := hK; exact ⟨rfl, fun _ h => h⟩) | (obtain ⟨_, _, rfl⟩ := hK; exact ⟨rfl, fun _ h => h⟩) | (obtain ⟨_, _, _, _, _, _, rfl⟩ := hK; exact ⟨rfl, fun _ h => List.mem_cons_of_mem _ h⟩) | (obtain ⟨_, _, _, _, _, _, _, rfl⟩ := hK; exact ⟨rfl, fun _ h => List.mem_cons_of_mem _ h⟩) | (obtain rfl := hK; exact ⟨rfl, fun _ h => h⟩)) ?_
          rintro _ ⟨Ac, G5, hs5, hn5, rfl⟩
          clear hn5
          have hch := byG_cut hs5 (by omega)
          rw [chunk_take] at hch
          simp only [go_sem, Nat.reduceAdd, Nat.reduceSub, Nat.reduceMul, Nat.reduceEqDiff, Nat.reduceLT, Nat.reduceLeDiff, Nat.reduceBEq, Nat.reduceBNe, Int.reduceLT, Int.reduceLE, Int.reduceEq, Int.reduceAdd, Int.reduceSub, Int.reduceNeg, decide_true, decide_false, Bool.not_true, Bool.not_false, cond_true, cond_false, beq_self_eq_true, and_self, ne_eq, not_true_eq_false, not_false_eq_true, reduceCtorEq, Bool.true_beq, Bool.false_beq]
          refine any_ok2 (N := 3000) (call_does (fun u G => ∃ dv, u = .tuple #[dv, .int .i64 0] ∧ DevG G dv (putDev x (2 + g.ring + 2 * g.area + y) (chunk b v))) rfl rfl (by kernel_rfl) rfl (by simp only [dOk_some, dOk_none, Nat.reduceLT]) (fun G hG => ret_mono (put_does (n := 2 + g.ring + 2 * g.area + y) (bs := chunk b v) hg hgx hG.wf (tidB hG (fun _ h => h) hT hW rfl rfl (by simp) (by simp; decide)) (hdx.mono (hG.le G2 (by simp))) (hch.mono (hG.le G5 (by simp)))) fun v G' _ h => dev_get h he)) (QOk_body _ _ _) rfl (by first | exact .inl rfl | exact .inr ⟨_, _, rfl, rfl⟩) (by intro _ hK; first | (obtain ⟨_, _, _, _, rfl⟩ := hK; exact ⟨rfl, fun _ h => h⟩) | (obtain ⟨_, _, rfl⟩ := hK; exact ⟨rfl, fun _ h => h⟩) | (obtain ⟨_, _, _, _, _, _, rfl⟩ := hK; exact ⟨rfl, fun _ h => List.mem_cons_of_mem _ h⟩) | (obtain ⟨_, _, _, _, _, _, _, rfl⟩ := hK; exact ⟨rfl, fun _ h => List.mem_cons_of_mem _ h⟩) | (obtain rfl := hK; exact ⟨rfl, fun _ h => h⟩)) ?_
          rintro _ ⟨_, G6, ⟨dv, rfl, hd2⟩, hn6, rfl⟩
          have hl26 : G2.Le G6 := hn6.le G2 (by simp)
          clear hn6
          have hg2 := good_put hgx he
          have hx2 : putDev x (2 + g.ring + 2 * g.area + y) (chunk b v) = writeTo g d l b (v + 1) := by rw [writeTo_succ hy, ex]; rfl
          have hc2 : (putDev x (2 + g.ring + 2 * g.area + y) (chunk b v)).cache.length ≤ 1000 + (v + 1) := by simp [putDev]; omega
          generalize putDev x (2 + g.ring + 2 * g.area + y) (chunk b v) = x2 at hd2 hg2 hx2 hc2
          obtain ⟨C1, n1, C2, n2, C3, n3, rfl, hfo⟩ := hd2.form
          clear hfo
          simp only [go_sem, Nat.reduceAdd, Nat.reduceSub, Nat.reduceMul, Nat.reduceEqDiff, Nat.reduceLT, Nat.reduceLeDiff, Nat.reduceBEq, Nat.reduceBNe, Int.reduceLT, Int.reduceLE, Int.reduceEq, Int.reduceAdd, Int.reduceSub, Int.reduceNeg, decide_true, decide_false, Bool.not_true, Bool.not_false, cond_true, cond_false, beq_self_eq_true, and_self, ne_eq, not_true_eq_false, not_false_eq_true, reduceCtorEq, Bool.true_beq, Bool.false_beq]
          exact ⟨by omega, again_ok (v + 1, x2, (C1, n1), (C2, n2), (C3, n3), G6) ⟨⟨by omega, hx2, hc2⟩, hg2, hd2, hl.mono hl26, hb.mono hl26⟩ (by simp only; omega) (by simp only [go_sem, Nat.reduceAdd, Nat.reduceSub, Nat.reduceMul, Nat.reduceEqDiff, Nat.reduceLT, Nat.reduceLeDiff, Nat.reduceBEq, Nat.reduceBNe, Int.reduceLT, Int.reduceLE, Int.reduceEq, Int.reduceAdd, Int.reduceSub, Int.reduceNeg, decide_true, decide_false, Bool.not_true, Bool.not_false, cond_true, cond_false, beq_self_eq_true, and_self, ne_eq, not_true_eq_false, not_false_eq_true, reduceCtorEq, Bool.true_beq, Bool.false_beq]; simp)⟩
        · refine any_ok2 (N := 3000) (cut_does (v * 64) (chunk b v).length (cb - v * 64) rfl tySlice23 tySize5 rfl ⟨_, _, rfl, by omega⟩ ⟨_, _, rfl, by omega⟩ (show v * 64 + (cb - v * 64) = cb from by omega) (by simp) (by simp only [dOk_some, dOk_none, Nat.reduceLT]) (by omega) (by omega) (by omega) (fun G hG => (hb.mono (hG.le G2 (by simp)) : Sl _ _ _ _ _ _))) (QOk_body _ _ _) rfl (by first | exact .inl rfl | exact .inr ⟨_, _, rfl, rfl⟩) (by intro _ hK; first | (obtain ⟨_, _, _, _, rfl⟩ := hK; exact ⟨rfl, fun _ h => h⟩) | (obtain ⟨_, _, rfl⟩ := hK; exact ⟨rfl, fun _ h => h⟩) | (obtain ⟨_, _, _, _, _, _, rfl⟩ := hK; exact ⟨rfl, fun _ h => List.mem_cons_of_mem _ h⟩) | (obtain ⟨_, _, _, _, _, _, _, rfl⟩ := hK; exact ⟨rfl, fun _ h => List.mem_cons_of_mem _ h⟩) | (obtain rfl := hK; exact ⟨rfl, fun _ h => h⟩)) ?_
          rintro _ ⟨Ac, G5, hs5, hn5, rfl⟩
          clear hn5
          have hch := byG_cut hs5 (by omega)
          rw [chunk_take] at hch
          simp only [go_sem, Nat.reduceAdd, Nat.reduceSub, Nat.reduceMul, Nat.reduceEqDiff, Nat.reduceLT, Nat.reduceLeDiff, Nat.reduceBEq, Nat.reduceBNe, Int.reduceLT, Int.reduceLE, Int.reduceEq, Int.reduceAdd, Int.reduceSub, Int.reduceNeg, decide_true, decide_false, Bool.not_true, Bool.not_false, cond_true, cond_false, beq_self_eq_true, and_self, ne_eq, not_true_eq_false, not_false_eq_true, reduceCtorEq, Bool.true_beq, Bool.false_beq]
          refine any_ok2 (N := 3000) (call_does (fun v _ => v = .int .i64 (2 + g.ring + 2 * g.area)) rfl rfl (by kernel_rfl) rfl (by simp only [dOk_some, dOk_none, Nat.reduceLT]) (fun G hG => first_does hg hG.wf)) (QOk_body _ _ _) rfl (by first | exact .inl rfl | exact .inr ⟨_, _, rfl, rfl⟩) (by intro _ hK; first | (obtain ⟨_, _, _, _, rfl⟩ := hK; exact ⟨rfl, fun _ h => h⟩) | (obtain ⟨_, _, rfl⟩ := hK; exact ⟨rfl, fun _ h => h⟩) | (obtain ⟨_, _, _, _, _, _, rfl⟩ := hK; exact ⟨rfl, fun _ h => List.mem_cons_of_mem _ h⟩) | (obtain ⟨_, _, _, _, _, _, _, rfl⟩ := hK; exact ⟨rfl, fun _ h => List.mem_cons_of_mem _ h⟩) | (obtain rfl := hK; exact ⟨rfl, fun _ h => h⟩)) ?_
          rintro _ ⟨_, G4, rfl, hn4, rfl⟩
          clear hn4
          simp only [go_sem, Nat.reduceAdd, Nat.reduceSub, Nat.reduceMul, Nat.reduceEqDiff, Nat.reduceLT, Nat.reduceLeDiff, Nat.reduceBEq, Nat.reduceBNe, Int.reduceLT, Int.reduceLE, Int.reduceEq, Int.reduceAdd, Int.reduceSub, Int.reduceNeg, decide_true, decide_false, Bool.not_true, Bool.not_false, cond_true, cond_false, beq_self_eq_true, and_self, ne_eq, not_true_eq_false, not_false_eq_true, reduceCtorEq, Bool.true_beq, Bool.false_beq]
          refine ⟨by omega, ?_⟩
          refine any_ok2 (N := 3000) (call_does (fun u G => ∃ dv, u = .tuple #[dv, .int .i64 0] ∧ DevG G dv (putDev x (2 + g.ring + 2 * g.area + y) (chunk b v))) rfl rfl (by kernel_rfl) rfl (by simp only [dOk_some, dOk_none, Nat.reduceLT]) (fun G hG => ret_mono (put_does (n := 2 + g.ring + 2 * g.area + y) (bs := chunk b v) hg hgx hG.wf (tidB hG (fun _ h => h) hT hW rfl rfl (by simp) (by simp; decide)) (hdx.mono (hG.le G2 (by simp))) (hch.mono (hG.le G5 (by simp)))) fun v G' _ h => dev_get h he)) (QOk_body _ _ _) rfl (by first | exact .inl rfl | exact .inr ⟨_, _, rfl, rfl⟩) (by intro _ hK; first | (obtain ⟨_, _, _, _, rfl⟩ := hK; exact ⟨rfl, fun _ h => h⟩) | (obtain ⟨_, _, rfl⟩ := hK; exact ⟨rfl, fun _ h => h⟩) | (obtain ⟨_, _, _, _, _, _, rfl⟩ := hK; exact ⟨rfl, fun _ h => List.mem_cons_of_mem _ h⟩) | (obtain ⟨_, _, _, _, _, _, _, rfl⟩ := hK; exact ⟨rfl, fun _ h => List.mem_cons_of_mem _ h⟩) | (obtain rfl := hK; exact ⟨rfl, fun _ h => h⟩)) ?_
          rintro _ ⟨_, G6, ⟨dv, rfl, hd2⟩, hn6, rfl⟩
          have hl26 : G2.Le G6 := hn6.le G2 (by simp)
          clear hn6
          have hg2 := good_put hgx he
          have hx2 : putDev x (2 + g.ring + 2 * g.area + y) (chunk b v) = writeTo g d l b (v + 1) := by rw [writeTo_succ hy, ex]; rfl
          have hc2 : (putDev x (2 + g.ring + 2 * g.area + y) (chunk b v)).cache.length ≤ 1000 + (v + 1) := by simp [putDev]; omega
          generalize putDev x (2 + g.ring + 2 * g.area + y) (chunk b v) = x2 at hd2 hg2 hx2 hc2
          obtain ⟨C1, n1, C2, n2, C3, n3, rfl, hfo⟩ := hd2.form
          clear hfo
          simp only [go_sem, Nat.reduceAdd, Nat.reduceSub, Nat.reduceMul, Nat.reduceEqDiff, Nat.reduceLT, Nat.reduceLeDiff, Nat.reduceBEq, Nat.reduceBNe, Int.reduceLT, Int.reduceLE, Int.reduceEq, Int.reduceAdd, Int.reduceSub, Int.reduceNeg, decide_true, decide_false, Bool.not_true, Bool.not_false, cond_true, cond_false, beq_self_eq_true, and_self, ne_eq, not_true_eq_false, not_false_eq_true, reduceCtorEq, Bool.true_beq, Bool.false_beq]
          exact ⟨by omega, again_ok (v + 1, x2, (C1, n1), (C2, n2), (C3, n3), G6) ⟨⟨by omega, hx2, hc2⟩, hg2, hd2, hl.mono hl26, hb.mono hl26⟩ (by simp only; omega) (by simp only [go_sem, Nat.reduceAdd, Nat.reduceSub, Nat.reduceMul, Nat.reduceEqDiff, Nat.reduceLT, Nat.reduceLeDiff, Nat.reduceBEq, Nat.reduceBNe, Int.reduceLT, Int.reduceLE, Int.reduceEq, Int.reduceAdd, Int.reduceSub, Int.reduceNeg, decide_true, decide_false, Bool.not_true, Bool.not_false, cond_true, cond_false, beq_self_eq_true, and_self, ne_eq, not_true_eq_false, not_false_eq_true, reduceCtorEq, Bool.true_beq, Bool.false_beq]; simp)⟩
  · have q1 : decide ((v : Int) < (l.length : Int)) = false := decide_eq_false (by omega)
    obtain rfl : v = l.length := by omega
    simp only [go_sem, Nat.reduceAdd, Nat.reduceSub, Nat.reduceMul, Nat.reduceEqDiff, Nat.reduceLT, Nat.reduceLeDiff, Nat.reduceBEq, Nat.reduceBNe, Int.reduceLT, Int.reduceLE, Int.reduceEq, Int.reduceAdd, Int.reduceSub, Int.reduceNeg, decide_true, decide_false, Bool.not_true, Bool.not_false, cond_true, cond_false, beq_self_eq_true, and_self, ne_eq, not_true_eq_false, not_false_eq_true, reduceCtorEq, Bool.true_beq, Bool.false_beq, q1]
    by_cases hf0 : x.fuel = 0
    · have hdn : downErr x = 10 := by unfold downErr; rw [if_pos hf0]
      refine plain_ok (N := 3000) (call_does (fun v G => v = .tuple #[.agg #[.slice none 0 0, .slice none 0 0, .slice none 0 0, .int .i64 0], .int .i64 10]) rfl rfl (by kernel_rfl) rfl (by simp only [dOk_some, dOk_none, Nat.reduceLT]) (fun G hG => ret_mono (flush_does hg hgx hG.wf (tidB hG (fun _ h => h) hT hW rfl rfl (by simp) (by simp; decide)) (hdx.mono (hG.le G2 (by simp)))) fun v G' _ h => dev_bad h hdn (by decide))) (QOk_body _ _ _) (by first | exact .inl rfl | exact .inr ⟨_, _, rfl, rfl⟩) ?_
      rintro _ ⟨_, G6, rfl, hn6, rfl⟩
      clear hn6
      simp only [go_sem, Nat.reduceAdd, Nat.reduceSub, Nat.reduceMul, Nat.reduceEqDiff, Nat.reduceLT, Nat.reduceLeDiff, Nat.reduceBEq, Nat.reduceBNe, Int.reduceLT, Int.reduceLE, Int.reduceEq, Int.reduceAdd, Int.reduceSub, Int.reduceNeg, decide_true, decide_false, Bool.not_true, Bool.not_false, cond_true, cond_false, beq_self_eq_true, and_self, ne_eq, not_true_eq_false, not_false_eq_true, reduceCtorEq, Bool.true_beq, Bool.false_beq]
      intro g6
      refine fin_ret (G := G0) Try.results44 ?_
      simp only [go_sem, Nat.reduceAdd, Nat.reduceSub, Nat.reduceMul, Nat.reduceEqDiff, Nat.reduceLT, Nat.reduceLeDiff, Nat.reduceBEq, Nat.reduceBNe, Int.reduceLT, Int.reduceLE, Int.reduceEq, Int.reduceAdd, Int.reduceSub, Int.reduceNeg, decide_true, decide_false, Bool.not_true, Bool.not_false, cond_true, cond_false, beq_self_eq_true, and_self, ne_eq, not_true_eq_false, not_false_eq_true, reduceCtorEq, Bool.true_beq, Bool.false_beq]
      intro a w' _ hle
      exact .inr ⟨_, l.length, by omega, rfl, by rw [← ex]; exact hdx.mono (hle G2 (by simp)), by rw [← ex]; exact hf0, by rw [← ex]; exact hgx⟩
    · have hdn : downErr x = 0 := by unfold downErr; rw [if_neg hf0]
      refine plain_ok (N := 3000) (call_does (fun v G => ∃ dv, v = .tuple #[dv, .int .i64 0] ∧ DevG G dv (flushDev x)) rfl rfl (by kernel_rfl) rfl (by simp only [dOk_some, dOk_none, Nat.reduceLT]) (fun G hG => ret_mono (flush_does hg hgx hG.wf (tidB hG (fun _ h => h) hT hW rfl rfl (by simp) (by simp; decide)) (hdx.mono (hG.le G2 (by simp)))) fun v G' _ h => dev_get h hdn)) (QOk_body _ _ _) (by first | exact .inl rfl | exact .inr ⟨_, _, rfl, rfl⟩) ?_
      rintro _ ⟨_, G6, ⟨dv, rfl, hd2⟩, hn6, rfl⟩
      clear hn6
      have hx2 : flushDev x = flushDev (writeTo g d l b l.length) := by rw [ex]
      generalize flushDev x = x2 at hd2 hx2
      obtain ⟨C1, n1, C2, n2, C3, n3, rfl, hfo⟩ := hd2.form
      clear hfo
      simp only [go_sem, Nat.reduceAdd, Nat.reduceSub, Nat.reduceMul, Nat.reduceEqDiff, Nat.reduceLT, Nat.reduceLeDiff, Nat.reduceBEq, Nat.reduceBNe, Int.reduceLT, Int.reduceLE, Int.reduceEq, Int.reduceAdd, Int.reduceSub, Int.reduceNeg, decide_true, decide_false, Bool.not_true, Bool.not_false, cond_true, cond_false, beq_self_eq_true, and_self, ne_eq, not_true_eq_false, not_false_eq_true, reduceCtorEq, Bool.true_beq, Bool.false_beq]
      intro g6
      refine fin_ret (G := G0) Try.results44 ?_
      simp only [go_sem, Nat.reduceAdd, Nat.reduceSub, Nat.reduceMul, Nat.reduceEqDiff, Nat.reduceLT, Nat.reduceLeDiff, Nat.reduceBEq, Nat.reduceBNe, Int.reduceLT, Int.reduceLE, Int.reduceEq, Int.reduceAdd, Int.reduceSub, Int.reduceNeg, decide_true, decide_false, Bool.not_true, Bool.not_false, cond_true, cond_false, beq_self_eq_true, and_self, ne_eq, not_true_eq_false, not_false_eq_true, reduceCtorEq, Bool.true_beq, Bool.false_beq]
      intro a w' _ hle
      exact .inl ⟨_, rfl, by rw [← hx2]; exact hd2.mono (hle G6 (by simp)), by rw [← ex]; exact hf0, by rw [← ex]; exact hgx⟩
set_option maxRecDepth 100000 in
set_option maxHeartbeats 8000000 in
theorem write_bad {g : Geo} (hg : GoodGeo g) {d : Dev} (hd : GoodDev g d) {dv lv bv : Value} {l : List Int} {b : List UInt8} (hroom : roomB g l (b.length : Int) = false) {G0 : GW} (hW : G0.Wf) (h : DevG G0 dv d) (hl : IntsG G0 lv l) (hb : ByG G0 bv b) :
    Calls Try.prog 44 #[geoV g, dv, lv, bv] G0.w (Ret G0 fun v _ => v = .tuple #[zeroDev, .int .i64 2]) := by
  obtain ⟨A, c, rfl, _, _⟩ := hl.form
  obtain ⟨Ab, cb, rfl, hb1, hb2⟩ := hb.form
  obtain ⟨A1, k1, A2, k2, A3, k3, rfl, hfo⟩ := h.form
  clear hfo
  refine enter (G := G0) (n := 81) 3000 hW Try.func44 rfl Try.ntmps44 (by simp) ?_
  simp only [go_sem, Nat.reduceAdd, Nat.reduceSub, Nat.reduceMul, Nat.reduceEqDiff, Nat.reduceLT, Nat.reduceLeDiff, Nat.reduceBEq, Nat.reduceBNe, Int.reduceLT, Int.reduceLE, Int.reduceEq, Int.reduceAdd, Int.reduceSub, Int.reduceNeg, decide_true, decide_false, Bool.not_true, Bool.not_false, cond_true, cond_false, beq_self_eq_true, and_self, ne_eq, not_true_eq_false, not_false_eq_true, reduceCtorEq, Bool.true_beq, Bool.false_beq, geoV]
  intro g1 g2 g3
  refine plain_ok (N := 3000) (call_does (fun v G => v = .int .i64 0) rfl rfl (by kernel_rfl) rfl (by simp only [dOk_some, dOk_none, Nat.reduceLT]) (fun G hG => chk hg hd (h.mono (hG.le G0 (by simp))))) (QOk_body _ _ _) (by first | exact .inl rfl | exact .inr ⟨_, _, rfl, rfl⟩) ?_
  rintro _ ⟨v, G1, rfl, hn1, rfl⟩
  clear hn1
  simp only [go_sem, Nat.reduceAdd, Nat.reduceSub, Nat.reduceMul, Nat.reduceEqDiff, Nat.reduceLT, Nat.reduceLeDiff, Nat.reduceBEq, Nat.reduceBNe, Int.reduceLT, Int.reduceLE, Int.reduceEq, Int.reduceAdd, Int.reduceSub, Int.reduceNeg, decide_true, decide_false, Bool.not_true, Bool.not_false, cond_true, cond_false, beq_self_eq_true, and_self, ne_eq, not_true_eq_false, not_false_eq_true, reduceCtorEq, Bool.true_beq, Bool.false_beq]
  refine plain_ok (N := 3000) (call_does (fun v _ => v = .bool false) rfl rfl (by kernel_rfl) rfl (by simp only [dOk_some, dOk_none, Nat.reduceLT]) (fun G hG => ret_mono (room_does (g := g) (size := (b.length : Int)) hG.wf (hl.mono (hG.le G0 (by simp)))) fun v G' _ h => by rw [h, hroom])) (QOk_body _ _ _) (by first | exact .inl rfl | exact .inr ⟨_, _, rfl, rfl⟩) ?_
  rintro _ ⟨_, G2, rfl, hn2, rfl⟩
  clear hn2
  simp only [go_sem, Nat.reduceAdd, Nat.reduceSub, Nat.reduceMul, Nat.reduceEqDiff, Nat.reduceLT, Nat.reduceLeDiff, Nat.reduceBEq, Nat.reduceBNe, Int.reduceLT, Int.reduceLE, Int.reduceEq, Int.reduceAdd, Int.reduceSub, Int.reduceNeg, decide_true, decide_false, Bool.not_true, Bool.not_false, cond_true, cond_false, beq_self_eq_true, and_self, ne_eq, not_true_eq_false, not_false_eq_true, reduceCtorEq, Bool.true_beq, Bool.false_beq]
  refine fin_ret (G := G0) Try.results44 ?_
  simp only [go_sem, Nat.reduceAdd, Nat.reduceSub, Nat.reduceMul, Nat.reduceEqDiff, Nat.reduceLT, Nat.reduceLeDiff, Nat.reduceBEq, Nat.reduceBNe, Int.reduceLT, Int.reduceLE, Int.reduceEq, Int.reduceAdd, Int.reduceSub, Int.reduceNeg, decide_true, decide_false, Bool.not_true, Bool.not_false, cond_true, cond_false, beq_self_eq_true, and_self, ne_eq, not_true_eq_false, not_false_eq_true, reduceCtorEq, Bool.true_beq, Bool.false_beq]
  intro a w' _ _
  rfl
end Go.Proofs.Ytomfladifefomaa
