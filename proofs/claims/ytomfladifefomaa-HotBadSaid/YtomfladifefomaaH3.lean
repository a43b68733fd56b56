/- 'hot.Read': what the sectors hold, one behind the other. Conditions: as each law states them. -/
import Derived.Test.YtomfladifefomaaH2
namespace Go.Proofs.Ytomfladifefomaa
open Go.RowKit
set_option linter.unusedSimpArgs false
def readTo (g : Geo) (d : Dev) (l : List Int) : Nat → List UInt8
  | 0 => []
  | i + 1 => match l[i]? with
    | some n => readTo g d l i ++ content d (firstOf g + n).toNat
    | none => readTo g d l i
theorem readTo_succ {g : Geo} {d : Dev} {l : List Int} {i : Nat} {n : Int} (h : l[i]? = some n) : readTo g d l (i + 1) = readTo g d l i ++ content d (firstOf g + n).toNat := by simp [readTo, h]
set_option maxRecDepth 100000 in
set_option maxHeartbeats 16000000 in
theorem read_does {g : Geo} (hg : GoodGeo g) {d : Dev} (hd : GoodDev g d) {dv lv : Value} {l : List Int} {n : Nat} (hroom : roomB g l (n : Int) = true) {G0 : GW} (hW : G0.Wf) (h : DevG G0 dv d) (hl : IntsG G0 lv l) :
    Calls Try.prog 45 #[geoV g, dv, lv, .int .i64 (n : Int)] G0.w (Ret G0 fun v G => ∃ A c, v = .tuple #[.slice A n c, .int .i64 0] ∧ ByG G (.slice A n c) ((readTo g d l l.length).take n) ∧ (readTo g d l l.length).length = 64 * l.length) := by
  obtain ⟨A, c, rfl, _, _⟩ := hl.form
  obtain ⟨hok, hz0, hz1, hz2⟩ := roomB_parts hroom
  have hfi : firstOf g = 2 + g.ring + 2 * g.area := rfl
  have hsx : (d.safe.length : Int) = 2 + g.ring + 2 * g.area + g.hot := hd.safe
  have := hg.r1; have := hg.r2; have := hg.a1; have := hg.a2; have := hg.h1; have := hg.h2
  obtain ⟨A1, k1, A2, k2, A3, k3, rfl, hfo⟩ := h.form
  clear hfo
  refine enter (G := G0) (n := 50) 3000 hW Try.func45 rfl Try.ntmps45 (by simp) ?_
  simp only [go_sem, Nat.reduceAdd, Nat.reduceSub, Nat.reduceMul, Nat.reduceEqDiff, Nat.reduceLT, Nat.reduceLeDiff, Nat.reduceBEq, Nat.reduceBNe, Int.reduceLT, Int.reduceLE, Int.reduceEq, Int.reduceAdd, Int.reduceSub, Int.reduceNeg, decide_true, decide_false, Bool.not_true, Bool.not_false, cond_true, cond_false, beq_self_eq_true, and_self, ne_eq, not_true_eq_false, not_false_eq_true, reduceCtorEq, Bool.true_beq, Bool.false_beq, geoV]
  intro g1 g2
  refine plain_ok (N := 3000) (call_does (fun v G => v = .int .i64 0) rfl rfl (by kernel_rfl) rfl (by simp only [dOk_some, dOk_none, Nat.reduceLT]) (fun G hG => chk hg hd (h.mono (hG.le G0 (by simp))))) (QOk_body _ _ _) (by first | exact .inl rfl | exact .inr ⟨_, _, rfl, rfl⟩) ?_
  rintro _ ⟨v, G1, rfl, hn1, rfl⟩
  clear hn1
  simp only [go_sem, Nat.reduceAdd, Nat.reduceSub, Nat.reduceMul, Nat.reduceEqDiff, Nat.reduceLT, Nat.reduceLeDiff, Nat.reduceBEq, Nat.reduceBNe, Int.reduceLT, Int.reduceLE, Int.reduceEq, Int.reduceAdd, Int.reduceSub, Int.reduceNeg, decide_true, decide_false, Bool.not_true, Bool.not_false, cond_true, cond_false, beq_self_eq_true, and_self, ne_eq, not_true_eq_false, not_false_eq_true, reduceCtorEq, Bool.true_beq, Bool.false_beq]
  refine plain_ok (N := 3000) (call_does (fun v _ => v = .bool true) rfl rfl (by kernel_rfl) rfl (by simp only [dOk_some, dOk_none, Nat.reduceLT]) (fun G hG => ret_mono (room_does (g := g) (size := (n : Int)) hG.wf (hl.mono (hG.le G0 (by simp)))) fun v G' _ h => by rw [h, hroom])) (QOk_body _ _ _) (by first | exact .inl rfl | exact .inr ⟨_, _, rfl, rfl⟩) ?_
  rintro _ ⟨_, G2, rfl, hn2, rfl⟩
  have hl02 : G0.Le G2 := hn2.le G0 (by simp)
  clear hn2
  simp only [go_sem, Nat.reduceAdd, Nat.reduceSub, Nat.reduceMul, Nat.reduceEqDiff, Nat.reduceLT, Nat.reduceLeDiff, Nat.reduceBEq, Nat.reduceBNe, Int.reduceLT, Int.reduceLE, Int.reduceEq, Int.reduceAdd, Int.reduceSub, Int.reduceNeg, decide_true, decide_false, Bool.not_true, Bool.not_false, cond_true, cond_false, beq_self_eq_true, and_self, ne_eq, not_true_eq_false, not_false_eq_true, reduceCtorEq, Bool.true_beq, Bool.false_beq]
  refine row_ok 5 1 ?_
  refine loop_ok (N := 3000) (ι := Nat × Option Addr × Nat × GW)
    (fun i => match i with | (v, A', c', G) => ⟨[(3, .c (.v (.int .i64 (n : Int)))), (4, .c (.p 0 g1 0)), (5, .c (.p 1 g2 0)), (11, .c (.v (.slice A' (64 * v) c'))), (27, .c (.v (.slice A l.length c))), (28, .c (.v (.int .i64 (l.length : Int)))), (29, .c (.v (.int .i64 (v : Int))))],
      [⟨1, g2, 37, [.v (.slice A1 d.safe.length k1), .v (.slice A2 d.cache.length k2), .v (.slice A3 d.vols.length k3), .v (.int .i64 d.fuel)]⟩, ⟨0, g1, 32, [.v (.int .i64 g.ring), .v (.int .i64 g.area), .v (.int .i64 g.hot), .v (.int .i64 g.volume), .v (.int .i64 g.volumes)]⟩], [⟨.slice A' (64 * v) c', 5, 1, 64 * v, (readTo g d l v).map enc8⟩], [], [G], 2⟩)
    (fun i => match i with | (v, A', c', G) => v ≤ l.length ∧ (readTo g d l v).length = 64 * v ∧ DevG G (.agg #[.slice A1 d.safe.length k1, .slice A2 d.cache.length k2, .slice A3 d.vols.length k3, .int .i64 d.fuel]) d ∧ IntsG G (.slice A l.length c) l)
    (fun i => l.length - i.1) (QOk_body _ _ _) (0, none, 0, G2) ⟨by omega, rfl, h.mono hl02, hl.mono hl02⟩ (by simp only [go_sem, Nat.reduceAdd, Nat.reduceSub, Nat.reduceMul, Nat.reduceEqDiff, Nat.reduceLT, Nat.reduceLeDiff, Nat.reduceBEq, Nat.reduceBNe, Int.reduceLT, Int.reduceLE, Int.reduceEq, Int.reduceAdd, Int.reduceSub, Int.reduceNeg, decide_true, decide_false, Bool.not_true, Bool.not_false, cond_true, cond_false, beq_self_eq_true, and_self, ne_eq, not_true_eq_false, not_false_eq_true, reduceCtorEq, Bool.true_beq, Bool.false_beq]; simp [readTo]) ?_
  clear h hl hl02 G1 G2
  rintro ⟨v, A', c', G2⟩ ⟨hv, hrl, hdx, hl⟩
  simp only
  have hl10 : l.length ≤ 10 := by omega
  by_cases hlt : v < l.length
  · have q1 : decide ((v : Int) < (l.length : Int)) = true := decide_eq_true (by omega)
    obtain ⟨y, hy⟩ : ∃ y, l[v]? = some y := ⟨_, List.getElem?_eq_getElem hlt⟩
    obtain ⟨y0, y1, _⟩ := okAt_parts (hok v hlt) hy
    obtain ⟨k, hk⟩ : ∃ k : Nat, 2 + g.ring + 2 * g.area + y = (k : Int) := ⟨(2 + g.ring + 2 * g.area + y).toNat, by omega⟩
    have hrs := readTo_succ (g := g) (d := d) hy
    rw [hfi, hk, Int.toNat_natCast] at hrs
    have hcl : (content d k).length = 64 := val_len hd all_ k (by omega) _
    simp only [go_sem, Nat.reduceAdd, Nat.reduceSub, Nat.reduceMul, Nat.reduceEqDiff, Nat.reduceLT, Nat.reduceLeDiff, Nat.reduceBEq, Nat.reduceBNe, Int.reduceLT, Int.reduceLE, Int.reduceEq, Int.reduceAdd, Int.reduceSub, Int.reduceNeg, decide_true, decide_false, Bool.not_true, Bool.not_false, cond_true, cond_false, beq_self_eq_true, and_self, ne_eq, not_true_eq_false, not_false_eq_true, reduceCtorEq, Bool.true_beq, Bool.false_beq, q1]
    refine plain_ok (N := 3000) (elem_does (R := IntG) (l := l) (m := v) rfl tySlice28 tySize3 rfl rfl (by simp only [dOk_some, dOk_none, Nat.reduceLT]) rfl hy (fun G hG => hl.mono (hG.le G2 (by simp)))) (QOk_body _ _ _) (by first | exact .inl rfl | exact .inr ⟨_, _, rfl, rfl⟩) ?_
    rintro _ ⟨gw, ow, cs, G3, _, rfl, rfl⟩
    simp only [go_sem, Nat.reduceAdd, Nat.reduceSub, Nat.reduceMul, Nat.reduceEqDiff, Nat.reduceLT, Nat.reduceLeDiff, Nat.reduceBEq, Nat.reduceBNe, Int.reduceLT, Int.reduceLE, Int.reduceEq, Int.reduceAdd, Int.reduceSub, Int.reduceNeg, decide_true, decide_false, Bool.not_true, Bool.not_false, cond_true, cond_false, beq_self_eq_true, and_self, ne_eq, not_true_eq_false, not_false_eq_true, reduceCtorEq, Bool.true_beq, Bool.false_beq]
    refine draw_ok (N := 3000) (.take 0 (.take 1 (.take 2 (.take 4 (.alt 3 (.take 5 (.alt 6 (.take 7 (.take 8 (.take 9 (.take 10 (.take 11 .done))))) .last)) .last))))) [] (QOk_body _ _ _) follows_mixed (by kernel_rfl) (by kernel_rfl) ?_
    simp only [go_sem, Nat.reduceAdd, Nat.reduceSub, Nat.reduceMul, Nat.reduceEqDiff, Nat.reduceLT, Nat.reduceLeDiff, Nat.reduceBEq, Nat.reduceBNe, Int.reduceLT, Int.reduceLE, Int.reduceEq, Int.reduceAdd, Int.reduceSub, Int.reduceNeg, decide_true, decide_false, Bool.not_true, Bool.not_false, cond_true, cond_false, beq_self_eq_true, and_self, ne_eq, not_true_eq_false, not_false_eq_true, reduceCtorEq, Bool.true_beq, Bool.false_beq]
    refine any_ok2 (N := 3000) (call_does (fun v _ => v = .int .i64 (2 + g.ring + 2 * g.area)) rfl rfl (by kernel_rfl) rfl (by simp only [dOk_some, dOk_none, Nat.reduceLT]) (fun G hG => first_does hg hG.wf)) (QOk_body _ _ _) rfl (by first | exact .inl rfl | exact .inr ⟨_, _, rfl, rfl⟩) (by intro _ hK; first | (obtain ⟨_, _, _, _, rfl⟩ := hK; exact ⟨rfl, fun _ h => h⟩) | (obtain ⟨_, _, rfl⟩ := hK; exact ⟨rfl, fun _ h => h⟩) | (obtain ⟨_, _, _, _, _, _, rfl⟩ := hK; exact ⟨rfl, fun _ h => List.mem_cons_of_mem _ h⟩) | (obtain ⟨_, _, _, _, _, _, _, rfl⟩ := hK; exact ⟨rfl, fun _ h => List.mem_cons_of_mem _ h⟩) | (obtain rfl := hK; exact ⟨rfl, fun _ h => h⟩)) ?_
    rintro _ ⟨_, G4, rfl, hn4, rfl⟩
    clear hn4
    simp only [go_sem, Nat.reduceAdd, Nat.reduceSub, Nat.reduceMul, Nat.reduceEqDiff, Nat.reduceLT, Nat.reduceLeDiff, Nat.reduceBEq, Nat.reduceBNe, Int.reduceLT, Int.reduceLE, Int.reduceEq, Int.reduceAdd, Int.reduceSub, Int.reduceNeg, decide_true, decide_false, Bool.not_true, Bool.not_false, cond_true, cond_false, beq_self_eq_true, and_self, ne_eq, not_true_eq_false, not_false_eq_true, reduceCtorEq, Bool.true_beq, Bool.false_beq]
    rw [hk]
    refine ⟨by omega, ?_⟩
    refine any_ok2 (N := 3000) (call_does (fun v G => ∃ A c, v = .tuple #[.slice A 64 c, .int .i64 0] ∧ ByG G (.slice A 64 c) (content d k)) rfl rfl (by kernel_rfl) rfl (by simp only [dOk_some, dOk_none, Nat.reduceLT]) (fun G hG => get_ok hg hd (by omega) hG.wf (hdx.mono (hG.le G2 (by simp))))) (QOk_body _ _ _) rfl (by first | exact .inl rfl | exact .inr ⟨_, _, rfl, rfl⟩) (by intro _ hK; first | (obtain ⟨_, _, _, _, rfl⟩ := hK; exact ⟨rfl, fun _ h => h⟩) | (obtain ⟨_, _, rfl⟩ := hK; exact ⟨rfl, fun _ h => h⟩) | (obtain ⟨_, _, _, _, _, _, rfl⟩ := hK; exact ⟨rfl, fun _ h => List.mem_cons_of_mem _ h⟩) | (obtain ⟨_, _, _, _, _, _, _, rfl⟩ := hK; exact ⟨rfl, fun _ h => List.mem_cons_of_mem _ h⟩) | (obtain rfl := hK; exact ⟨rfl, fun _ h => h⟩)) ?_
    rintro _ ⟨_, G5, ⟨Ag, cg, rfl, hgot⟩, hn5, rfl⟩
    have hl25 : G2.Le G5 := hn5.le G2 (by simp)
    clear hn5
    simp only [go_sem, Nat.reduceAdd, Nat.reduceSub, Nat.reduceMul, Nat.reduceEqDiff, Nat.reduceLT, Nat.reduceLeDiff, Nat.reduceBEq, Nat.reduceBNe, Int.reduceLT, Int.reduceLE, Int.reduceEq, Int.reduceAdd, Int.reduceSub, Int.reduceNeg, decide_true, decide_false, Bool.not_true, Bool.not_false, cond_true, cond_false, beq_self_eq_true, and_self, ne_eq, not_true_eq_false, not_false_eq_true, reduceCtorEq, Bool.true_beq, Bool.false_beq]
    refine plain_ok (N := 3000) (append_does (R1 := []) (m := 64) (news := (content d k).map enc8) rfl tySlice23 tyApp5 rfl rfl rfl rfl (by simp only [dOk_some, dOk_none, Nat.reduceLT]) (enc8_one _) (by unfold maxLen; omega) (by omega) (fun G hG => by have := (hgot.mono (hG.le G5 (by simp))).r; rw [BytesR, hcl] at this; exact this)) (QOk_body _ _ _) (by first | exact .inl rfl | exact .inr ⟨_, _, rfl, rfl⟩) ?_
    rintro _ ⟨A'', c'', rfl⟩
    simp only [go_sem, Nat.reduceAdd, Nat.reduceSub, Nat.reduceMul, Nat.reduceEqDiff, Nat.reduceLT, Nat.reduceLeDiff, Nat.reduceBEq, Nat.reduceBNe, Int.reduceLT, Int.reduceLE, Int.reduceEq, Int.reduceAdd, Int.reduceSub, Int.reduceNeg, decide_true, decide_false, Bool.not_true, Bool.not_false, cond_true, cond_false, beq_self_eq_true, and_self, ne_eq, not_true_eq_false, not_false_eq_true, reduceCtorEq, Bool.true_beq, Bool.false_beq]
    have e64 : 64 * v + 64 = 64 * (v + 1) := by omega
    rw [e64, ← List.map_append, ← hrs]
    exact ⟨by omega, again_ok (v + 1, A'', c'', G5) ⟨by omega, by rw [hrs, List.length_append, hrl, hcl]; omega, hdx.mono hl25, hl.mono hl25⟩ (by simp only; omega) (by simp only [go_sem, Nat.reduceAdd, Nat.reduceSub, Nat.reduceMul, Nat.reduceEqDiff, Nat.reduceLT, Nat.reduceLeDiff, Nat.reduceBEq, Nat.reduceBNe, Int.reduceLT, Int.reduceLE, Int.reduceEq, Int.reduceAdd, Int.reduceSub, Int.reduceNeg, decide_true, decide_false, Bool.not_true, Bool.not_false, cond_true, cond_false, beq_self_eq_true, and_self, ne_eq, not_true_eq_false, not_false_eq_true, reduceCtorEq, Bool.true_beq, Bool.false_beq]; simp)⟩
  · have q1 : decide ((v : Int) < (l.length : Int)) = false := decide_eq_false (by omega)
    obtain rfl : v = l.length := by omega
    simp only [go_sem, Nat.reduceAdd, Nat.reduceSub, Nat.reduceMul, Nat.reduceEqDiff, Nat.reduceLT, Nat.reduceLeDiff, Nat.reduceBEq, Nat.reduceBNe, Int.reduceLT, Int.reduceLE, Int.reduceEq, Int.reduceAdd, Int.reduceSub, Int.reduceNeg, decide_true, decide_false, Bool.not_true, Bool.not_false, cond_true, cond_false, beq_self_eq_true, and_self, ne_eq, not_true_eq_false, not_false_eq_true, reduceCtorEq, Bool.true_beq, Bool.false_beq, q1]
    refine read_ok (R1 := []) rfl fun G3 hle3 hs3 => ?_
    simp only [go_sem, Nat.reduceAdd, Nat.reduceSub, Nat.reduceMul, Nat.reduceEqDiff, Nat.reduceLT, Nat.reduceLeDiff, Nat.reduceBEq, Nat.reduceBNe, Int.reduceLT, Int.reduceLE, Int.reduceEq, Int.reduceAdd, Int.reduceSub, Int.reduceNeg, decide_true, decide_false, Bool.not_true, Bool.not_false, cond_true, cond_false, beq_self_eq_true, and_self, ne_eq, not_true_eq_false, not_false_eq_true, reduceCtorEq, Bool.true_beq, Bool.false_beq]
    have hcc : 64 * l.length ≤ c' := by obtain ⟨_, _, e, q, _⟩ := hs3; cases e; exact q
    refine plain_ok (N := 3000) (cut_does 0 n c' rfl tySlice23 tySize5 rfl rfl ⟨_, _, rfl, by omega⟩ (show 0 + c' = c' from by omega) (by simp) (by simp only [dOk_some, dOk_none, Nat.reduceLT]) (by omega) (by omega) (by omega) (fun G hG => (hs3.mono (hG.le G3 (by simp)) : Sl _ _ _ _ _ _))) (QOk_body _ _ _) (by first | exact .inl rfl | exact .inr ⟨_, _, rfl, rfl⟩) ?_
    rintro _ ⟨A4, G4, hs4, hn4, rfl⟩
    clear hn4
    have hb4 := byG_cut hs4 (by omega)
    rw [List.drop_zero] at hb4
    simp only [go_sem, Nat.reduceAdd, Nat.reduceSub, Nat.reduceMul, Nat.reduceEqDiff, Nat.reduceLT, Nat.reduceLeDiff, Nat.reduceBEq, Nat.reduceBNe, Int.reduceLT, Int.reduceLE, Int.reduceEq, Int.reduceAdd, Int.reduceSub, Int.reduceNeg, decide_true, decide_false, Bool.not_true, Bool.not_false, cond_true, cond_false, beq_self_eq_true, and_self, ne_eq, not_true_eq_false, not_false_eq_true, reduceCtorEq, Bool.true_beq, Bool.false_beq]
    refine fin_ret (G := G0) Try.results45 ?_
    simp only [go_sem, Nat.reduceAdd, Nat.reduceSub, Nat.reduceMul, Nat.reduceEqDiff, Nat.reduceLT, Nat.reduceLeDiff, Nat.reduceBEq, Nat.reduceBNe, Int.reduceLT, Int.reduceLE, Int.reduceEq, Int.reduceAdd, Int.reduceSub, Int.reduceNeg, decide_true, decide_false, Bool.not_true, Bool.not_false, cond_true, cond_false, beq_self_eq_true, and_self, ne_eq, not_true_eq_false, not_false_eq_true, reduceCtorEq, Bool.true_beq, Bool.false_beq]
    intro a w' _ hle
    exact ⟨A4, c', rfl, hb4.mono (hle G4 (by simp)), hrl⟩
set_option maxRecDepth 100000 in
set_option maxHeartbeats 8000000 in
theorem read_bad {g : Geo} (hg : GoodGeo g) {d : Dev} (hd : GoodDev g d) {dv lv : Value} {l : List Int} {size : Int} (hroom : roomB g l size = false) {G0 : GW} (hW : G0.Wf) (h : DevG G0 dv d) (hl : IntsG G0 lv l) :
    Calls Try.prog 45 #[geoV g, dv, lv, .int .i64 size] G0.w (Ret G0 fun v _ => v = .tuple #[.slice none 0 0, .int .i64 2]) := by
  obtain ⟨A, c, rfl, _, _⟩ := hl.form
  obtain ⟨A1, k1, A2, k2, A3, k3, rfl, hfo⟩ := h.form
  clear hfo
  refine enter (G := G0) (n := 50) 3000 hW Try.func45 rfl Try.ntmps45 (by simp) ?_
  simp only [go_sem, Nat.reduceAdd, Nat.reduceSub, Nat.reduceMul, Nat.reduceEqDiff, Nat.reduceLT, Nat.reduceLeDiff, Nat.reduceBEq, Nat.reduceBNe, Int.reduceLT, Int.reduceLE, Int.reduceEq, Int.reduceAdd, Int.reduceSub, Int.reduceNeg, decide_true, decide_false, Bool.not_true, Bool.not_false, cond_true, cond_false, beq_self_eq_true, and_self, ne_eq, not_true_eq_false, not_false_eq_true, reduceCtorEq, Bool.true_beq, Bool.false_beq, geoV]
  intro g1 g2
  refine plain_ok (N := 3000) (call_does (fun v G => v = .int .i64 0) rfl rfl (by kernel_rfl) rfl (by simp only [dOk_some, dOk_none, Nat.reduceLT]) (fun G hG => chk hg hd (h.mono (hG.le G0 (by simp))))) (QOk_body _ _ _) (by first | exact .inl rfl | exact .inr ⟨_, _, rfl, rfl⟩) ?_
  rintro _ ⟨v, G1, rfl, hn1, rfl⟩
  clear hn1
  simp only [go_sem, Nat.reduceAdd, Nat.reduceSub, Nat.reduceMul, Nat.reduceEqDiff, Nat.reduceLT, Nat.reduceLeDiff, Nat.reduceBEq, Nat.reduceBNe, Int.reduceLT, Int.reduceLE, Int.reduceEq, Int.reduceAdd, Int.reduceSub, Int.reduceNeg, decide_true, decide_false, Bool.not_true, Bool.not_false, cond_true, cond_false, beq_self_eq_true, and_self, ne_eq, not_true_eq_false, not_false_eq_true, reduceCtorEq, Bool.true_beq, Bool.false_beq]
  refine plain_ok (N := 3000) (call_does (fun v _ => v = .bool false) rfl rfl (by kernel_rfl) rfl (by simp only [dOk_some, dOk_none, Nat.reduceLT]) (fun G hG => ret_mono (room_does (g := g) (size := size) hG.wf (hl.mono (hG.le G0 (by simp)))) fun v G' _ h => by rw [h, hroom])) (QOk_body _ _ _) (by first | exact .inl rfl | exact .inr ⟨_, _, rfl, rfl⟩) ?_
  rintro _ ⟨_, G2, rfl, hn2, rfl⟩
  clear hn2
  simp only [go_sem, Nat.reduceAdd, Nat.reduceSub, Nat.reduceMul, Nat.reduceEqDiff, Nat.reduceLT, Nat.reduceLeDiff, Nat.reduceBEq, Nat.reduceBNe, Int.reduceLT, Int.reduceLE, Int.reduceEq, Int.reduceAdd, Int.reduceSub, Int.reduceNeg, decide_true, decide_false, Bool.not_true, Bool.not_false, cond_true, cond_false, beq_self_eq_true, and_self, ne_eq, not_true_eq_false, not_false_eq_true, reduceCtorEq, Bool.true_beq, Bool.false_beq]
  refine fin_ret (G := G0) Try.results45 ?_
  simp only [go_sem, Nat.reduceAdd, Nat.reduceSub, Nat.reduceMul, Nat.reduceEqDiff, Nat.reduceLT, Nat.reduceLeDiff, Nat.reduceBEq, Nat.reduceBNe, Int.reduceLT, Int.reduceLE, Int.reduceEq, Int.reduceAdd, Int.reduceSub, Int.reduceNeg, decide_true, decide_false, Bool.not_true, Bool.not_false, cond_true, cond_false, beq_self_eq_true, and_self, ne_eq, not_true_eq_false, not_false_eq_true, reduceCtorEq, Bool.true_beq, Bool.false_beq]
  intro a w' _ _
  rfl
end Go.Proofs.Ytomfladifefomaa
