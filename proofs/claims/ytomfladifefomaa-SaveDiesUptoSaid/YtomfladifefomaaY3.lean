/- hot.Fetch, hot.Pack. Conditions: as each law states them. -/
import Derived.Test.YtomfladifefomaaY2
namespace Go.Proofs.Ytomfladifefomaa
open Go.RowKit
set_option linter.unusedSimpArgs false
set_option maxRecDepth 100000 in
set_option maxHeartbeats 8000000 in
theorem hotFetch_does {g : Geo} (hg : GoodGeo g) {d : Dev} (hd : GoodDev g d) {dv : Value} {v num at_ : Int} {n : Nat} (h1 : 1 ≤ num) (h2 : num ≤ 1048576) (h4 : n ≤ 600) (ha : at_ ≤ 1000000) (he : fetErr d v at_ (6 + (n : Int)) = 0) (hfb : (fetBytes d v at_ (6 + (n : Int))).length = 6 + n) {G0 : GW} (hW : G0.Wf) (h : DevG G0 dv d) :
    Calls Try.prog 47 #[geoV g, dv, .int .i64 v, .agg #[.int .i64 num, .int .i64 at_, .int .i64 (n : Int)]] G0.w (Ret G0 fun u G =>
      ((fetBytes d v at_ (6 + (n : Int))).take 6 = headB num n → ∃ A c, u = .tuple #[.slice A n c, .int .i64 0] ∧ ByG G (.slice A n c) ((fetBytes d v at_ (6 + (n : Int))).drop 6)) ∧
      ((fetBytes d v at_ (6 + (n : Int))).take 6 ≠ headB num n → u = .tuple #[.slice none 0 0, .int .i64 4])) := by
  obtain ⟨A1, k1, A2, k2, A3, k3, rfl, hfo⟩ := h.form
  clear hfo
  refine enter (G := G0) (n := 56) 3000 hW Try.func47 rfl Try.ntmps47 (by simp) ?_
  have q1 : decide (num < 1) = false := decide_eq_false (by omega)
  have q2 : decide (1048576 < num) = false := decide_eq_false (by omega)
  have q3 : decide ((n : Int) < 0) = false := decide_eq_false (by omega)
  have q4 : decide (600 < (n : Int)) = false := decide_eq_false (by omega)
  simp only [go_sem, Nat.reduceAdd, Nat.reduceSub, Nat.reduceMul, Nat.reduceEqDiff, Nat.reduceLT, Nat.reduceLeDiff, Nat.reduceBEq, Nat.reduceBNe, Int.reduceLT, Int.reduceLE, Int.reduceEq, Int.reduceAdd, Int.reduceSub, Int.reduceNeg, reduceCtorEq, geoV]
  intro g1 g2 g3
  simp only [go_sem, Nat.reduceAdd, Nat.reduceSub, Nat.reduceMul, Nat.reduceEqDiff, Nat.reduceLT, Nat.reduceLeDiff, Nat.reduceBEq, Nat.reduceBNe, Int.reduceLT, Int.reduceLE, Int.reduceEq, Int.reduceAdd, Int.reduceSub, Int.reduceNeg, reduceCtorEq, q1, q2, q3, q4]
  refine ⟨by omega, ?_⟩
  refine plain_ok (N := 3000) (call_does (fun u G => ∃ A c, u = .tuple #[.slice A (6 + n) c, .int .i64 0] ∧ ByG G (.slice A (6 + n) c) (fetBytes d v at_ (6 + (n : Int)))) rfl rfl (by kernel_rfl) rfl (by simp only [dOk_some, dOk_none, Nat.reduceLT]) (fun G hG => ret_mono (fetch_does (v := v) (a := at_) (n := 6 + (n : Int)) hg hd (by omega) hG.wf (h.mono (hG.le G0 (by simp)))) fun u G' _ hu => by obtain ⟨x, e, hb⟩ := byt_get hu he; obtain ⟨A, c, rfl, _⟩ := hb.form; rw [hfb] at e hb; exact ⟨A, c, e, hb⟩)) (QOk_body _ _ _) (by first | exact .inl rfl | exact .inr ⟨_, _, rfl, rfl⟩) ?_
  rintro _ ⟨_, G1, ⟨A, c, rfl, hb⟩, hn1, rfl⟩
  clear hn1
  generalize fetBytes d v at_ (6 + (n : Int)) = fb at hfb hb
  have hcc : 6 + n ≤ c := by obtain ⟨_, _, e, q, _⟩ := hb.form; rw [hfb] at e q; cases e; exact q
  have hbs : Sl G1 5 1 (6 + n) (.slice A (6 + n) c) (fb.map enc8) := by
    have := hb
    unfold ByG Byt at this
    rw [hfb] at this
    exact this
  simp only [go_sem, Nat.reduceAdd, Nat.reduceSub, Nat.reduceMul, Nat.reduceEqDiff, Nat.reduceLT, Nat.reduceLeDiff, Nat.reduceBEq, Nat.reduceBNe, Int.reduceLT, Int.reduceLE, Int.reduceEq, Int.reduceAdd, Int.reduceSub, Int.reduceNeg, reduceCtorEq]
  refine draw_ok (N := 3000) (.take 0 (.take 2 (.take 3 (.take 4 (.take 5 (.alt 1 (.alt 6 (.alt 7 (.take 8 .done) .last) .last) (.alt 6 (.alt 1 (.alt 7 (.take 8 .done) .last) .last) .last))))))) [] (QOk_body _ _ _) follows_mixed (by kernel_rfl) (by kernel_rfl) ?_
  simp only [go_sem, Nat.reduceAdd, Nat.reduceSub, Nat.reduceMul, Nat.reduceEqDiff, Nat.reduceLT, Nat.reduceLeDiff, Nat.reduceBEq, Nat.reduceBNe, Int.reduceLT, Int.reduceLE, Int.reduceEq, Int.reduceAdd, Int.reduceSub, Int.reduceNeg, reduceCtorEq]
  refine ⟨?_, ?_⟩
  · refine any_ok2 (N := 3000) (cut_does 0 6 c rfl tySlice23 tySize5 rfl rfl ⟨_, _, rfl, by omega⟩ (show 0 + c = c from by omega) (by simp) (by simp only [dOk_some, dOk_none, Nat.reduceLT]) (by omega) (by omega) (by omega) (fun G hG => hbs.mono (hG.le G1 (by simp)))) (QOk_body _ _ _) rfl (by first | exact .inl rfl | exact .inr ⟨_, _, rfl, rfl⟩) (by intro _ hK; first | (obtain ⟨_, _, _, _, rfl⟩ := hK; exact ⟨rfl, fun _ h => h⟩) | (obtain ⟨_, _, rfl⟩ := hK; exact ⟨rfl, fun _ h => h⟩) | (obtain ⟨_, _, _, _, _, _, rfl⟩ := hK; exact ⟨rfl, fun _ h => List.mem_cons_of_mem _ h⟩) | (obtain ⟨_, _, _, _, _, _, _, rfl⟩ := hK; exact ⟨rfl, fun _ h => List.mem_cons_of_mem _ h⟩) | (obtain rfl := hK; exact ⟨rfl, fun _ h => h⟩)) ?_
    rintro _ ⟨A4, G4, hs4, hn4, rfl⟩
    clear hn4
    have hb4 := byG_cut hs4 (by omega)
    rw [List.drop_zero] at hb4
    simp only [go_sem, Nat.reduceAdd, Nat.reduceSub, Nat.reduceMul, Nat.reduceEqDiff, Nat.reduceLT, Nat.reduceLeDiff, Nat.reduceBEq, Nat.reduceBNe, Int.reduceLT, Int.reduceLE, Int.reduceEq, Int.reduceAdd, Int.reduceSub, Int.reduceNeg, reduceCtorEq]
    refine anyc_ok (N := 3000) (call_does (fun u G => ∃ A c, u = .slice A 6 c ∧ ByG G (.slice A 6 c) (headB num n)) rfl rfl (by kernel_rfl) rfl (by simp only [dOk_some, dOk_none, Nat.reduceLT]) (fun G hG => head_does hG.wf)) (QOk_body _ _ _) rfl (by first | exact .inl rfl | exact .inr ⟨_, _, rfl, rfl⟩) ?_
    rintro _ ⟨_, G5, ⟨A5, c5, rfl, hb5⟩, hn5, rfl⟩
    clear hn5
    simp only [go_sem, Nat.reduceAdd, Nat.reduceSub, Nat.reduceMul, Nat.reduceEqDiff, Nat.reduceLT, Nat.reduceLeDiff, Nat.reduceBEq, Nat.reduceBNe, Int.reduceLT, Int.reduceLE, Int.reduceEq, Int.reduceAdd, Int.reduceSub, Int.reduceNeg, reduceCtorEq]
    refine anyc_ok (N := 3000) (call_does (fun u _ => u = .bool (decide (fb.take 6 = headB num n))) rfl rfl (by kernel_rfl) rfl (by simp only [dOk_some, dOk_none, Nat.reduceLT]) (fun G hG => equal_does hG.wf (hb4.mono (hG.le G4 (by simp))) (hb5.mono (hG.le G5 (by simp))))) (QOk_body _ _ _) rfl (by first | exact .inl rfl | exact .inr ⟨_, _, rfl, rfl⟩) ?_
    rintro _ ⟨_, G6, rfl, hn6, rfl⟩
    clear hn6
    by_cases eh : fb.take 6 = headB num n
    · have q : decide (fb.take 6 = headB num n) = true := decide_eq_true eh
      simp only [go_sem, Nat.reduceAdd, Nat.reduceSub, Nat.reduceMul, Nat.reduceEqDiff, Nat.reduceLT, Nat.reduceLeDiff, Nat.reduceBEq, Nat.reduceBNe, Int.reduceLT, Int.reduceLE, Int.reduceEq, Int.reduceAdd, Int.reduceSub, Int.reduceNeg, reduceCtorEq, q]
      refine plain_ok (N := 3000) (cut_does 6 n (c - 6) rfl tySlice23 tySize5 rfl ⟨_, _, rfl, rfl⟩ (show 6 + n = 6 + n from rfl) (show 6 + (c - 6) = c from by omega) (by simp) (by simp only [dOk_some, dOk_none, Nat.reduceLT]) (by omega) (by omega) (by omega) (fun G hG => hbs.mono (hG.le G1 (by simp)))) (QOk_body _ _ _) (by first | exact .inl rfl | exact .inr ⟨_, _, rfl, rfl⟩) ?_
      rintro _ ⟨A7, G7, hs7, hn7, rfl⟩
      clear hn7
      have hb7 := byG_cut hs7 (by omega)
      rw [List.take_of_length_le (by rw [List.length_drop]; omega)] at hb7
      simp only [go_sem, Nat.reduceAdd, Nat.reduceSub, Nat.reduceMul, Nat.reduceEqDiff, Nat.reduceLT, Nat.reduceLeDiff, Nat.reduceBEq, Nat.reduceBNe, Int.reduceLT, Int.reduceLE, Int.reduceEq, Int.reduceAdd, Int.reduceSub, Int.reduceNeg, reduceCtorEq]
      refine fin_ret (G := G0) Try.results47 ?_
      simp only [go_sem, Nat.reduceAdd, Nat.reduceSub, Nat.reduceMul, Nat.reduceEqDiff, Nat.reduceLT, Nat.reduceLeDiff, Nat.reduceBEq, Nat.reduceBNe, Int.reduceLT, Int.reduceLE, Int.reduceEq, Int.reduceAdd, Int.reduceSub, Int.reduceNeg, reduceCtorEq]
      intro a w' _ hle
      exact ⟨fun _ => ⟨A7, c - 6, rfl, hb7.mono (hle G7 (by simp))⟩, fun q => absurd eh q⟩
    · have q : decide (fb.take 6 = headB num n) = false := decide_eq_false eh
      simp only [go_sem, Nat.reduceAdd, Nat.reduceSub, Nat.reduceMul, Nat.reduceEqDiff, Nat.reduceLT, Nat.reduceLeDiff, Nat.reduceBEq, Nat.reduceBNe, Int.reduceLT, Int.reduceLE, Int.reduceEq, Int.reduceAdd, Int.reduceSub, Int.reduceNeg, reduceCtorEq, q]
      refine fin_ret (G := G0) Try.results47 ?_
      simp only [go_sem, Nat.reduceAdd, Nat.reduceSub, Nat.reduceMul, Nat.reduceEqDiff, Nat.reduceLT, Nat.reduceLeDiff, Nat.reduceBEq, Nat.reduceBNe, Int.reduceLT, Int.reduceLE, Int.reduceEq, Int.reduceAdd, Int.reduceSub, Int.reduceNeg, reduceCtorEq]
      intro a w' _ hle
      exact ⟨fun q => absurd q eh, fun _ => rfl⟩
  · refine anyc_ok (N := 3000) (call_does (fun u G => ∃ A c, u = .slice A 6 c ∧ ByG G (.slice A 6 c) (headB num n)) rfl rfl (by kernel_rfl) rfl (by simp only [dOk_some, dOk_none, Nat.reduceLT]) (fun G hG => head_does hG.wf)) (QOk_body _ _ _) rfl (by first | exact .inl rfl | exact .inr ⟨_, _, rfl, rfl⟩) ?_
    rintro _ ⟨_, G5, ⟨A5, c5, rfl, hb5⟩, hn5, rfl⟩
    clear hn5
    simp only [go_sem, Nat.reduceAdd, Nat.reduceSub, Nat.reduceMul, Nat.reduceEqDiff, Nat.reduceLT, Nat.reduceLeDiff, Nat.reduceBEq, Nat.reduceBNe, Int.reduceLT, Int.reduceLE, Int.reduceEq, Int.reduceAdd, Int.reduceSub, Int.reduceNeg, reduceCtorEq]
    refine any_ok2 (N := 3000) (cut_does 0 6 c rfl tySlice23 tySize5 rfl rfl ⟨_, _, rfl, by omega⟩ (show 0 + c = c from by omega) (by simp) (by simp only [dOk_some, dOk_none, Nat.reduceLT]) (by omega) (by omega) (by omega) (fun G hG => hbs.mono (hG.le G1 (by simp)))) (QOk_body _ _ _) rfl (by first | exact .inl rfl | exact .inr ⟨_, _, rfl, rfl⟩) (by intro _ hK; first | (obtain ⟨_, _, _, _, rfl⟩ := hK; exact ⟨rfl, fun _ h => h⟩) | (obtain ⟨_, _, rfl⟩ := hK; exact ⟨rfl, fun _ h => h⟩) | (obtain ⟨_, _, _, _, _, _, rfl⟩ := hK; exact ⟨rfl, fun _ h => List.mem_cons_of_mem _ h⟩) | (obtain ⟨_, _, _, _, _, _, _, rfl⟩ := hK; exact ⟨rfl, fun _ h => List.mem_cons_of_mem _ h⟩) | (obtain rfl := hK; exact ⟨rfl, fun _ h => h⟩)) ?_
    rintro _ ⟨A4, G4, hs4, hn4, rfl⟩
    clear hn4
    have hb4 := byG_cut hs4 (by omega)
    rw [List.drop_zero] at hb4
    simp only [go_sem, Nat.reduceAdd, Nat.reduceSub, Nat.reduceMul, Nat.reduceEqDiff, Nat.reduceLT, Nat.reduceLeDiff, Nat.reduceBEq, Nat.reduceBNe, Int.reduceLT, Int.reduceLE, Int.reduceEq, Int.reduceAdd, Int.reduceSub, Int.reduceNeg, reduceCtorEq]
    refine anyc_ok (N := 3000) (call_does (fun u _ => u = .bool (decide (fb.take 6 = headB num n))) rfl rfl (by kernel_rfl) rfl (by simp only [dOk_some, dOk_none, Nat.reduceLT]) (fun G hG => equal_does hG.wf (hb4.mono (hG.le G4 (by simp))) (hb5.mono (hG.le G5 (by simp))))) (QOk_body _ _ _) rfl (by first | exact .inl rfl | exact .inr ⟨_, _, rfl, rfl⟩) ?_
    rintro _ ⟨_, G6, rfl, hn6, rfl⟩
    clear hn6
    by_cases eh : fb.take 6 = headB num n
    · have q : decide (fb.take 6 = headB num n) = true := decide_eq_true eh
      simp only [go_sem, Nat.reduceAdd, Nat.reduceSub, Nat.reduceMul, Nat.reduceEqDiff, Nat.reduceLT, Nat.reduceLeDiff, Nat.reduceBEq, Nat.reduceBNe, Int.reduceLT, Int.reduceLE, Int.reduceEq, Int.reduceAdd, Int.reduceSub, Int.reduceNeg, reduceCtorEq, q]
      refine plain_ok (N := 3000) (cut_does 6 n (c - 6) rfl tySlice23 tySize5 rfl ⟨_, _, rfl, rfl⟩ (show 6 + n = 6 + n from rfl) (show 6 + (c - 6) = c from by omega) (by simp) (by simp only [dOk_some, dOk_none, Nat.reduceLT]) (by omega) (by omega) (by omega) (fun G hG => hbs.mono (hG.le G1 (by simp)))) (QOk_body _ _ _) (by first | exact .inl rfl | exact .inr ⟨_, _, rfl, rfl⟩) ?_
      rintro _ ⟨A7, G7, hs7, hn7, rfl⟩
      clear hn7
      have hb7 := byG_cut hs7 (by omega)
      rw [List.take_of_length_le (by rw [List.length_drop]; omega)] at hb7
      simp only [go_sem, Nat.reduceAdd, Nat.reduceSub, Nat.reduceMul, Nat.reduceEqDiff, Nat.reduceLT, Nat.reduceLeDiff, Nat.reduceBEq, Nat.reduceBNe, Int.reduceLT, Int.reduceLE, Int.reduceEq, Int.reduceAdd, Int.reduceSub, Int.reduceNeg, reduceCtorEq]
      refine fin_ret (G := G0) Try.results47 ?_
      simp only [go_sem, Nat.reduceAdd, Nat.reduceSub, Nat.reduceMul, Nat.reduceEqDiff, Nat.reduceLT, Nat.reduceLeDiff, Nat.reduceBEq, Nat.reduceBNe, Int.reduceLT, Int.reduceLE, Int.reduceEq, Int.reduceAdd, Int.reduceSub, Int.reduceNeg, reduceCtorEq]
      intro a w' _ hle
      exact ⟨fun _ => ⟨A7, c - 6, rfl, hb7.mono (hle G7 (by simp))⟩, fun q => absurd eh q⟩
    · have q : decide (fb.take 6 = headB num n) = false := decide_eq_false eh
      simp only [go_sem, Nat.reduceAdd, Nat.reduceSub, Nat.reduceMul, Nat.reduceEqDiff, Nat.reduceLT, Nat.reduceLeDiff, Nat.reduceBEq, Nat.reduceBNe, Int.reduceLT, Int.reduceLE, Int.reduceEq, Int.reduceAdd, Int.reduceSub, Int.reduceNeg, reduceCtorEq, q]
      refine fin_ret (G := G0) Try.results47 ?_
      simp only [go_sem, Nat.reduceAdd, Nat.reduceSub, Nat.reduceMul, Nat.reduceEqDiff, Nat.reduceLT, Nat.reduceLeDiff, Nat.reduceBEq, Nat.reduceBNe, Int.reduceLT, Int.reduceLE, Int.reduceEq, Int.reduceAdd, Int.reduceSub, Int.reduceNeg, reduceCtorEq]
      intro a w' _ hle
      exact ⟨fun q => absurd q eh, fun _ => rfl⟩
structure Pc where
  num : Int
  at_ : Int
  size : Int
def PieceG (_ : GW) (x : Pc) (cs : List Value) : Prop := cs = [.int .i64 x.num, .int .i64 x.at_, .int .i64 x.size]
theorem pieceG_mono : MonoR PieceG := fun _ _ _ _ _ h => h
def packTo (ids : List Int) (bs : List (List UInt8)) : Nat → List UInt8
  | 0 => []
  | i + 1 => packTo ids bs i ++ (headB (ids.getD i 0) ((bs.getD i []).length : Int) ++ bs.getD i [])
def piecesTo (at_ : Int) (ids : List Int) (bs : List (List UInt8)) : Nat → List Pc
  | 0 => []
  | i + 1 => piecesTo at_ ids bs i ++ [⟨ids.getD i 0, at_ + ((packTo ids bs i).length : Int), ((bs.getD i []).length : Int)⟩]
theorem piecesTo_len (at_ : Int) (ids : List Int) (bs : List (List UInt8)) : ∀ i, (piecesTo at_ ids bs i).length = i
  | 0 => rfl
  | i + 1 => by simp [piecesTo, piecesTo_len at_ ids bs i]
theorem packTo_le {ids : List Int} {bs : List (List UInt8)} (h : ∀ b ∈ bs, b.length ≤ 600) : ∀ i, (packTo ids bs i).length ≤ 606 * i
  | 0 => Nat.le_refl _
  | i + 1 => by
    have ih := packTo_le (ids := ids) h i
    have hb : (bs.getD i []).length ≤ 600 := by
      rw [List.getD_eq_getElem?_getD]
      cases hx : bs[i]? with
      | none => simp
      | some b => exact h b (List.mem_of_getElem? hx)
    simp only [packTo, List.length_append]
    have : (headB (ids.getD i 0) ((bs.getD i []).length : Int)).length = 6 := rfl
    omega
def pieceCells (l : List Pc) : List Value := l.flatMap fun x => [.int .i64 x.num, .int .i64 x.at_, .int .i64 x.size]
theorem pieces_of {G : GW} {v : Value} {l : List Pc} (h : Sl G 74 3 l.length v (pieceCells l)) : Sq PieceG 74 3 G v l := by
  refine ⟨l.map fun x => [.int .i64 x.num, .int .i64 x.at_, .int .i64 x.size], ⟨by simp, by simp, fun i cs x h1 h2 => ?_⟩, ?_⟩
  · rw [List.getElem?_map, h2] at h1
    cases h1
    rfl
  · exact h
theorem rows3 {G : GW} {v u1 u2 u3 : Value} {x1 x2 x3 : List UInt8} (h : Sl G 23 1 3 v [u1, u2, u3]) (h1 : ByG G u1 x1) (h2 : ByG G u2 x2) (h3 : ByG G u3 x3) : SafG G v [x1, x2, x3] := by
  refine ⟨[[u1], [u2], [u3]], ⟨rfl, by simp, fun i cs x e1 e2 => ?_⟩, h⟩
  match i with
  | 0 => cases e1; cases e2; exact ⟨u1, rfl, h1⟩
  | 1 => cases e1; cases e2; exact ⟨u2, rfl, h2⟩
  | 2 => cases e1; cases e2; exact ⟨u3, rfl, h3⟩
  | k + 3 => cases e1
set_option maxRecDepth 100000 in
set_option maxHeartbeats 16000000 in
theorem pack_does {at_ : Int} {iv bv : Value} {ids : List Int} {bs : List (List UInt8)} (h0 : 0 ≤ at_) (h1 : at_ ≤ 4000) (hlen : ids.length = bs.length) (h8 : ids.length ≤ 8) (hids : ∀ x ∈ ids, 1 ≤ x ∧ x ≤ 1048576) (hbs : ∀ b ∈ bs, b.length ≤ 600) {G0 : GW} (hW : G0.Wf) (hi : IntsG G0 iv ids) (hb : SafG G0 bv bs) :
    Calls Try.prog 26 #[.int .i64 at_, iv, bv] G0.w (Ret G0 fun v G => ∃ A c A2 c2, v = .tuple #[.slice A (packTo ids bs ids.length).length c, .slice A2 ids.length c2, .int .i64 0] ∧
      ByG G (.slice A (packTo ids bs ids.length).length c) (packTo ids bs ids.length) ∧ Sq PieceG 74 3 G (.slice A2 ids.length c2) (piecesTo at_ ids bs ids.length)) := by
  obtain ⟨A, c, rfl, _, _⟩ := hi.form
  obtain ⟨B, e, rfl, _, _⟩ := ScR.form (Sq.sc hb)
  refine enter (G := G0) (n := 74) 3000 hW Try.func26 rfl Try.ntmps26 (by simp) ?_
  have q1 : decide (at_ < 0) = false := decide_eq_false (by omega)
  have q2 : decide (4000 < at_) = false := decide_eq_false (by omega)
  have q3 : decide ((ids.length : Int) = (bs.length : Int)) = true := decide_eq_true (by omega)
  simp only [go_sem, Nat.reduceAdd, Nat.reduceSub, Nat.reduceMul, Nat.reduceEqDiff, Nat.reduceLT, Nat.reduceLeDiff, Nat.reduceBEq, Nat.reduceBNe, Int.reduceLT, Int.reduceLE, Int.reduceEq, Int.reduceAdd, Int.reduceSub, Int.reduceNeg, reduceCtorEq, q1, q2, q3]
  refine row_ok 74 3 ?_
  refine loop_ok (N := 3000) (ι := Nat × Option Addr × Nat × Option Addr × Nat × GW)
    (fun i => match i with | (v, A', c', A2, c2, G) => ⟨[(0, .c (.v (.int .i64 at_))), (1, .c (.v (.slice A ids.length c))), (2, .c (.v (.slice B bs.length e))), (9, .c (.v (.slice A' (packTo ids bs v).length c'))), (10, .c (.v (.slice A2 v c2))), (24, .c (.v (.slice A ids.length c))), (25, .c (.v (.int .i64 (ids.length : Int)))), (26, .c (.v (.int .i64 (v : Int))))],
      [], [⟨.slice A2 v c2, 74, 3, v, pieceCells (piecesTo at_ ids bs v)⟩], [], [G], 0⟩)
    (fun i => match i with | (v, A', c', _, _, G) => v ≤ ids.length ∧ IntsG G (.slice A ids.length c) ids ∧ SafG G (.slice B bs.length e) bs ∧ ByG G (.slice A' (packTo ids bs v).length c') (packTo ids bs v))
    (fun i => ids.length - i.1) (QOk_body _ _ _) (0, none, 0, none, 0, G0) ⟨by omega, hi, hb, none, 0, rfl, Nat.le_refl _, by unfold maxLen; omega, rfl, fun h => absurd h (by simp [packTo])⟩ (by simp only [go_sem, Nat.reduceAdd, Nat.reduceSub, Nat.reduceMul, Nat.reduceEqDiff, Nat.reduceLT, Nat.reduceLeDiff, Nat.reduceBEq, Nat.reduceBNe, Int.reduceLT, Int.reduceLE, Int.reduceEq, Int.reduceAdd, Int.reduceSub, Int.reduceNeg, reduceCtorEq]; simp [packTo, piecesTo, pieceCells]) ?_
  clear hi hb
  rintro ⟨v, A', c', A2, c2, G1⟩ ⟨hv, hi, hb, ho⟩
  simp only
  have hpl := packTo_le (ids := ids) hbs v
  by_cases hlt : v < ids.length
  · have p1 : decide ((v : Int) < (ids.length : Int)) = true := decide_eq_true (by omega)
    obtain ⟨x, hx⟩ : ∃ x, ids[v]? = some x := ⟨_, List.getElem?_eq_getElem hlt⟩
    obtain ⟨y, hy⟩ : ∃ y, bs[v]? = some y := ⟨_, List.getElem?_eq_getElem (by omega)⟩
    obtain ⟨x1, x2⟩ := hids x (List.mem_of_getElem? hx)
    have hyl := hbs y (List.mem_of_getElem? hy)
    have gx : ids.getD v 0 = x := by rw [List.getD_eq_getElem?_getD, hx]; rfl
    have gy : bs.getD v [] = y := by rw [List.getD_eq_getElem?_getD, hy]; rfl
    have p2 : decide (x < 1) = false := decide_eq_false (by omega)
    have p3 : decide (1048576 < x) = false := decide_eq_false (by omega)
    have p4 : decide (600 < (y.length : Int)) = false := decide_eq_false (by omega)
    simp only [go_sem, Nat.reduceAdd, Nat.reduceSub, Nat.reduceMul, Nat.reduceEqDiff, Nat.reduceLT, Nat.reduceLeDiff, Nat.reduceBEq, Nat.reduceBNe, Int.reduceLT, Int.reduceLE, Int.reduceEq, Int.reduceAdd, Int.reduceSub, Int.reduceNeg, reduceCtorEq, p1]
    refine plain_ok (N := 3000) (elem_does (R := IntG) (l := ids) (m := v) rfl tySlice28 tySize3 rfl rfl (by simp only [dOk_some, dOk_none, Nat.reduceLT]) rfl hx (fun G hG => hi.mono (hG.le G1 (by simp)))) (QOk_body _ _ _) (by first | exact .inl rfl | exact .inr ⟨_, _, rfl, rfl⟩) ?_
    rintro _ ⟨gw, ow, cs, G2, _, rfl, rfl⟩
    simp only [go_sem, Nat.reduceAdd, Nat.reduceSub, Nat.reduceMul, Nat.reduceEqDiff, Nat.reduceLT, Nat.reduceLeDiff, Nat.reduceBEq, Nat.reduceBNe, Int.reduceLT, Int.reduceLE, Int.reduceEq, Int.reduceAdd, Int.reduceSub, Int.reduceNeg, reduceCtorEq, p2, p3]
    refine plain_ok (N := 3000) (elem_does (R := RowG) (l := bs) (m := v) rfl tySlice29 tySize23 rfl rfl (by simp only [dOk_some, dOk_none, Nat.reduceLT]) rfl hy (fun G hG => Sq.mono hb rowG_mono (hG.le G1 (by simp)))) (QOk_body _ _ _) (by first | exact .inl rfl | exact .inr ⟨_, _, rfl, rfl⟩) ?_
    rintro _ ⟨gw2, ow2, cs2, G3, _, hcR, rfl⟩
    obtain ⟨A7, c7, rfl, hb7⟩ := rowcell hcR
    simp only [go_sem, Nat.reduceAdd, Nat.reduceSub, Nat.reduceMul, Nat.reduceEqDiff, Nat.reduceLT, Nat.reduceLeDiff, Nat.reduceBEq, Nat.reduceBNe, Int.reduceLT, Int.reduceLE, Int.reduceEq, Int.reduceAdd, Int.reduceSub, Int.reduceNeg, reduceCtorEq, p4]
    refine ⟨by omega, ?_⟩
    refine plain_ok (N := 3000) (elem_does (R := RowG) (l := bs) (m := v) rfl tySlice29 tySize23 rfl rfl (by simp only [dOk_some, dOk_none, Nat.reduceLT]) rfl hy (fun G hG => Sq.mono hb rowG_mono (hG.le G1 (by simp)))) (QOk_body _ _ _) (by first | exact .inl rfl | exact .inr ⟨_, _, rfl, rfl⟩) ?_
    rintro _ ⟨gw3, ow3, cs3, G4, _, hcR4, rfl⟩
    obtain ⟨A8, c8, rfl, hb8⟩ := rowcell hcR4
    simp only [go_sem, Nat.reduceAdd, Nat.reduceSub, Nat.reduceMul, Nat.reduceEqDiff, Nat.reduceLT, Nat.reduceLeDiff, Nat.reduceBEq, Nat.reduceBNe, Int.reduceLT, Int.reduceLE, Int.reduceEq, Int.reduceAdd, Int.reduceSub, Int.reduceNeg, reduceCtorEq]
    intro g5
    refine plain_ok (N := 3000) (append_does (R1 := []) (m := 1) (news := [.int .i64 x, .int .i64 (at_ + ((packTo ids bs v).length : Int)), .int .i64 (y.length : Int)]) rfl tySlice24 tyApp74 rfl rfl rfl rfl (by simp only [dOk_some, dOk_none, Nat.reduceLT]) (by intro u hu; simp at hu; rcases hu with rfl | rfl | rfl <;> rfl) (by unfold maxLen; omega) (by omega) (fun G hG => tsl_blk hG (b := ⟨3, g5, 74, [.v (.int .i64 x), .v (.int .i64 (at_ + ((packTo ids bs v).length : Int))), .v (.int .i64 (y.length : Int))]⟩) (by simp) rfl (by unfold maxLen; omega))) (QOk_body _ _ _) (by first | exact .inl rfl | exact .inr ⟨_, _, rfl, rfl⟩) ?_
    rintro _ ⟨A9, c9, rfl⟩
    have e3 : pieceCells (piecesTo at_ ids bs v) ++ [.int .i64 x, .int .i64 (at_ + ((packTo ids bs v).length : Int)), .int .i64 (y.length : Int)] = pieceCells (piecesTo at_ ids bs (v + 1)) := by simp [piecesTo, pieceCells, gx, gy, hx, hy]
    have hps : packTo ids bs (v + 1) = [packTo ids bs v, headB x (y.length : Int), y].flatten := by simp [packTo, gx, gy, hx, hy]
    have hpl1 := packTo_le (ids := ids) hbs (v + 1)
    rw [e3]
    simp only [go_sem, Nat.reduceAdd, Nat.reduceSub, Nat.reduceMul, Nat.reduceEqDiff, Nat.reduceLT, Nat.reduceLeDiff, Nat.reduceBEq, Nat.reduceBNe, Int.reduceLT, Int.reduceLE, Int.reduceEq, Int.reduceAdd, Int.reduceSub, Int.reduceNeg, reduceCtorEq]
    refine preview_ok (R := RowG) (kc := 1) hy (fun G hG => (Sq.mono hb rowG_mono (hG G1 (by simp))).sc) fun gq oq csq Gq hB _ hcq hleq => ?_
    subst hB
    have hl1q : G1.Le Gq := hleq G1 (by simp)
    clear hleq
    obtain ⟨Aq, cq, rfl, hbq⟩ := rowcell hcq
    simp only [go_sem, Nat.reduceAdd, Nat.reduceSub, Nat.reduceMul, Nat.reduceEqDiff, Nat.reduceLT, Nat.reduceLeDiff, Nat.reduceBEq, Nat.reduceBNe, Int.reduceLT, Int.reduceLE, Int.reduceEq, Int.reduceAdd, Int.reduceSub, Int.reduceNeg, reduceCtorEq]
    refine draw_ok (N := 3000) (.take 0 (.take 1 (.take 2 (.take 3 (.take 8 (.take 9 (.alt 4 (.take 5 (.take 6 (.alt 7 (.alt 10 (.take 11 (.alt 12 (.alt 13 (.take 14 .done) .last) .last)) .last) (.alt 10 (.take 11 (.alt 7 (.alt 12 (.alt 13 (.take 14 .done) .last) .last) .last)) .last)))) (.alt 10 (.take 11 (.alt 4 (.take 5 (.take 6 (.alt 7 (.alt 12 (.alt 13 (.take 14 .done) .last) .last) .last))) .last)) .last)))))))) [] (QOk_body _ _ _) follows_mixed (by kernel_rfl) (by kernel_rfl) ?_
    simp only [go_sem, Nat.reduceAdd, Nat.reduceSub, Nat.reduceMul, Nat.reduceEqDiff, Nat.reduceLT, Nat.reduceLeDiff, Nat.reduceBEq, Nat.reduceBNe, Int.reduceLT, Int.reduceLE, Int.reduceEq, Int.reduceAdd, Int.reduceSub, Int.reduceNeg, reduceCtorEq]
    refine ⟨?_, ?_⟩
    · refine any_ok2 (N := 3000) (elemV_does (id := 4) (m := v) rfl tySlice29 tySize23 rfl rfl (by simp only [dOk_some, dOk_none, Nat.reduceLT]) rfl (by omega)) (QOk_body _ _ _) rfl (by first | exact .inl rfl | exact .inr ⟨_, _, rfl, rfl⟩) (by intro _ hK; first | (obtain ⟨_, _, _, _, rfl⟩ := hK; exact ⟨rfl, fun _ h => h⟩) | (obtain ⟨_, _, rfl⟩ := hK; exact ⟨rfl, fun _ h => h⟩) | (obtain ⟨_, _, _, _, _, _, rfl⟩ := hK; exact ⟨rfl, fun _ h => List.mem_cons_of_mem _ h⟩) | (obtain ⟨_, _, _, _, _, _, _, rfl⟩ := hK; exact ⟨rfl, fun _ h => List.mem_cons_of_mem _ h⟩) | (obtain rfl := hK; exact ⟨rfl, fun _ h => h⟩)) ?_
      rintro _ rfl
      simp only [go_sem, Nat.reduceAdd, Nat.reduceSub, Nat.reduceMul, Nat.reduceEqDiff, Nat.reduceLT, Nat.reduceLeDiff, Nat.reduceBEq, Nat.reduceBNe, Int.reduceLT, Int.reduceLE, Int.reduceEq, Int.reduceAdd, Int.reduceSub, Int.reduceNeg, reduceCtorEq]
      refine ⟨?_, ?_⟩
      · refine anyc_ok (N := 3000) (call_does (fun u G => ∃ A c, u = .slice A 6 c ∧ ByG G (.slice A 6 c) (headB x (y.length : Int))) rfl rfl (by kernel_rfl) rfl (by simp only [dOk_some, dOk_none, Nat.reduceLT]) (fun G hG => head_does hG.wf)) (QOk_body _ _ _) rfl (by first | exact .inl rfl | exact .inr ⟨_, _, rfl, rfl⟩) ?_
        rintro _ ⟨_, G5, ⟨A5, c5, rfl, hb5⟩, hn5, rfl⟩
        clear hn5
        simp only [go_sem, Nat.reduceAdd, Nat.reduceSub, Nat.reduceMul, Nat.reduceEqDiff, Nat.reduceLT, Nat.reduceLeDiff, Nat.reduceBEq, Nat.reduceBNe, Int.reduceLT, Int.reduceLE, Int.reduceEq, Int.reduceAdd, Int.reduceSub, Int.reduceNeg, reduceCtorEq]
        refine any_ok2 (N := 3000) (elemV_does (id := 4) (m := v) rfl tySlice29 tySize23 rfl rfl (by simp only [dOk_some, dOk_none, Nat.reduceLT]) rfl (by omega)) (QOk_body _ _ _) rfl (by first | exact .inl rfl | exact .inr ⟨_, _, rfl, rfl⟩) (by intro _ hK; first | (obtain ⟨_, _, _, _, rfl⟩ := hK; exact ⟨rfl, fun _ h => h⟩) | (obtain ⟨_, _, rfl⟩ := hK; exact ⟨rfl, fun _ h => h⟩) | (obtain ⟨_, _, _, _, _, _, rfl⟩ := hK; exact ⟨rfl, fun _ h => List.mem_cons_of_mem _ h⟩) | (obtain ⟨_, _, _, _, _, _, _, rfl⟩ := hK; exact ⟨rfl, fun _ h => List.mem_cons_of_mem _ h⟩) | (obtain rfl := hK; exact ⟨rfl, fun _ h => h⟩)) ?_
        rintro _ rfl
        simp only [go_sem, Nat.reduceAdd, Nat.reduceSub, Nat.reduceMul, Nat.reduceEqDiff, Nat.reduceLT, Nat.reduceLeDiff, Nat.reduceBEq, Nat.reduceBNe, Int.reduceLT, Int.reduceLE, Int.reduceEq, Int.reduceAdd, Int.reduceSub, Int.reduceNeg, reduceCtorEq]
        intro g6
        refine anyRead_ok (B1 := []) rfl 1 3 3 (Nat.le_refl _) (by unfold maxLen; omega) rfl id (by simp) fun G6 hle6 hs6 => ?_
        simp only [go_sem, Nat.reduceAdd, Nat.reduceSub, Nat.reduceMul, Nat.reduceEqDiff, Nat.reduceLT, Nat.reduceLeDiff, Nat.reduceBEq, Nat.reduceBNe, Int.reduceLT, Int.reduceLE, Int.reduceEq, Int.reduceAdd, Int.reduceSub, Int.reduceNeg, reduceCtorEq]
        have hsaf : SafG G6 _ [packTo ids bs v, headB x (y.length : Int), y] := rows3 hs6 (ho.mono (hle6 G1 (by simp))) (hb5.mono (hle6 G5 (by simp))) (hbq.mono (hle6 Gq (by simp)))
        refine anyc_ok (N := 3000) (call_does (fun u G => ∃ A c, u = .slice A (packTo ids bs (v + 1)).length c ∧ ByG G (.slice A (packTo ids bs (v + 1)).length c) (packTo ids bs (v + 1))) rfl rfl (by kernel_rfl) rfl (by simp only [dOk_some, dOk_none, Nat.reduceLT]) (fun G hG => ret_mono (concat_does (by rw [← hps]; omega) hG.wf (Sq.mono hsaf rowG_mono (hG.le G6 (by simp)))) fun u G' _ h => by rw [← hps] at h; exact h)) (QOk_body _ _ _) rfl (by first | exact .inl rfl | exact .inr ⟨_, _, rfl, rfl⟩) ?_
        rintro _ ⟨_, G7, ⟨A10, c10, rfl, ho2⟩, hn7, rfl⟩
        have hl17 : G1.Le G7 := hn7.le G1 (by simp)
        clear hn7
        simp only [go_sem, Nat.reduceAdd, Nat.reduceSub, Nat.reduceMul, Nat.reduceEqDiff, Nat.reduceLT, Nat.reduceLeDiff, Nat.reduceBEq, Nat.reduceBNe, Int.reduceLT, Int.reduceLE, Int.reduceEq, Int.reduceAdd, Int.reduceSub, Int.reduceNeg, reduceCtorEq]
        exact ⟨by omega, again_ok (v + 1, A10, c10, A9, c9, G7) ⟨by omega, hi.mono hl17, Sq.mono hb rowG_mono hl17, ho2⟩ (by simp only; omega) (by simp only [go_sem, Nat.reduceAdd, Nat.reduceSub, Nat.reduceMul, Nat.reduceEqDiff, Nat.reduceLT, Nat.reduceLeDiff, Nat.reduceBEq, Nat.reduceBNe, Int.reduceLT, Int.reduceLE, Int.reduceEq, Int.reduceAdd, Int.reduceSub, Int.reduceNeg, reduceCtorEq]; simp)⟩
      · refine any_ok2 (N := 3000) (elemV_does (id := 4) (m := v) rfl tySlice29 tySize23 rfl rfl (by simp only [dOk_some, dOk_none, Nat.reduceLT]) rfl (by omega)) (QOk_body _ _ _) rfl (by first | exact .inl rfl | exact .inr ⟨_, _, rfl, rfl⟩) (by intro _ hK; first | (obtain ⟨_, _, _, _, rfl⟩ := hK; exact ⟨rfl, fun _ h => h⟩) | (obtain ⟨_, _, rfl⟩ := hK; exact ⟨rfl, fun _ h => h⟩) | (obtain ⟨_, _, _, _, _, _, rfl⟩ := hK; exact ⟨rfl, fun _ h => List.mem_cons_of_mem _ h⟩) | (obtain ⟨_, _, _, _, _, _, _, rfl⟩ := hK; exact ⟨rfl, fun _ h => List.mem_cons_of_mem _ h⟩) | (obtain rfl := hK; exact ⟨rfl, fun _ h => h⟩)) ?_
        rintro _ rfl
        simp only [go_sem, Nat.reduceAdd, Nat.reduceSub, Nat.reduceMul, Nat.reduceEqDiff, Nat.reduceLT, Nat.reduceLeDiff, Nat.reduceBEq, Nat.reduceBNe, Int.reduceLT, Int.reduceLE, Int.reduceEq, Int.reduceAdd, Int.reduceSub, Int.reduceNeg, reduceCtorEq]
        refine anyc_ok (N := 3000) (call_does (fun u G => ∃ A c, u = .slice A 6 c ∧ ByG G (.slice A 6 c) (headB x (y.length : Int))) rfl rfl (by kernel_rfl) rfl (by simp only [dOk_some, dOk_none, Nat.reduceLT]) (fun G hG => head_does hG.wf)) (QOk_body _ _ _) rfl (by first | exact .inl rfl | exact .inr ⟨_, _, rfl, rfl⟩) ?_
        rintro _ ⟨_, G5, ⟨A5, c5, rfl, hb5⟩, hn5, rfl⟩
        clear hn5
        simp only [go_sem, Nat.reduceAdd, Nat.reduceSub, Nat.reduceMul, Nat.reduceEqDiff, Nat.reduceLT, Nat.reduceLeDiff, Nat.reduceBEq, Nat.reduceBNe, Int.reduceLT, Int.reduceLE, Int.reduceEq, Int.reduceAdd, Int.reduceSub, Int.reduceNeg, reduceCtorEq]
        intro g6
        refine anyRead_ok (B1 := []) rfl 1 3 3 (Nat.le_refl _) (by unfold maxLen; omega) rfl id (by simp) fun G6 hle6 hs6 => ?_
        simp only [go_sem, Nat.reduceAdd, Nat.reduceSub, Nat.reduceMul, Nat.reduceEqDiff, Nat.reduceLT, Nat.reduceLeDiff, Nat.reduceBEq, Nat.reduceBNe, Int.reduceLT, Int.reduceLE, Int.reduceEq, Int.reduceAdd, Int.reduceSub, Int.reduceNeg, reduceCtorEq]
        have hsaf : SafG G6 _ [packTo ids bs v, headB x (y.length : Int), y] := rows3 hs6 (ho.mono (hle6 G1 (by simp))) (hb5.mono (hle6 G5 (by simp))) (hbq.mono (hle6 Gq (by simp)))
        refine anyc_ok (N := 3000) (call_does (fun u G => ∃ A c, u = .slice A (packTo ids bs (v + 1)).length c ∧ ByG G (.slice A (packTo ids bs (v + 1)).length c) (packTo ids bs (v + 1))) rfl rfl (by kernel_rfl) rfl (by simp only [dOk_some, dOk_none, Nat.reduceLT]) (fun G hG => ret_mono (concat_does (by rw [← hps]; omega) hG.wf (Sq.mono hsaf rowG_mono (hG.le G6 (by simp)))) fun u G' _ h => by rw [← hps] at h; exact h)) (QOk_body _ _ _) rfl (by first | exact .inl rfl | exact .inr ⟨_, _, rfl, rfl⟩) ?_
        rintro _ ⟨_, G7, ⟨A10, c10, rfl, ho2⟩, hn7, rfl⟩
        have hl17 : G1.Le G7 := hn7.le G1 (by simp)
        clear hn7
        simp only [go_sem, Nat.reduceAdd, Nat.reduceSub, Nat.reduceMul, Nat.reduceEqDiff, Nat.reduceLT, Nat.reduceLeDiff, Nat.reduceBEq, Nat.reduceBNe, Int.reduceLT, Int.reduceLE, Int.reduceEq, Int.reduceAdd, Int.reduceSub, Int.reduceNeg, reduceCtorEq]
        exact ⟨by omega, again_ok (v + 1, A10, c10, A9, c9, G7) ⟨by omega, hi.mono hl17, Sq.mono hb rowG_mono hl17, ho2⟩ (by simp only; omega) (by simp only [go_sem, Nat.reduceAdd, Nat.reduceSub, Nat.reduceMul, Nat.reduceEqDiff, Nat.reduceLT, Nat.reduceLeDiff, Nat.reduceBEq, Nat.reduceBNe, Int.reduceLT, Int.reduceLE, Int.reduceEq, Int.reduceAdd, Int.reduceSub, Int.reduceNeg, reduceCtorEq]; simp)⟩
    · refine any_ok2 (N := 3000) (elemV_does (id := 4) (m := v) rfl tySlice29 tySize23 rfl rfl (by simp only [dOk_some, dOk_none, Nat.reduceLT]) rfl (by omega)) (QOk_body _ _ _) rfl (by first | exact .inl rfl | exact .inr ⟨_, _, rfl, rfl⟩) (by intro _ hK; first | (obtain ⟨_, _, _, _, rfl⟩ := hK; exact ⟨rfl, fun _ h => h⟩) | (obtain ⟨_, _, rfl⟩ := hK; exact ⟨rfl, fun _ h => h⟩) | (obtain ⟨_, _, _, _, _, _, rfl⟩ := hK; exact ⟨rfl, fun _ h => List.mem_cons_of_mem _ h⟩) | (obtain ⟨_, _, _, _, _, _, _, rfl⟩ := hK; exact ⟨rfl, fun _ h => List.mem_cons_of_mem _ h⟩) | (obtain rfl := hK; exact ⟨rfl, fun _ h => h⟩)) ?_
      rintro _ rfl
      simp only [go_sem, Nat.reduceAdd, Nat.reduceSub, Nat.reduceMul, Nat.reduceEqDiff, Nat.reduceLT, Nat.reduceLeDiff, Nat.reduceBEq, Nat.reduceBNe, Int.reduceLT, Int.reduceLE, Int.reduceEq, Int.reduceAdd, Int.reduceSub, Int.reduceNeg, reduceCtorEq]
      refine any_ok2 (N := 3000) (elemV_does (id := 4) (m := v) rfl tySlice29 tySize23 rfl rfl (by simp only [dOk_some, dOk_none, Nat.reduceLT]) rfl (by omega)) (QOk_body _ _ _) rfl (by first | exact .inl rfl | exact .inr ⟨_, _, rfl, rfl⟩) (by intro _ hK; first | (obtain ⟨_, _, _, _, rfl⟩ := hK; exact ⟨rfl, fun _ h => h⟩) | (obtain ⟨_, _, rfl⟩ := hK; exact ⟨rfl, fun _ h => h⟩) | (obtain ⟨_, _, _, _, _, _, rfl⟩ := hK; exact ⟨rfl, fun _ h => List.mem_cons_of_mem _ h⟩) | (obtain ⟨_, _, _, _, _, _, _, rfl⟩ := hK; exact ⟨rfl, fun _ h => List.mem_cons_of_mem _ h⟩) | (obtain rfl := hK; exact ⟨rfl, fun _ h => h⟩)) ?_
      rintro _ rfl
      simp only [go_sem, Nat.reduceAdd, Nat.reduceSub, Nat.reduceMul, Nat.reduceEqDiff, Nat.reduceLT, Nat.reduceLeDiff, Nat.reduceBEq, Nat.reduceBNe, Int.reduceLT, Int.reduceLE, Int.reduceEq, Int.reduceAdd, Int.reduceSub, Int.reduceNeg, reduceCtorEq]
      refine anyc_ok (N := 3000) (call_does (fun u G => ∃ A c, u = .slice A 6 c ∧ ByG G (.slice A 6 c) (headB x (y.length : Int))) rfl rfl (by kernel_rfl) rfl (by simp only [dOk_some, dOk_none, Nat.reduceLT]) (fun G hG => head_does hG.wf)) (QOk_body _ _ _) rfl (by first | exact .inl rfl | exact .inr ⟨_, _, rfl, rfl⟩) ?_
      rintro _ ⟨_, G5, ⟨A5, c5, rfl, hb5⟩, hn5, rfl⟩
      clear hn5
      simp only [go_sem, Nat.reduceAdd, Nat.reduceSub, Nat.reduceMul, Nat.reduceEqDiff, Nat.reduceLT, Nat.reduceLeDiff, Nat.reduceBEq, Nat.reduceBNe, Int.reduceLT, Int.reduceLE, Int.reduceEq, Int.reduceAdd, Int.reduceSub, Int.reduceNeg, reduceCtorEq]
      intro g6
      refine anyRead_ok (B1 := []) rfl 1 3 3 (Nat.le_refl _) (by unfold maxLen; omega) rfl id (by simp) fun G6 hle6 hs6 => ?_
      simp only [go_sem, Nat.reduceAdd, Nat.reduceSub, Nat.reduceMul, Nat.reduceEqDiff, Nat.reduceLT, Nat.reduceLeDiff, Nat.reduceBEq, Nat.reduceBNe, Int.reduceLT, Int.reduceLE, Int.reduceEq, Int.reduceAdd, Int.reduceSub, Int.reduceNeg, reduceCtorEq]
      have hsaf : SafG G6 _ [packTo ids bs v, headB x (y.length : Int), y] := rows3 hs6 (ho.mono (hle6 G1 (by simp))) (hb5.mono (hle6 G5 (by simp))) (hbq.mono (hle6 Gq (by simp)))
      refine anyc_ok (N := 3000) (call_does (fun u G => ∃ A c, u = .slice A (packTo ids bs (v + 1)).length c ∧ ByG G (.slice A (packTo ids bs (v + 1)).length c) (packTo ids bs (v + 1))) rfl rfl (by kernel_rfl) rfl (by simp only [dOk_some, dOk_none, Nat.reduceLT]) (fun G hG => ret_mono (concat_does (by rw [← hps]; omega) hG.wf (Sq.mono hsaf rowG_mono (hG.le G6 (by simp)))) fun u G' _ h => by rw [← hps] at h; exact h)) (QOk_body _ _ _) rfl (by first | exact .inl rfl | exact .inr ⟨_, _, rfl, rfl⟩) ?_
      rintro _ ⟨_, G7, ⟨A10, c10, rfl, ho2⟩, hn7, rfl⟩
      have hl17 : G1.Le G7 := hn7.le G1 (by simp)
      clear hn7
      simp only [go_sem, Nat.reduceAdd, Nat.reduceSub, Nat.reduceMul, Nat.reduceEqDiff, Nat.reduceLT, Nat.reduceLeDiff, Nat.reduceBEq, Nat.reduceBNe, Int.reduceLT, Int.reduceLE, Int.reduceEq, Int.reduceAdd, Int.reduceSub, Int.reduceNeg, reduceCtorEq]
      exact ⟨by omega, again_ok (v + 1, A10, c10, A9, c9, G7) ⟨by omega, hi.mono hl17, Sq.mono hb rowG_mono hl17, ho2⟩ (by simp only; omega) (by simp only [go_sem, Nat.reduceAdd, Nat.reduceSub, Nat.reduceMul, Nat.reduceEqDiff, Nat.reduceLT, Nat.reduceLeDiff, Nat.reduceBEq, Nat.reduceBNe, Int.reduceLT, Int.reduceLE, Int.reduceEq, Int.reduceAdd, Int.reduceSub, Int.reduceNeg, reduceCtorEq]; simp)⟩
  · have p1 : decide ((v : Int) < (ids.length : Int)) = false := decide_eq_false (by omega)
    obtain rfl : v = ids.length := by omega
    simp only [go_sem, Nat.reduceAdd, Nat.reduceSub, Nat.reduceMul, Nat.reduceEqDiff, Nat.reduceLT, Nat.reduceLeDiff, Nat.reduceBEq, Nat.reduceBNe, Int.reduceLT, Int.reduceLE, Int.reduceEq, Int.reduceAdd, Int.reduceSub, Int.reduceNeg, reduceCtorEq, p1]
    refine read_ok (R1 := []) rfl fun G4 _ hs4 => ?_
    refine fin_ret (G := G0) Try.results26 ?_
    simp only [go_sem, Nat.reduceAdd, Nat.reduceSub, Nat.reduceMul, Nat.reduceEqDiff, Nat.reduceLT, Nat.reduceLeDiff, Nat.reduceBEq, Nat.reduceBNe, Int.reduceLT, Int.reduceLE, Int.reduceEq, Int.reduceAdd, Int.reduceSub, Int.reduceNeg, reduceCtorEq]
    intro a w' _ hle
    exact ⟨A', c', A2, c2, rfl, ho.mono (hle G1 (by simp)), pieces_of (by rw [piecesTo_len]; exact Sl.mono hs4 (hle G4 (by simp)))⟩
end Go.Proofs.Ytomfladifefomaa
