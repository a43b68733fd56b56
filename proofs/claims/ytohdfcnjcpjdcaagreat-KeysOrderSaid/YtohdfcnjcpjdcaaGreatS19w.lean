/- slices.Delete of one element. Conditions: as each law states them. -/
import Derived.Test.YtohdfcnjcpjdcaaGreatS18w
namespace Go.Proofs.YtohdfcnjcpjdcaaGreat
open Go.RowKit
open Nat (reduceAdd reduceSub reduceMul reduceEqDiff reduceLT reduceLeDiff)
set_option linter.unusedSimpArgs false
theorem verX_len (x : Ver × Value) : (verX x).length = 12 := rfl
theorem uplX_len (x : UX) : (uplX x).length = 4 := rfl
theorem prtX_len (x : Prt × Value) : (prtX x).length = 3 := rfl
set_option maxRecDepth 100000 in
set_option maxHeartbeats 16000000 in
theorem deleteVer_does {l : List (Ver × Value)} {lv : Value} {i : Nat} {G0 : GW} (hW : G0.Wf) (hh : HandsOk G0.w ⟨[], [verRow lv l]⟩) (hM : ∀ k, Hands.A ⟨[], [verRow lv l]⟩ k → G0.M k) (hl : l.length ≤ 1000) (hi : i < l.length) (h1 : ∀ u ∈ l.flatMap verX, u.oneCell' = true) :
  Calls Tryz.prog 131 #[lv, .int .i64 (i : Int), .int .i64 ((i : Int) + 1)] G0.w (RetH G0 ⟨[], [verRow lv l]⟩ fun v _ R _ => ∃ A c, v = .slice A (l.length - 1) c ∧ R = [verRow (.slice A (l.length - 1) c) (l.eraseIdx i)]) := by
 have hml := max_le
 obtain ⟨A, c, e0, hc1, hc2⟩ := row_form (hh.rows (verRow lv l) (by simp)) (by show (12 : Nat) ≠ 0; decide)
 obtain rfl : lv = .slice A l.length c := e0
 have hc1' : l.length ≤ c := hc1
 refine enterH (n := 33) 3000 ([.c (.v (.slice A l.length c)), .c (.v (.int .i64 (i : Int))), .c (.v (.int .i64 ((i : Int) + 1)))]) ([]) rfl hW hh hM Tryz.func131 rfl Tryz.ntmps131 (by simp) ?_
 simp only [go_sem, reduceAdd, reduceSub, reduceMul, reduceEqDiff, reduceLT, reduceLeDiff, Nat.reduceBEq, Nat.reduceBNe, Int.reduceLT, Int.reduceLE, Int.reduceEq, Int.reduceAdd, Int.reduceSub, Int.reduceNeg, reduceCtorEq]
 refine rowChunk_ok (R1 := []) (R2 := []) (f := verX) (l := l) rfl verX_len (by omega) (by omega) rfl fun g tl hv hmx htl => ?_
 simp only [List.append_nil]
 cases hv
 have hch : Chunks 12 (l.map verX ++ tl) := (chunks_map verX_len l).app htl
 have hcl : ((l.map verX ++ tl).flatten.map SC.v).length = (l.length + tl.length) * 12 := by rw [List.length_map, hch.len, List.length_append, List.length_map]
 refine pk (cutv_does i 1 (l.length - i) rfl tySlice25 tySize38 rfl ⟨_, _, rfl, rfl⟩ ⟨_, _, rfl, by omega⟩ ⟨_, _, rfl, by omega⟩ (by simp) (dk rfl) (by omega) (by omega)) ?_
 rintro _ rfl
 have q1 : decide ((i : Int) = (i : Int) + 1) = false := decide_eq_false (by omega)
 simp only [go_sem, reduceAdd, reduceSub, reduceMul, reduceEqDiff, reduceLT, reduceLeDiff, Nat.reduceBEq, Nat.reduceBNe, Int.reduceLT, Int.reduceLE, Int.reduceEq, Int.reduceAdd, Int.reduceSub, Int.reduceNeg, reduceCtorEq, q1]
 refine draw_ok (N := 3000) (.take 0 (.take 1 (.take 2 (.take 3 (.take 4 (.take 5 (.alt 6 (.take 7 .done) .last))))))) [0] (QOk_body _ _ _) follows_mixed (by kernel_rfl) (by kernel_rfl) ?_
 simp only [go_sem, reduceAdd, reduceSub, reduceMul, reduceEqDiff, reduceLT, reduceLeDiff, Nat.reduceBEq, Nat.reduceBNe, Int.reduceLT, Int.reduceLE, Int.reduceEq, Int.reduceAdd, Int.reduceSub, Int.reduceNeg, reduceCtorEq]
 refine take_cutA 0 i (l.length + tl.length) (A' := some ⟨g, 0, none⟩) (by rw [if_neg (by omega), Option.map_some, Addr.add_mid, Nat.zero_mul]) rfl tySlice25 tySize38 rfl rfl ⟨_, _, rfl, by omega⟩ (show 0 + (l.length + tl.length) = l.length + tl.length from by omega) (by simp) (dk rfl) (by omega) (by omega) ?_
 obtain ⟨ad, had, hadr⟩ : ∃ ad, (if i + 1 + (l.length + tl.length - (i + 1)) = i + 1 then some (⟨g, 0, none⟩ : Addr) else (some (⟨g, 0, none⟩ : Addr)).map (·.add ((i + 1) * 12))) = some ad ∧ (l.length - (i + 1) = 0 ∨ ad = ⟨g, (i + 1) * 12, none⟩) := by
  by_cases e : i + 1 + (l.length + tl.length - (i + 1)) = i + 1
  ·exact ⟨_, by rw [if_pos e], .inl (by omega)⟩
  ·exact ⟨_, by rw [if_neg e, Option.map_some, Addr.add_mid, Nat.zero_add], .inr rfl⟩
 simp only [go_sem, reduceAdd, reduceSub, reduceMul, reduceEqDiff, reduceLT, reduceLeDiff, Nat.reduceBEq, Nat.reduceBNe, Int.reduceLT, Int.reduceLE, Int.reduceEq, Int.reduceAdd, Int.reduceSub, Int.reduceNeg, reduceCtorEq]
 refine take_cutA (i + 1) (l.length - (i + 1)) (l.length + tl.length - (i + 1)) (A' := some ad) had rfl tySlice25 tySize38 rfl ⟨_, _, rfl, by omega⟩ (show i + 1 + (l.length - (i + 1)) = l.length from by omega) (show i + 1 + (l.length + tl.length - (i + 1)) = l.length + tl.length from by omega) (by simp) (dk rfl) (by omega) (by omega) ?_
 simp only [go_sem, reduceAdd, reduceSub, reduceMul, reduceEqDiff, reduceLT, reduceLeDiff, Nat.reduceBEq, Nat.reduceBNe, Int.reduceLT, Int.reduceLE, Int.reduceEq, Int.reduceAdd, Int.reduceSub, Int.reduceNeg, reduceCtorEq]
 obtain ⟨cx, hcx, hput⟩ := chunk_shift (f := verX) verX_len htl hi
 refine any_ok (N := 3000) (ownAppend_does (id := 0) (i := i) (m := l.length - (i + 1)) (c := l.length + tl.length) (ad := ad) (news := (l.drop (i + 1)).flatMap verX) rfl tySlice25 tyApp38 rfl rfl rfl (dk rfl) (fun u hu => h1 u (by
  obtain ⟨x, hx, hu⟩ := List.mem_flatMap.1 hu
  exact List.mem_flatMap.2 ⟨x, List.mem_of_mem_drop hx, hu⟩)) rfl (by omega) (by show (i + (l.length - (i + 1))) * 12 ≤ ((l.map verX ++ tl).flatten.map SC.v).length; rw [hcl]; exact Nat.mul_le_mul_right 12 (by omega)) (fun G hG => ?_)) (QOk_body _ _ _) rfl (by first | exact .inl rfl | exact .inr ⟨_, _, rfl, rfl⟩) (fun σ' hS hB b hb => by cases hb) (fun σ' hS v hv => by cases hv) ?_
 ·exact chunk_tail (id := 0) verX_len htl (hG.blks ⟨0, g, 38, (l.map verX ++ tl).flatten.map .v⟩ (by simp)) (by omega) hadr (by omega) (by omega)
 rintro _ rfl
 simp only [go_sem, reduceAdd, reduceSub, reduceMul, reduceEqDiff, reduceLT, reduceLeDiff, Nat.reduceBEq, Nat.reduceBNe, Int.reduceLT, Int.reduceLE, Int.reduceEq, Int.reduceAdd, Int.reduceSub, Int.reduceNeg, reduceCtorEq, hput]
 have el : (l.eraseIdx i).length = l.length - 1 := by rw [List.length_eraseIdx, if_pos hi]
 have htl2 : Chunks 12 (cx :: tl) := fun c hc => by
  rcases List.mem_cons.1 hc with rfl | hc
  ·exact hcx
  ·exact htl c hc
 have hcl2 : ((l.eraseIdx i).map verX ++ cx :: tl).flatten.length = (l.length + tl.length) * 12 := by rw [((chunks_map verX_len (l.eraseIdx i)).app htl2).len, List.length_append, List.length_map, el, List.length_cons]; congr 1; omega
 refine pk (cutv_does (l.length - 1) 1 (l.length + tl.length - (l.length - 1)) rfl tySlice25 tySize38 rfl ⟨_, _, rfl, by omega⟩ ⟨_, _, rfl, by omega⟩ (show l.length - 1 + (l.length + tl.length - (l.length - 1)) = l.length + tl.length from by omega) (by simp) (dk rfl) (by omega) (by omega)) ?_
 rintro _ rfl
 rw [if_neg (show ¬ l.length - 1 + (l.length + tl.length - (l.length - 1)) = l.length - 1 from by omega)]
 simp only [Option.map_some, Addr.add_mid, Nat.zero_add]
 simp only [go_sem, reduceAdd, reduceSub, reduceMul, reduceEqDiff, reduceLT, reduceLeDiff, Nat.reduceBEq, Nat.reduceBNe, Int.reduceLT, Int.reduceLE, Int.reduceEq, Int.reduceAdd, Int.reduceSub, Int.reduceNeg, reduceCtorEq]
 refine pk (ownClear_does (id := 0) (off := (l.length - 1) * 12) (n := 1) (z := [.int .i64 0, .string ⟨#[]⟩, .string ⟨#[]⟩, .bool false, .bool false, .int .i64 0, .int .i64 0, .int .i64 0, .slice none 0 0, .int .i64 0, .int .i64 0, .int .i64 0]) rfl tySlice25 tySize38 tyZero38 rfl rfl (dk rfl) (fun u hu => List.all_eq_true.1 (show ([.int .i64 0, .string ⟨#[]⟩, .string ⟨#[]⟩, .bool false, .bool false, .int .i64 0, .int .i64 0, .int .i64 0, .slice none 0 0, .int .i64 0, .int .i64 0, .int .i64 0] : List Value).all (fun u => u.oneCell') = true from rfl) u hu) rfl (by show (l.length - 1) * 12 + 1 * 12 ≤ (((l.eraseIdx i).map verX ++ cx :: tl).flatten.map SC.v).length; rw [List.length_map, hcl2, ← Nat.add_mul]; exact Nat.mul_le_mul_right 12 (by omega))) ?_
 rintro _ rfl
 have hput2 := chunk_put ((chunks_map verX_len (l.eraseIdx i)).app htl2) (ds := List.replicate 1 [.int .i64 0, .string ⟨#[]⟩, .string ⟨#[]⟩, .bool false, .bool false, .int .i64 0, .int .i64 0, .int .i64 0, .slice none 0 0, .int .i64 0, .int .i64 0, .int .i64 0]) (fun c hc => by rw [(List.mem_replicate.1 hc).2]; rfl) (m := l.length - 1) (by rw [List.length_replicate, List.length_append, List.length_map, el, List.length_cons]; omega)
 have e9 : ((l.eraseIdx i).map verX ++ cx :: tl).drop (l.length - 1 + 1) = tl := by
  rw [← el, ← List.length_map (f := verX), ← List.drop_drop, List.drop_left]
  rfl
 rw [List.length_replicate, e9, ← el, ← List.length_map (f := verX), List.take_left, List.length_map, el, List.append_assoc] at hput2
 simp only [go_sem, reduceAdd, reduceSub, reduceMul, reduceEqDiff, reduceLT, reduceLeDiff, Nat.reduceBEq, Nat.reduceBNe, Int.reduceLT, Int.reduceLE, Int.reduceEq, Int.reduceAdd, Int.reduceSub, Int.reduceNeg, reduceCtorEq, hput2]
 refine chunkRow_ok (B1 := []) 12 (l.length - 1) verX (l.eraseIdx i) (List.replicate 1 [.int .i64 0, .string ⟨#[]⟩, .string ⟨#[]⟩, .bool false, .bool false, .int .i64 0, .int .i64 0, .int .i64 0, .slice none 0 0, .int .i64 0, .int .i64 0, .int .i64 0] ++ tl) rfl verX_len (Chunks.app (fun c hc => by rw [(List.mem_replicate.1 hc).2]; rfl) htl) el.symm (by rw [List.length_append, List.length_replicate]; omega) ?_
 refine fin_retH (G := G0) Tryz.results131 ?_
 simp only [go_sem, reduceAdd, reduceSub, reduceMul, reduceEqDiff, reduceLT, reduceLeDiff, Nat.reduceBEq, Nat.reduceBNe, Int.reduceLT, Int.reduceLE, Int.reduceEq, Int.reduceAdd, Int.reduceSub, Int.reduceNeg, reduceCtorEq]
 intro aa w' _ _
 have e7 : l.length - 1 + (List.replicate 1 ([.int .i64 0, .string ⟨#[]⟩, .string ⟨#[]⟩, .bool false, .bool false, .int .i64 0, .int .i64 0, .int .i64 0, .slice none 0 0, .int .i64 0, .int .i64 0, .int .i64 0] : List Value) ++ tl).length = l.length + tl.length := by rw [List.length_append, List.length_replicate]; omega
 rw [e7]
 refine ⟨some ⟨g, 0, none⟩, l.length + tl.length, by rw [show i + (l.length - (i + 1)) = l.length - 1 from by omega], ?_⟩
 unfold verRow
 rw [el]
set_option maxRecDepth 100000 in
set_option maxHeartbeats 16000000 in
theorem deleteUpl_does {l : List (UX)} {lv : Value} {i : Nat} {G0 : GW} (hW : G0.Wf) (hh : HandsOk G0.w ⟨[], [uplRow lv l]⟩) (hM : ∀ k, Hands.A ⟨[], [uplRow lv l]⟩ k → G0.M k) (hl : l.length ≤ 1000) (hi : i < l.length) (h1 : ∀ u ∈ l.flatMap uplX, u.oneCell' = true) :
  Calls Tryz.prog 134 #[lv, .int .i64 (i : Int), .int .i64 ((i : Int) + 1)] G0.w (RetH G0 ⟨[], [uplRow lv l]⟩ fun v _ R _ => ∃ A c, v = .slice A (l.length - 1) c ∧ R = [uplRow (.slice A (l.length - 1) c) (l.eraseIdx i)]) := by
 have hml := max_le
 obtain ⟨A, c, e0, hc1, hc2⟩ := row_form (hh.rows (uplRow lv l) (by simp)) (by show (4 : Nat) ≠ 0; decide)
 obtain rfl : lv = .slice A l.length c := e0
 have hc1' : l.length ≤ c := hc1
 refine enterH (n := 33) 3000 ([.c (.v (.slice A l.length c)), .c (.v (.int .i64 (i : Int))), .c (.v (.int .i64 ((i : Int) + 1)))]) ([]) rfl hW hh hM Tryz.func134 rfl Tryz.ntmps134 (by simp) ?_
 simp only [go_sem, reduceAdd, reduceSub, reduceMul, reduceEqDiff, reduceLT, reduceLeDiff, Nat.reduceBEq, Nat.reduceBNe, Int.reduceLT, Int.reduceLE, Int.reduceEq, Int.reduceAdd, Int.reduceSub, Int.reduceNeg, reduceCtorEq]
 refine rowChunk_ok (R1 := []) (R2 := []) (f := uplX) (l := l) rfl uplX_len (by omega) (by omega) rfl fun g tl hv hmx htl => ?_
 simp only [List.append_nil]
 cases hv
 have hch : Chunks 4 (l.map uplX ++ tl) := (chunks_map uplX_len l).app htl
 have hcl : ((l.map uplX ++ tl).flatten.map SC.v).length = (l.length + tl.length) * 4 := by rw [List.length_map, hch.len, List.length_append, List.length_map]
 refine pk (cutv_does i 1 (l.length - i) rfl tySlice26 tySize89 rfl ⟨_, _, rfl, rfl⟩ ⟨_, _, rfl, by omega⟩ ⟨_, _, rfl, by omega⟩ (by simp) (dk rfl) (by omega) (by omega)) ?_
 rintro _ rfl
 have q1 : decide ((i : Int) = (i : Int) + 1) = false := decide_eq_false (by omega)
 simp only [go_sem, reduceAdd, reduceSub, reduceMul, reduceEqDiff, reduceLT, reduceLeDiff, Nat.reduceBEq, Nat.reduceBNe, Int.reduceLT, Int.reduceLE, Int.reduceEq, Int.reduceAdd, Int.reduceSub, Int.reduceNeg, reduceCtorEq, q1]
 refine draw_ok (N := 3000) (.take 0 (.take 1 (.take 2 (.take 3 (.take 4 (.take 5 (.alt 6 (.take 7 .done) .last))))))) [0] (QOk_body _ _ _) follows_mixed (by kernel_rfl) (by kernel_rfl) ?_
 simp only [go_sem, reduceAdd, reduceSub, reduceMul, reduceEqDiff, reduceLT, reduceLeDiff, Nat.reduceBEq, Nat.reduceBNe, Int.reduceLT, Int.reduceLE, Int.reduceEq, Int.reduceAdd, Int.reduceSub, Int.reduceNeg, reduceCtorEq]
 refine take_cutA 0 i (l.length + tl.length) (A' := some ⟨g, 0, none⟩) (by rw [if_neg (by omega), Option.map_some, Addr.add_mid, Nat.zero_mul]) rfl tySlice26 tySize89 rfl rfl ⟨_, _, rfl, by omega⟩ (show 0 + (l.length + tl.length) = l.length + tl.length from by omega) (by simp) (dk rfl) (by omega) (by omega) ?_
 obtain ⟨ad, had, hadr⟩ : ∃ ad, (if i + 1 + (l.length + tl.length - (i + 1)) = i + 1 then some (⟨g, 0, none⟩ : Addr) else (some (⟨g, 0, none⟩ : Addr)).map (·.add ((i + 1) * 4))) = some ad ∧ (l.length - (i + 1) = 0 ∨ ad = ⟨g, (i + 1) * 4, none⟩) := by
  by_cases e : i + 1 + (l.length + tl.length - (i + 1)) = i + 1
  ·exact ⟨_, by rw [if_pos e], .inl (by omega)⟩
  ·exact ⟨_, by rw [if_neg e, Option.map_some, Addr.add_mid, Nat.zero_add], .inr rfl⟩
 simp only [go_sem, reduceAdd, reduceSub, reduceMul, reduceEqDiff, reduceLT, reduceLeDiff, Nat.reduceBEq, Nat.reduceBNe, Int.reduceLT, Int.reduceLE, Int.reduceEq, Int.reduceAdd, Int.reduceSub, Int.reduceNeg, reduceCtorEq]
 refine take_cutA (i + 1) (l.length - (i + 1)) (l.length + tl.length - (i + 1)) (A' := some ad) had rfl tySlice26 tySize89 rfl ⟨_, _, rfl, by omega⟩ (show i + 1 + (l.length - (i + 1)) = l.length from by omega) (show i + 1 + (l.length + tl.length - (i + 1)) = l.length + tl.length from by omega) (by simp) (dk rfl) (by omega) (by omega) ?_
 simp only [go_sem, reduceAdd, reduceSub, reduceMul, reduceEqDiff, reduceLT, reduceLeDiff, Nat.reduceBEq, Nat.reduceBNe, Int.reduceLT, Int.reduceLE, Int.reduceEq, Int.reduceAdd, Int.reduceSub, Int.reduceNeg, reduceCtorEq]
 obtain ⟨cx, hcx, hput⟩ := chunk_shift (f := uplX) uplX_len htl hi
 refine any_ok (N := 3000) (ownAppend_does (id := 0) (i := i) (m := l.length - (i + 1)) (c := l.length + tl.length) (ad := ad) (news := (l.drop (i + 1)).flatMap uplX) rfl tySlice26 tyApp89 rfl rfl rfl (dk rfl) (fun u hu => h1 u (by
  obtain ⟨x, hx, hu⟩ := List.mem_flatMap.1 hu
  exact List.mem_flatMap.2 ⟨x, List.mem_of_mem_drop hx, hu⟩)) rfl (by omega) (by show (i + (l.length - (i + 1))) * 4 ≤ ((l.map uplX ++ tl).flatten.map SC.v).length; rw [hcl]; exact Nat.mul_le_mul_right 4 (by omega)) (fun G hG => ?_)) (QOk_body _ _ _) rfl (by first | exact .inl rfl | exact .inr ⟨_, _, rfl, rfl⟩) (fun σ' hS hB b hb => by cases hb) (fun σ' hS v hv => by cases hv) ?_
 ·exact chunk_tail (id := 0) uplX_len htl (hG.blks ⟨0, g, 89, (l.map uplX ++ tl).flatten.map .v⟩ (by simp)) (by omega) hadr (by omega) (by omega)
 rintro _ rfl
 simp only [go_sem, reduceAdd, reduceSub, reduceMul, reduceEqDiff, reduceLT, reduceLeDiff, Nat.reduceBEq, Nat.reduceBNe, Int.reduceLT, Int.reduceLE, Int.reduceEq, Int.reduceAdd, Int.reduceSub, Int.reduceNeg, reduceCtorEq, hput]
 have el : (l.eraseIdx i).length = l.length - 1 := by rw [List.length_eraseIdx, if_pos hi]
 have htl2 : Chunks 4 (cx :: tl) := fun c hc => by
  rcases List.mem_cons.1 hc with rfl | hc
  ·exact hcx
  ·exact htl c hc
 have hcl2 : ((l.eraseIdx i).map uplX ++ cx :: tl).flatten.length = (l.length + tl.length) * 4 := by rw [((chunks_map uplX_len (l.eraseIdx i)).app htl2).len, List.length_append, List.length_map, el, List.length_cons]; congr 1; omega
 refine pk (cutv_does (l.length - 1) 1 (l.length + tl.length - (l.length - 1)) rfl tySlice26 tySize89 rfl ⟨_, _, rfl, by omega⟩ ⟨_, _, rfl, by omega⟩ (show l.length - 1 + (l.length + tl.length - (l.length - 1)) = l.length + tl.length from by omega) (by simp) (dk rfl) (by omega) (by omega)) ?_
 rintro _ rfl
 rw [if_neg (show ¬ l.length - 1 + (l.length + tl.length - (l.length - 1)) = l.length - 1 from by omega)]
 simp only [Option.map_some, Addr.add_mid, Nat.zero_add]
 simp only [go_sem, reduceAdd, reduceSub, reduceMul, reduceEqDiff, reduceLT, reduceLeDiff, Nat.reduceBEq, Nat.reduceBNe, Int.reduceLT, Int.reduceLE, Int.reduceEq, Int.reduceAdd, Int.reduceSub, Int.reduceNeg, reduceCtorEq]
 refine pk (ownClear_does (id := 0) (off := (l.length - 1) * 4) (n := 1) (z := [.int .i64 0, .string ⟨#[]⟩, .string ⟨#[]⟩, .slice none 0 0]) rfl tySlice26 tySize89 tyZero89 rfl rfl (dk rfl) (fun u hu => List.all_eq_true.1 (show ([.int .i64 0, .string ⟨#[]⟩, .string ⟨#[]⟩, .slice none 0 0] : List Value).all (fun u => u.oneCell') = true from rfl) u hu) rfl (by show (l.length - 1) * 4 + 1 * 4 ≤ (((l.eraseIdx i).map uplX ++ cx :: tl).flatten.map SC.v).length; rw [List.length_map, hcl2, ← Nat.add_mul]; exact Nat.mul_le_mul_right 4 (by omega))) ?_
 rintro _ rfl
 have hput2 := chunk_put ((chunks_map uplX_len (l.eraseIdx i)).app htl2) (ds := List.replicate 1 [.int .i64 0, .string ⟨#[]⟩, .string ⟨#[]⟩, .slice none 0 0]) (fun c hc => by rw [(List.mem_replicate.1 hc).2]; rfl) (m := l.length - 1) (by rw [List.length_replicate, List.length_append, List.length_map, el, List.length_cons]; omega)
 have e9 : ((l.eraseIdx i).map uplX ++ cx :: tl).drop (l.length - 1 + 1) = tl := by
  rw [← el, ← List.length_map (f := uplX), ← List.drop_drop, List.drop_left]
  rfl
 rw [List.length_replicate, e9, ← el, ← List.length_map (f := uplX), List.take_left, List.length_map, el, List.append_assoc] at hput2
 simp only [go_sem, reduceAdd, reduceSub, reduceMul, reduceEqDiff, reduceLT, reduceLeDiff, Nat.reduceBEq, Nat.reduceBNe, Int.reduceLT, Int.reduceLE, Int.reduceEq, Int.reduceAdd, Int.reduceSub, Int.reduceNeg, reduceCtorEq, hput2]
 refine chunkRow_ok (B1 := []) 4 (l.length - 1) uplX (l.eraseIdx i) (List.replicate 1 [.int .i64 0, .string ⟨#[]⟩, .string ⟨#[]⟩, .slice none 0 0] ++ tl) rfl uplX_len (Chunks.app (fun c hc => by rw [(List.mem_replicate.1 hc).2]; rfl) htl) el.symm (by rw [List.length_append, List.length_replicate]; omega) ?_
 refine fin_retH (G := G0) Tryz.results134 ?_
 simp only [go_sem, reduceAdd, reduceSub, reduceMul, reduceEqDiff, reduceLT, reduceLeDiff, Nat.reduceBEq, Nat.reduceBNe, Int.reduceLT, Int.reduceLE, Int.reduceEq, Int.reduceAdd, Int.reduceSub, Int.reduceNeg, reduceCtorEq]
 intro aa w' _ _
 have e7 : l.length - 1 + (List.replicate 1 ([.int .i64 0, .string ⟨#[]⟩, .string ⟨#[]⟩, .slice none 0 0] : List Value) ++ tl).length = l.length + tl.length := by rw [List.length_append, List.length_replicate]; omega
 rw [e7]
 refine ⟨some ⟨g, 0, none⟩, l.length + tl.length, by rw [show i + (l.length - (i + 1)) = l.length - 1 from by omega], ?_⟩
 unfold uplRow
 rw [el]
end Go.Proofs.YtohdfcnjcpjdcaaGreat
