/- slices.Insert of one element. Conditions: as each law states them. -/
import Derived.Test.YtohdfcnjcpjdcaaGreatS24w
namespace Go.Proofs.YtohdfcnjcpjdcaaGreat
open Go.RowKit
open Nat (reduceAdd reduceSub reduceMul reduceEqDiff reduceLT reduceLeDiff)
set_option linter.unusedSimpArgs false
theorem intC_len (x : Int) : (intC x).length = 1 := rfl
theorem bktC_len (x : Bkt) : (bktC x).length = 5 := rfl
theorem insert_split {α : Type} (x : α) : ∀ (l : List α) (i : Nat), i ≤ l.length → l.insertIdx i x = l.take i ++ x :: l.drop i
 | l, 0, _ => by simp
 | [], i + 1, h => by simp at h
 | a :: r, i + 1, h => by
  rw [List.insertIdx_succ_cons, insert_split x r i (by simpa using h)]
  rfl
theorem take_mid {β : Type} {A R : List β} {y : β} {i : Nat} (h : A.length = i) : (A ++ y :: R).take (i + 1) = A ++ [y] := by
 rw [List.append_cons, List.take_left' (by simp [h])]
theorem drop_mid {β : Type} {A R : List β} {y : β} {i : Nat} (h : A.length = i) (d : Nat) : (A ++ y :: R).drop (i + 1 + d) = R.drop d := by
 rw [List.append_cons, ← List.drop_drop, List.drop_left' (by simp [h])]
set_option maxRecDepth 100000 in
set_option maxHeartbeats 16000000 in
theorem insertBkt_does {l : List Bkt} {lv : Value} {i vb : Nat} {x : Bkt} {G0 : GW} (hW : G0.Wf) (hh : HandsOk G0.w ⟨[], [bktRow lv l]⟩) (hM : ∀ k, Hands.A ⟨[], [bktRow lv l]⟩ k → G0.M k) (hl : l.length ≤ 1000) (hi : i ≤ l.length) (h1 : ∀ u ∈ l.flatMap bktC, u.oneCell' = true) (hx1 : ∀ u ∈ bktC x, u.oneCell' = true) (hv : VarG G0 vb 42 (bktC x)) :
  Calls Tryz.prog 126 #[lv, .int .i64 (i : Int), .slice (some ⟨vb, 0, none⟩) 1 1] G0.w (RetH G0 ⟨[], [bktRow lv l]⟩ fun v _ R _ => ∃ A c, v = .slice A (l.length + 1) c ∧ R = [bktRow (.slice A (l.length + 1) c) (l.insertIdx i x)]) := by
 have hml := max_le
 obtain ⟨A, c, e0, hc1, hc2⟩ := row_form (hh.rows (bktRow lv l) (by simp)) (by show (5 : Nat) ≠ 0; decide)
 obtain rfl : lv = .slice A l.length c := e0
 have hc1' : l.length ≤ c := hc1
 have e1 : ((1 : Nat) : Int) = 1 := rfl
 have elen : (l.insertIdx i x).length = l.length + 1 := List.length_insertIdx_of_le_length hi x
 refine enterH (n := 95) 3000 ([.c (.v (.slice A l.length c)), .c (.v (.int .i64 (i : Int))), .c (.v (.slice (some ⟨vb, 0, none⟩) 1 1))]) ([]) rfl hW hh hM Tryz.func126 rfl Tryz.ntmps126 (by simp) ?_
 simp only [go_sem, reduceAdd, reduceSub, reduceMul, reduceEqDiff, reduceLT, reduceLeDiff, Nat.reduceBEq, Nat.reduceBNe, Int.reduceLT, Int.reduceLE, Int.reduceEq, Int.reduceAdd, Int.reduceSub, Int.reduceNeg, reduceCtorEq]
 refine pk (cutv_does i (l.length - i) (c - i) rfl tySlice24 tySize42 rfl ⟨_, _, rfl, rfl⟩ (show i + (l.length - i) = l.length from by omega) (show i + (c - i) = c from by omega) (by simp) (dk rfl) (by omega) (by omega)) ?_
 rintro _ rfl
 have q0 : decide (((1 : Nat) : Int) = 0) = false := decide_eq_false (by omega)
 by_cases hin : i = l.length
 ·subst hin
  have q1 : decide ((l.length : Int) = (l.length : Int)) = true := decide_eq_true rfl
  simp only [go_sem, reduceAdd, reduceSub, reduceMul, reduceEqDiff, reduceLT, reduceLeDiff, Nat.reduceBEq, Nat.reduceBNe, Int.reduceLT, Int.reduceLE, Int.reduceEq, Int.reduceAdd, Int.reduceSub, Int.reduceNeg, reduceCtorEq, q0, q1]
  refine pk (append_does (R1 := []) (R2 := []) (n := l.length) (v := .slice A l.length c) (xs := l.flatMap bktC) (news := bktC x) (m := 1) rfl tySlice24 tyApp42 (by simp [bktRow]) rfl rfl rfl (dk rfl) hx1 (by unfold maxLen; omega) (by omega) (fun G hG => ((hv.mono (hG.le G0 (by simp))).sl (bktC_len x)).tsl)) ?_
  rintro _ ⟨A', c', rfl⟩
  simp only [go_sem, reduceAdd, reduceSub, reduceMul, reduceEqDiff, reduceLT, reduceLeDiff, Nat.reduceBEq, Nat.reduceBNe, Int.reduceLT, Int.reduceLE, Int.reduceEq, Int.reduceAdd, Int.reduceSub, Int.reduceNeg, reduceCtorEq]
  refine fin_retH (G := G0) Tryz.results126 ?_
  simp only [go_sem, reduceAdd, reduceSub, reduceMul, reduceEqDiff, reduceLT, reduceLeDiff, Nat.reduceBEq, Nat.reduceBNe, Int.reduceLT, Int.reduceLE, Int.reduceEq, Int.reduceAdd, Int.reduceSub, Int.reduceNeg, reduceCtorEq]
  intro aa w' _ _
  refine ⟨A', c', rfl, ?_⟩
  unfold bktRow
  rw [List.insertIdx_length_self, List.flatMap_append, List.length_append]
  simp
 have q1 : decide ((i : Int) = (l.length : Int)) = false := decide_eq_false (by omega)
 simp only [go_sem, reduceAdd, reduceSub, reduceMul, reduceEqDiff, reduceLT, reduceLeDiff, Nat.reduceBEq, Nat.reduceBNe, Int.reduceLT, Int.reduceLE, Int.reduceEq, Int.reduceAdd, Int.reduceSub, Int.reduceNeg, reduceCtorEq, q0, q1]
 have hil : i < l.length := by omega
 refine ⟨by omega, ?_⟩
 refine rowChunk_ok (R1 := []) (R2 := []) (v := .slice A l.length c) (t := 42) (k := 5) (n := l.length) (f := bktC) (l := l) (by simp [bktRow]) bktC_len (by omega) (by omega) rfl fun g tl hva hmx htl => ?_
 simp only [List.append_nil]
 cases hva
 have hch : Chunks 5 (l.map bktC ++ tl) := (chunks_map bktC_len l).app htl
 have hcl : ((l.map bktC ++ tl).flatten.map SC.v).length = (l.length + tl.length) * 5 := by rw [List.length_map, hch.len, List.length_append, List.length_map]
 have hdr : ∀ j u, ((l.drop i).flatMap bktC)[j]? = some u → ∀ w : World, Blk w g 42 (dens ((l.map bktC ++ tl).flatten.map .v)) → w.cell? ((⟨g, i * 5, none⟩ : Addr).add j) = some u := fun j u hj w hb =>
  (chunk_tail (id := 0) (i := i) (m := l.length - i) (c := l.length - i) bktC_len htl hb (by omega) (.inr rfl) (Nat.le_refl _) (by omega)).news j u hj
 have hdl : ((l.drop i).flatMap bktC).length = (l.length - i) * 5 := by rw [List.flatMap_def, (chunks_map bktC_len (l.drop i)).len, List.length_map, List.length_drop]
 refine pk (cap_does rfl tySlice24 rfl (dk rfl)) ?_
 rintro _ rfl
 have eins : (l.insertIdx i x).map bktC = (l.take i).map bktC ++ bktC x :: (l.drop i).map bktC := by rw [insert_split x l i hi, List.map_append, List.map_cons]
 by_cases htz : tl = []
 ·subst htz
  have q2 : decide (((l.length + ([] : List (List Value)).length : Nat) : Int) < (l.length : Int) + ((1 : Nat) : Int)) = true := decide_eq_true (by simp only [List.length_nil]; omega)
  simp only [List.length_nil, Nat.add_zero] at q2 hcl hmx
  simp only [go_sem, reduceAdd, reduceSub, reduceMul, reduceEqDiff, reduceLT, reduceLeDiff, Nat.reduceBEq, Nat.reduceBNe, Int.reduceLT, Int.reduceLE, Int.reduceEq, Int.reduceAdd, Int.reduceSub, Int.reduceNeg, reduceCtorEq, q0, q1, q2, List.length_nil, Nat.add_zero]
  refine pk (cutv_does 0 i l.length rfl tySlice24 tySize42 rfl rfl ⟨_, _, rfl, by omega⟩ (show 0 + l.length = l.length from by omega) (by simp) (dk rfl) (by omega) (by omega)) ?_
  rintro _ rfl
  rw [if_neg (show ¬ 0 + l.length = 0 from by omega)]
  simp only [Option.map_some, Addr.add_mid, Nat.zero_mul, Nat.add_zero]
  simp only [go_sem, reduceAdd, reduceSub, reduceMul, reduceEqDiff, reduceLT, reduceLeDiff, Nat.reduceBEq, Nat.reduceBNe, Int.reduceLT, Int.reduceLE, Int.reduceEq, Int.reduceAdd, Int.reduceSub, Int.reduceNeg, reduceCtorEq]
  refine ⟨by omega, by omega, ?_⟩
  refine pk (growZeros_does (id := 0) (i := i) (m := l.length + 1 - i) (N := l.length + 1) (css := (l.take i).map bktC) (by omega) rfl tySlice24 tyInt3 tyApp42 tyZero42 rfl rfl rfl (by omega) (dk rfl) (by omega) (by omega) (by show i * 5 ≤ ((l.map bktC ++ []).flatten.map SC.v).length; rw [hcl]; exact Nat.mul_le_mul_right 5 (by omega)) (by unfold maxLen; omega) (by omega) (by show (((l.map bktC ++ []).flatten.map SC.v).map SC.den).take (i * 5) = _; rw [den_flat, flatten_take _ hch, List.take_append_of_le_length (by rw [List.length_map]; omega), List.map_take])) ?_
  rintro _ ⟨g9, c9, hN1, hN2, rfl⟩
  simp only [go_sem, reduceAdd, reduceSub, reduceMul, reduceEqDiff, reduceLT, reduceLeDiff, Nat.reduceBEq, Nat.reduceBNe, Int.reduceLT, Int.reduceLE, Int.reduceEq, Int.reduceAdd, Int.reduceSub, Int.reduceNeg, reduceCtorEq]
  have hz9 : Chunks 5 (List.replicate (c9 - i) ([.string ⟨#[]⟩, .int .i64 0, .string ⟨#[]⟩, .int .i64 0, .int .i64 0] : List Value)) := fun c hc => by rw [(List.mem_replicate.1 hc).2]; rfl
  have hch9 : Chunks 5 ((l.take i).map bktC ++ List.replicate (c9 - i) [.string ⟨#[]⟩, .int .i64 0, .string ⟨#[]⟩, .int .i64 0, .int .i64 0]) := (chunks_map bktC_len (l.take i)).app hz9
  have hcl9 : (((l.take i).map bktC ++ List.replicate (c9 - i) ([.string ⟨#[]⟩, .int .i64 0, .string ⟨#[]⟩, .int .i64 0, .int .i64 0] : List Value)).flatten.map SC.v).length = c9 * 5 := by rw [List.length_map, hch9.len, List.length_append, List.length_map, List.length_take, List.length_replicate]; congr 1; omega
  have htk9 : ((l.take i).map bktC).length = i := by rw [List.length_map, List.length_take]; omega
  refine pk (cutv_does i (l.length + 1 - i) (c9 - i) rfl tySlice24 tySize42 rfl ⟨_, _, rfl, rfl⟩ (show i + (l.length + 1 - i) = l.length + 1 from by omega) (show i + (c9 - i) = c9 from by omega) (by simp) (dk rfl) (by omega) (by omega)) ?_
  rintro _ rfl
  rw [if_neg (show ¬ i + (c9 - i) = i from by omega)]
  simp only [Option.map_some, Addr.add_mid, Nat.zero_add]
  simp only [go_sem, reduceAdd, reduceSub, reduceMul, reduceEqDiff, reduceLT, reduceLeDiff, Nat.reduceBEq, Nat.reduceBNe, Int.reduceLT, Int.reduceLE, Int.reduceEq, Int.reduceAdd, Int.reduceSub, Int.reduceNeg, reduceCtorEq]
  have hput9 : putCs (((l.take i).map bktC ++ List.replicate (c9 - i) ([.string ⟨#[]⟩, .int .i64 0, .string ⟨#[]⟩, .int .i64 0, .int .i64 0] : List Value)).flatten.map SC.v) (i * 5) ((bktC x).map SC.v) = ((l.take i).map bktC ++ bktC x :: List.replicate (c9 - (i + 1)) [.string ⟨#[]⟩, .int .i64 0, .string ⟨#[]⟩, .int .i64 0, .int .i64 0]).flatten.map SC.v := by
   have h := chunk_put hch9 (ds := [bktC x]) (fun c hc => by rw [List.mem_singleton.1 hc]; exact bktC_len x) (m := i) (by rw [List.length_singleton, List.length_append, List.length_replicate, htk9]; omega)
   rw [List.flatten_cons, List.flatten_nil, List.append_nil] at h
   rw [h, List.take_left' htk9, List.length_singleton, List.drop_append, htk9, List.drop_of_length_le (by rw [htk9]; omega), List.drop_replicate, show c9 - i - (i + 1 - i) = c9 - (i + 1) from by omega]
   simp
  refine pk (ownCopy_does (id := 1) (off := i * 5) (news := bktC x) 1 (show Nat.min 1 (l.length + 1 - i) = 1 from Nat.min_eq_left (by omega)) rfl tySlice24 tySize42 rfl rfl rfl (dk rfl) hx1 (by show i * 5 + 1 * 5 ≤ (((l.take i).map bktC ++ List.replicate (c9 - i) ([.string ⟨#[]⟩, .int .i64 0, .string ⟨#[]⟩, .int .i64 0, .int .i64 0] : List Value)).flatten.map SC.v).length; rw [hcl9, ← Nat.add_mul]; exact Nat.mul_le_mul_right 5 (by omega)) (by rw [bktC_len x]) (fun G hG => (hv.mono (hG.le G0 (by simp))).cells)) ?_
  rintro _ rfl
  simp only [go_sem, reduceAdd, reduceSub, reduceMul, reduceEqDiff, reduceLT, reduceLeDiff, Nat.reduceBEq, Nat.reduceBNe, Int.reduceLT, Int.reduceLE, Int.reduceEq, Int.reduceAdd, Int.reduceSub, Int.reduceNeg, reduceCtorEq, hput9]
  have hch8 : Chunks 5 ((l.take i).map bktC ++ bktC x :: List.replicate (c9 - (i + 1)) [.string ⟨#[]⟩, .int .i64 0, .string ⟨#[]⟩, .int .i64 0, .int .i64 0]) := (chunks_map bktC_len (l.take i)).app fun c hc => by
   rcases List.mem_cons.1 hc with rfl | hc
   ·exact bktC_len x
   ·rw [(List.mem_replicate.1 hc).2]; rfl
  have hl8 : ((l.take i).map bktC ++ bktC x :: List.replicate (c9 - (i + 1)) ([.string ⟨#[]⟩, .int .i64 0, .string ⟨#[]⟩, .int .i64 0, .int .i64 0] : List Value)).length = c9 := by rw [List.length_append, htk9, List.length_cons, List.length_replicate]; omega
  have hcl8 : (((l.take i).map bktC ++ bktC x :: List.replicate (c9 - (i + 1)) ([.string ⟨#[]⟩, .int .i64 0, .string ⟨#[]⟩, .int .i64 0, .int .i64 0] : List Value)).flatten.map SC.v).length = c9 * 5 := by rw [List.length_map, hch8.len, hl8]
  have hput8 : putCs (((l.take i).map bktC ++ bktC x :: List.replicate (c9 - (i + 1)) ([.string ⟨#[]⟩, .int .i64 0, .string ⟨#[]⟩, .int .i64 0, .int .i64 0] : List Value)).flatten.map SC.v) ((i + 1) * 5) (((l.drop i).flatMap bktC).map SC.v) = ((l.insertIdx i x).map bktC ++ List.replicate (c9 - (l.length + 1)) ([.string ⟨#[]⟩, .int .i64 0, .string ⟨#[]⟩, .int .i64 0, .int .i64 0] : List Value)).flatten.map SC.v := by
   rw [List.flatMap_def, chunk_put hch8 (chunks_map bktC_len (l.drop i)) (m := i + 1) (by rw [List.length_map, List.length_drop, hl8]; omega), eins, List.length_map, List.length_drop, take_mid htk9, drop_mid htk9, List.drop_replicate, show c9 - (i + 1) - (l.length - i) = c9 - (l.length + 1) from by omega]
   simp only [List.append_assoc, List.cons_append, List.nil_append]
  refine draw_ok (N := 3000) (.take 0 (.take 1 (.take 2 (.take 3 (.take 4 (.take 5 (.take 6 (.take 7 (.alt 8 .done .last))))))))) [0, 1] (QOk_body _ _ _) follows_mixed (by kernel_rfl) (by kernel_rfl) ?_
  simp only [go_sem, reduceAdd, reduceSub, reduceMul, reduceEqDiff, reduceLT, reduceLeDiff, Nat.reduceBEq, Nat.reduceBNe, Int.reduceLT, Int.reduceLE, Int.reduceEq, Int.reduceAdd, Int.reduceSub, Int.reduceNeg, reduceCtorEq]
  refine ⟨by omega, ?_⟩
  refine take_cutA (i + 1) (l.length + 1 - (i + 1)) (c9 - (i + 1)) (A' := some ⟨g9, (i + 1) * 5, none⟩) (by rw [if_neg (by omega), Option.map_some, Addr.add_mid, Nat.zero_add]) rfl tySlice24 tySize42 rfl ⟨_, _, rfl, by omega⟩ (show i + 1 + (l.length + 1 - (i + 1)) = l.length + 1 from by omega) (show i + 1 + (c9 - (i + 1)) = c9 from by omega) (by simp) (dk rfl) (by omega) (by omega) ?_
  simp only [go_sem, reduceAdd, reduceSub, reduceMul, reduceEqDiff, reduceLT, reduceLeDiff, Nat.reduceBEq, Nat.reduceBNe, Int.reduceLT, Int.reduceLE, Int.reduceEq, Int.reduceAdd, Int.reduceSub, Int.reduceNeg, reduceCtorEq]
  refine take_cutA i (l.length - i) (l.length - i) (A' := some ⟨g, i * 5, none⟩) (by rw [if_neg (by omega), Option.map_some, Addr.add_mid, Nat.zero_add]) rfl tySlice24 tySize42 rfl ⟨_, _, rfl, by omega⟩ (show i + (l.length - i) = l.length from by omega) (show i + (l.length - i) = l.length from by omega) (by simp) (dk rfl) (by omega) (by omega) ?_
  simp only [go_sem, reduceAdd, reduceSub, reduceMul, reduceEqDiff, reduceLT, reduceLeDiff, Nat.reduceBEq, Nat.reduceBNe, Int.reduceLT, Int.reduceLE, Int.reduceEq, Int.reduceAdd, Int.reduceSub, Int.reduceNeg, reduceCtorEq]
  refine any_ok (N := 3000) (ownCopy_does (id := 1) (off := (i + 1) * 5) (news := (l.drop i).flatMap bktC) (l.length - i) (show Nat.min (l.length - i) (l.length + 1 - (i + 1)) = l.length - i from Nat.min_eq_left (by omega)) rfl tySlice24 tySize42 rfl rfl rfl (dk rfl) (fun u hu => h1 u (by
   obtain ⟨y, hy, hu⟩ := List.mem_flatMap.1 hu
   exact List.mem_flatMap.2 ⟨y, List.mem_of_mem_drop hy, hu⟩)) (by show (i + 1) * 5 + (l.length - i) * 5 ≤ (((l.take i).map bktC ++ bktC x :: List.replicate (c9 - (i + 1)) ([.string ⟨#[]⟩, .int .i64 0, .string ⟨#[]⟩, .int .i64 0, .int .i64 0] : List Value)).flatten.map SC.v).length; rw [hcl8, ← Nat.add_mul]; exact Nat.mul_le_mul_right 5 (by omega)) hdl (fun G hG j u hj => hdr j u hj G.w (hG.blks ⟨0, g, 42, (l.map bktC ++ []).flatten.map .v⟩ (by simp)))) (QOk_body _ _ _) rfl (by first | exact .inl rfl | exact .inr ⟨_, _, rfl, rfl⟩) (fun σ' hS hB b hb => by cases hb) (fun σ' hS v hv => by cases hv) ?_
  rintro _ rfl
  simp only [go_sem, reduceAdd, reduceSub, reduceMul, reduceEqDiff, reduceLT, reduceLeDiff, Nat.reduceBEq, Nat.reduceBNe, Int.reduceLT, Int.reduceLE, Int.reduceEq, Int.reduceAdd, Int.reduceSub, Int.reduceNeg, reduceCtorEq, hput8]
  refine chunkRow_ok (B1 := []) 5 (l.length + 1) bktC (l.insertIdx i x) (List.replicate (c9 - (l.length + 1)) ([.string ⟨#[]⟩, .int .i64 0, .string ⟨#[]⟩, .int .i64 0, .int .i64 0] : List Value)) rfl bktC_len (fun c hc => by rw [(List.mem_replicate.1 hc).2]; rfl) elen.symm (by rw [List.length_replicate]; omega) ?_
  refine fin_retH (G := G0) Tryz.results126 ?_
  simp only [go_sem, reduceAdd, reduceSub, reduceMul, reduceEqDiff, reduceLT, reduceLeDiff, Nat.reduceBEq, Nat.reduceBNe, Int.reduceLT, Int.reduceLE, Int.reduceEq, Int.reduceAdd, Int.reduceSub, Int.reduceNeg, reduceCtorEq]
  intro aa w' _ _
  rw [List.length_replicate, show l.length + 1 + (c9 - (l.length + 1)) = c9 from by omega]
  refine ⟨some ⟨g9, 0, none⟩, c9, rfl, ?_⟩
  unfold bktRow
  rw [elen]
 ·obtain ⟨c0, tl2, rfl⟩ : ∃ c0 tl2, tl = c0 :: tl2 := by cases tl with | nil => exact absurd rfl htz | cons a b => exact ⟨a, b, rfl⟩
  have q2 : decide (((l.length + (c0 :: tl2).length : Nat) : Int) < (l.length : Int) + ((1 : Nat) : Int)) = false := decide_eq_false (by rw [List.length_cons]; omega)
  obtain ⟨c9, hc9⟩ : ∃ c9, c9 = l.length + (c0 :: tl2).length := ⟨_, rfl⟩
  rw [← hc9] at q2 hcl hmx
  have hc9' : l.length + 1 ≤ c9 := by rw [hc9, List.length_cons]; omega
  rw [← hc9]
  simp only [go_sem, reduceAdd, reduceSub, reduceMul, reduceEqDiff, reduceLT, reduceLeDiff, Nat.reduceBEq, Nat.reduceBNe, Int.reduceLT, Int.reduceLE, Int.reduceEq, Int.reduceAdd, Int.reduceSub, Int.reduceNeg, reduceCtorEq, q0, q1, q2]
  obtain ⟨y0, hy0⟩ : ∃ y0, l[i]? = some y0 := ⟨_, List.getElem?_eq_getElem hil⟩
  have htl2 : Chunks 5 tl2 := fun c hc => htl c (List.mem_cons_of_mem _ hc)
  have htk : ((l.take i).map bktC).length = i := by rw [List.length_map, List.length_take]; omega
  have etk : (l.map bktC ++ c0 :: tl2).take (i + 1) = (l.take i).map bktC ++ [bktC y0] := by
   rw [List.take_append_of_le_length (by rw [List.length_map]; omega), ← List.map_take, List.take_add_one, hy0, List.map_append]
   rfl
  have hputA : putCs ((l.map bktC ++ c0 :: tl2).flatten.map SC.v) ((i + 1) * 5) (((l.drop i).flatMap bktC).map SC.v) = ((l.take i).map bktC ++ bktC y0 :: ((l.drop i).map bktC ++ tl2)).flatten.map SC.v := by
   rw [List.flatMap_def, chunk_put hch (chunks_map bktC_len (l.drop i)) (m := i + 1) (by rw [List.length_map, List.length_drop, List.length_append, List.length_map, List.length_cons]; omega), etk, List.length_map, List.length_drop, show i + 1 + (l.length - i) = l.length + 1 + 0 from by omega, drop_mid (List.length_map _) 0]
   simp only [List.append_assoc, List.cons_append, List.nil_append, List.drop_zero]
  have hchA : Chunks 5 ((l.take i).map bktC ++ bktC y0 :: ((l.drop i).map bktC ++ tl2)) := (chunks_map bktC_len (l.take i)).app fun c hc => by
   rcases List.mem_cons.1 hc with rfl | hc
   ·exact bktC_len y0
   ·exact ((chunks_map bktC_len (l.drop i)).app htl2) c hc
  have hlA : ((l.take i).map bktC ++ bktC y0 :: ((l.drop i).map bktC ++ tl2)).length = c9 := by
   have := hc9
   rw [List.length_cons] at this
   rw [List.length_append, htk, List.length_cons, List.length_append, List.length_map, List.length_drop]
   omega
  have hclA : (((l.take i).map bktC ++ bktC y0 :: ((l.drop i).map bktC ++ tl2)).flatten.map SC.v).length = c9 * 5 := by rw [List.length_map, hchA.len, hlA]
  have hputB : putCs (((l.take i).map bktC ++ bktC y0 :: ((l.drop i).map bktC ++ tl2)).flatten.map SC.v) (i * 5) ((bktC x).map SC.v) = ((l.insertIdx i x).map bktC ++ tl2).flatten.map SC.v := by
   have h := chunk_put hchA (ds := [bktC x]) (fun c hc => by rw [List.mem_singleton.1 hc]; exact bktC_len x) (m := i) (by rw [List.length_singleton, hlA]; omega)
   rw [List.flatten_cons, List.flatten_nil, List.append_nil] at h
   rw [h, List.take_left' htk, List.length_singleton, show i + 1 = i + 1 + 0 from rfl, drop_mid htk 0, eins]
   simp only [List.append_assoc, List.cons_append, List.nil_append, List.drop_zero]
  refine ⟨by omega, ?_⟩
  refine pk (cutv_does 0 (l.length + 1) c9 rfl tySlice24 tySize42 rfl rfl ⟨_, _, rfl, by omega⟩ (show 0 + c9 = c9 from by omega) (by simp) (dk rfl) (by omega) (by omega)) ?_
  rintro _ rfl
  rw [if_neg (show ¬ 0 + c9 = 0 from by omega)]
  simp only [Option.map_some, Addr.add_mid, Nat.zero_mul, Nat.add_zero]
  simp only [go_sem, reduceAdd, reduceSub, reduceMul, reduceEqDiff, reduceLT, reduceLeDiff, Nat.reduceBEq, Nat.reduceBNe, Int.reduceLT, Int.reduceLE, Int.reduceEq, Int.reduceAdd, Int.reduceSub, Int.reduceNeg, reduceCtorEq]
  refine ⟨by omega, ?_⟩
  refine pk (cutv_does (i + 1) (l.length + 1 - (i + 1)) (c9 - (i + 1)) rfl tySlice24 tySize42 rfl ⟨_, _, rfl, by omega⟩ (show i + 1 + (l.length + 1 - (i + 1)) = l.length + 1 from by omega) (show i + 1 + (c9 - (i + 1)) = c9 from by omega) (by simp) (dk rfl) (by omega) (by omega)) ?_
  rintro _ rfl
  rw [if_neg (show ¬ i + 1 + (c9 - (i + 1)) = i + 1 from by omega)]
  simp only [Option.map_some, Addr.add_mid, Nat.zero_add]
  simp only [go_sem, reduceAdd, reduceSub, reduceMul, reduceEqDiff, reduceLT, reduceLeDiff, Nat.reduceBEq, Nat.reduceBNe, Int.reduceLT, Int.reduceLE, Int.reduceEq, Int.reduceAdd, Int.reduceSub, Int.reduceNeg, reduceCtorEq]
  have hb0 : (l.map bktC ++ c0 :: tl2).flatten.map SC.v ≠ [] := fun e => by
   have := congrArg List.length e
   rw [hcl] at this
   simp only [List.length_nil] at this
   omega
  refine pk (overlaps_does (id := 0) (off := (i + 1) * 5) (vb := vb) (cv := bktC x) (tv := 42) (tR := 4) rfl rfl rfl Tryz.func157 (by kernel_rfl) (by kernel_rfl) (by kernel_rfl) (by kernel_rfl) tySlice24 tySize42 rfl rfl rfl (dk rfl) hb0 (fun G hG => hv.mono (hG.le G0 (by simp)))) ?_
  rintro _ rfl
  simp only [go_sem, reduceAdd, reduceSub, reduceMul, reduceEqDiff, reduceLT, reduceLeDiff, Nat.reduceBEq, Nat.reduceBNe, Int.reduceLT, Int.reduceLE, Int.reduceEq, Int.reduceAdd, Int.reduceSub, Int.reduceNeg, reduceCtorEq]
  refine draw_ok (N := 3000) (.take 0 (.take 1 (.take 2 (.take 3 (.take 4 (.take 5 (.take 6 (.take 7 (.alt 8 .done .last))))))))) [0] (QOk_body _ _ _) follows_mixed (by kernel_rfl) (by kernel_rfl) ?_
  simp only [go_sem, reduceAdd, reduceSub, reduceMul, reduceEqDiff, reduceLT, reduceLeDiff, Nat.reduceBEq, Nat.reduceBNe, Int.reduceLT, Int.reduceLE, Int.reduceEq, Int.reduceAdd, Int.reduceSub, Int.reduceNeg, reduceCtorEq]
  refine ⟨by omega, ?_⟩
  refine take_cutA (i + 1) (l.length + 1 - (i + 1)) (c9 - (i + 1)) (A' := some ⟨g, (i + 1) * 5, none⟩) (by rw [if_neg (by omega), Option.map_some, Addr.add_mid, Nat.zero_add]) rfl tySlice24 tySize42 rfl ⟨_, _, rfl, by omega⟩ (show i + 1 + (l.length + 1 - (i + 1)) = l.length + 1 from by omega) (show i + 1 + (c9 - (i + 1)) = c9 from by omega) (by simp) (dk rfl) (by omega) (by omega) ?_
  simp only [go_sem, reduceAdd, reduceSub, reduceMul, reduceEqDiff, reduceLT, reduceLeDiff, Nat.reduceBEq, Nat.reduceBNe, Int.reduceLT, Int.reduceLE, Int.reduceEq, Int.reduceAdd, Int.reduceSub, Int.reduceNeg, reduceCtorEq]
  refine take_cutA i (l.length + 1 - i) (c9 - i) (A' := some ⟨g, i * 5, none⟩) (by rw [if_neg (by omega), Option.map_some, Addr.add_mid, Nat.zero_add]) rfl tySlice24 tySize42 rfl ⟨_, _, rfl, by omega⟩ (show i + (l.length + 1 - i) = l.length + 1 from by omega) (show i + (c9 - i) = c9 from by omega) (by simp) (dk rfl) (by omega) (by omega) ?_
  simp only [go_sem, reduceAdd, reduceSub, reduceMul, reduceEqDiff, reduceLT, reduceLeDiff, Nat.reduceBEq, Nat.reduceBNe, Int.reduceLT, Int.reduceLE, Int.reduceEq, Int.reduceAdd, Int.reduceSub, Int.reduceNeg, reduceCtorEq]
  refine any_ok (N := 3000) (ownCopy_does (id := 0) (off := (i + 1) * 5) (news := (l.drop i).flatMap bktC) (l.length - i) (show Nat.min (l.length + 1 - i) (l.length + 1 - (i + 1)) = l.length - i from by show min _ _ = _; omega) rfl tySlice24 tySize42 rfl rfl rfl (dk rfl) (fun u hu => h1 u (by
   obtain ⟨y, hy, hu⟩ := List.mem_flatMap.1 hu
   exact List.mem_flatMap.2 ⟨y, List.mem_of_mem_drop hy, hu⟩)) (by show (i + 1) * 5 + (l.length - i) * 5 ≤ ((l.map bktC ++ c0 :: tl2).flatten.map SC.v).length; rw [hcl, ← Nat.add_mul]; exact Nat.mul_le_mul_right 5 (by omega)) hdl (fun G hG j u hj => hdr j u hj G.w (hG.blks ⟨0, g, 42, (l.map bktC ++ c0 :: tl2).flatten.map .v⟩ (by simp)))) (QOk_body _ _ _) rfl (by first | exact .inl rfl | exact .inr ⟨_, _, rfl, rfl⟩) (fun σ' hS hB b hb => by cases hb) (fun σ' hS v hv => by cases hv) ?_
  rintro _ rfl
  simp only [go_sem, reduceAdd, reduceSub, reduceMul, reduceEqDiff, reduceLT, reduceLeDiff, Nat.reduceBEq, Nat.reduceBNe, Int.reduceLT, Int.reduceLE, Int.reduceEq, Int.reduceAdd, Int.reduceSub, Int.reduceNeg, reduceCtorEq, hputA]
  refine pk (cutv_does i (l.length + 1 - i) (c9 - i) rfl tySlice24 tySize42 rfl ⟨_, _, rfl, rfl⟩ (show i + (l.length + 1 - i) = l.length + 1 from by omega) (show i + (c9 - i) = c9 from by omega) (by simp) (dk rfl) (by omega) (by omega)) ?_
  rintro _ rfl
  simp only [if_neg (show ¬ i + (c9 - i) = i from by omega), Option.map_some, Addr.add_mid, Nat.zero_add]
  simp only [go_sem, reduceAdd, reduceSub, reduceMul, reduceEqDiff, reduceLT, reduceLeDiff, Nat.reduceBEq, Nat.reduceBNe, Int.reduceLT, Int.reduceLE, Int.reduceEq, Int.reduceAdd, Int.reduceSub, Int.reduceNeg, reduceCtorEq]
  refine pk (ownCopy_does (id := 0) (off := i * 5) (news := bktC x) 1 (show Nat.min 1 (l.length + 1 - i) = 1 from Nat.min_eq_left (by omega)) rfl tySlice24 tySize42 rfl rfl rfl (dk rfl) hx1 (by show i * 5 + 1 * 5 ≤ (((l.take i).map bktC ++ bktC y0 :: ((l.drop i).map bktC ++ tl2)).flatten.map SC.v).length; rw [hclA, ← Nat.add_mul]; exact Nat.mul_le_mul_right 5 (by omega)) (by rw [bktC_len x]) (fun G hG => (hv.mono (hG.le G0 (by simp))).cells)) ?_
  rintro _ rfl
  simp only [go_sem, reduceAdd, reduceSub, reduceMul, reduceEqDiff, reduceLT, reduceLeDiff, Nat.reduceBEq, Nat.reduceBNe, Int.reduceLT, Int.reduceLE, Int.reduceEq, Int.reduceAdd, Int.reduceSub, Int.reduceNeg, reduceCtorEq, hputB]
  have e9 : c9 = l.length + 1 + tl2.length := by rw [hc9, List.length_cons]; omega
  rw [e9]
  refine chunkRow_ok (B1 := []) 5 (l.length + 1) bktC (l.insertIdx i x) tl2 rfl bktC_len htl2 elen.symm (by omega) ?_
  refine fin_retH (G := G0) Tryz.results126 ?_
  simp only [go_sem, reduceAdd, reduceSub, reduceMul, reduceEqDiff, reduceLT, reduceLeDiff, Nat.reduceBEq, Nat.reduceBNe, Int.reduceLT, Int.reduceLE, Int.reduceEq, Int.reduceAdd, Int.reduceSub, Int.reduceNeg, reduceCtorEq]
  intro aa w' _ _
  refine ⟨some ⟨g, 0, none⟩, l.length + 1 + tl2.length, rfl, ?_⟩
  unfold bktRow
  rw [elen]
set_option maxRecDepth 100000 in
set_option maxHeartbeats 16000000 in
theorem insertInt_does {l : List Int} {lv : Value} {i vb : Nat} {x : Int} {G0 : GW} (hW : G0.Wf) (hh : HandsOk G0.w ⟨[], [intRow lv l]⟩) (hM : ∀ k, Hands.A ⟨[], [intRow lv l]⟩ k → G0.M k) (hl : l.length ≤ 1000) (hi : i ≤ l.length) (h1 : ∀ u ∈ l.flatMap intC, u.oneCell' = true) (hx1 : ∀ u ∈ intC x, u.oneCell' = true) (hv : VarG G0 vb 3 (intC x)) :
  Calls Tryz.prog 139 #[lv, .int .i64 (i : Int), .slice (some ⟨vb, 0, none⟩) 1 1] G0.w (RetH G0 ⟨[], [intRow lv l]⟩ fun v _ R _ => ∃ A c, v = .slice A (l.length + 1) c ∧ R = [intRow (.slice A (l.length + 1) c) (l.insertIdx i x)]) := by
 have hml := max_le
 obtain ⟨A, c, e0, hc1, hc2⟩ := row_form (hh.rows (intRow lv l) (by simp)) (by show (1 : Nat) ≠ 0; decide)
 obtain rfl : lv = .slice A l.length c := e0
 have hc1' : l.length ≤ c := hc1
 have e1 : ((1 : Nat) : Int) = 1 := rfl
 have elen : (l.insertIdx i x).length = l.length + 1 := List.length_insertIdx_of_le_length hi x
 refine enterH (n := 95) 3000 ([.c (.v (.slice A l.length c)), .c (.v (.int .i64 (i : Int))), .c (.v (.slice (some ⟨vb, 0, none⟩) 1 1))]) ([]) rfl hW hh hM Tryz.func139 rfl Tryz.ntmps139 (by simp) ?_
 simp only [go_sem, reduceAdd, reduceSub, reduceMul, reduceEqDiff, reduceLT, reduceLeDiff, Nat.reduceBEq, Nat.reduceBNe, Int.reduceLT, Int.reduceLE, Int.reduceEq, Int.reduceAdd, Int.reduceSub, Int.reduceNeg, reduceCtorEq]
 refine pk (cutv_does i (l.length - i) (c - i) rfl tySlice28 tySize3 rfl ⟨_, _, rfl, rfl⟩ (show i + (l.length - i) = l.length from by omega) (show i + (c - i) = c from by omega) (by simp) (dk rfl) (by omega) (by omega)) ?_
 rintro _ rfl
 have q0 : decide (((1 : Nat) : Int) = 0) = false := decide_eq_false (by omega)
 by_cases hin : i = l.length
 ·subst hin
  have q1 : decide ((l.length : Int) = (l.length : Int)) = true := decide_eq_true rfl
  simp only [go_sem, reduceAdd, reduceSub, reduceMul, reduceEqDiff, reduceLT, reduceLeDiff, Nat.reduceBEq, Nat.reduceBNe, Int.reduceLT, Int.reduceLE, Int.reduceEq, Int.reduceAdd, Int.reduceSub, Int.reduceNeg, reduceCtorEq, q0, q1]
  refine pk (append_does (R1 := []) (R2 := []) (n := l.length) (v := .slice A l.length c) (xs := l.flatMap intC) (news := intC x) (m := 1) rfl tySlice28 tyApp3 (by simp [intRow]) rfl rfl rfl (dk rfl) hx1 (by unfold maxLen; omega) (by omega) (fun G hG => ((hv.mono (hG.le G0 (by simp))).sl (intC_len x)).tsl)) ?_
  rintro _ ⟨A', c', rfl⟩
  simp only [go_sem, reduceAdd, reduceSub, reduceMul, reduceEqDiff, reduceLT, reduceLeDiff, Nat.reduceBEq, Nat.reduceBNe, Int.reduceLT, Int.reduceLE, Int.reduceEq, Int.reduceAdd, Int.reduceSub, Int.reduceNeg, reduceCtorEq]
  refine fin_retH (G := G0) Tryz.results139 ?_
  simp only [go_sem, reduceAdd, reduceSub, reduceMul, reduceEqDiff, reduceLT, reduceLeDiff, Nat.reduceBEq, Nat.reduceBNe, Int.reduceLT, Int.reduceLE, Int.reduceEq, Int.reduceAdd, Int.reduceSub, Int.reduceNeg, reduceCtorEq]
  intro aa w' _ _
  refine ⟨A', c', rfl, ?_⟩
  unfold intRow
  rw [List.insertIdx_length_self, List.flatMap_append, List.length_append]
  simp
 have q1 : decide ((i : Int) = (l.length : Int)) = false := decide_eq_false (by omega)
 simp only [go_sem, reduceAdd, reduceSub, reduceMul, reduceEqDiff, reduceLT, reduceLeDiff, Nat.reduceBEq, Nat.reduceBNe, Int.reduceLT, Int.reduceLE, Int.reduceEq, Int.reduceAdd, Int.reduceSub, Int.reduceNeg, reduceCtorEq, q0, q1]
 have hil : i < l.length := by omega
 refine ⟨by omega, ?_⟩
 refine rowChunk_ok (R1 := []) (R2 := []) (v := .slice A l.length c) (t := 3) (k := 1) (n := l.length) (f := intC) (l := l) (by simp [intRow]) intC_len (by omega) (by omega) rfl fun g tl hva hmx htl => ?_
 simp only [List.append_nil]
 cases hva
 have hch : Chunks 1 (l.map intC ++ tl) := (chunks_map intC_len l).app htl
 have hcl : ((l.map intC ++ tl).flatten.map SC.v).length = (l.length + tl.length) * 1 := by rw [List.length_map, hch.len, List.length_append, List.length_map]
 have hdr : ∀ j u, ((l.drop i).flatMap intC)[j]? = some u → ∀ w : World, Blk w g 3 (dens ((l.map intC ++ tl).flatten.map .v)) → w.cell? ((⟨g, i * 1, none⟩ : Addr).add j) = some u := fun j u hj w hb =>
  (chunk_tail (id := 0) (i := i) (m := l.length - i) (c := l.length - i) intC_len htl hb (by omega) (.inr rfl) (Nat.le_refl _) (by omega)).news j u hj
 have hdl : ((l.drop i).flatMap intC).length = (l.length - i) * 1 := by rw [List.flatMap_def, (chunks_map intC_len (l.drop i)).len, List.length_map, List.length_drop]
 refine pk (cap_does rfl tySlice28 rfl (dk rfl)) ?_
 rintro _ rfl
 have eins : (l.insertIdx i x).map intC = (l.take i).map intC ++ intC x :: (l.drop i).map intC := by rw [insert_split x l i hi, List.map_append, List.map_cons]
 by_cases htz : tl = []
 ·subst htz
  have q2 : decide (((l.length + ([] : List (List Value)).length : Nat) : Int) < (l.length : Int) + ((1 : Nat) : Int)) = true := decide_eq_true (by simp only [List.length_nil]; omega)
  simp only [List.length_nil, Nat.add_zero] at q2 hcl hmx
  simp only [go_sem, reduceAdd, reduceSub, reduceMul, reduceEqDiff, reduceLT, reduceLeDiff, Nat.reduceBEq, Nat.reduceBNe, Int.reduceLT, Int.reduceLE, Int.reduceEq, Int.reduceAdd, Int.reduceSub, Int.reduceNeg, reduceCtorEq, q0, q1, q2, List.length_nil, Nat.add_zero]
  refine pk (cutv_does 0 i l.length rfl tySlice28 tySize3 rfl rfl ⟨_, _, rfl, by omega⟩ (show 0 + l.length = l.length from by omega) (by simp) (dk rfl) (by omega) (by omega)) ?_
  rintro _ rfl
  rw [if_neg (show ¬ 0 + l.length = 0 from by omega)]
  simp only [Option.map_some, Addr.add_mid, Nat.zero_mul, Nat.add_zero]
  simp only [go_sem, reduceAdd, reduceSub, reduceMul, reduceEqDiff, reduceLT, reduceLeDiff, Nat.reduceBEq, Nat.reduceBNe, Int.reduceLT, Int.reduceLE, Int.reduceEq, Int.reduceAdd, Int.reduceSub, Int.reduceNeg, reduceCtorEq]
  refine ⟨by omega, by omega, ?_⟩
  refine pk (growZeros_does (id := 0) (i := i) (m := l.length + 1 - i) (N := l.length + 1) (css := (l.take i).map intC) (by omega) rfl tySlice28 tyInt3 tyApp3 tyZero3 rfl rfl rfl (by omega) (dk rfl) (by omega) (by omega) (by show i * 1 ≤ ((l.map intC ++ []).flatten.map SC.v).length; rw [hcl]; exact Nat.mul_le_mul_right 1 (by omega)) (by unfold maxLen; omega) (by omega) (by show (((l.map intC ++ []).flatten.map SC.v).map SC.den).take (i * 1) = _; rw [den_flat, flatten_take _ hch, List.take_append_of_le_length (by rw [List.length_map]; omega), List.map_take])) ?_
  rintro _ ⟨g9, c9, hN1, hN2, rfl⟩
  simp only [go_sem, reduceAdd, reduceSub, reduceMul, reduceEqDiff, reduceLT, reduceLeDiff, Nat.reduceBEq, Nat.reduceBNe, Int.reduceLT, Int.reduceLE, Int.reduceEq, Int.reduceAdd, Int.reduceSub, Int.reduceNeg, reduceCtorEq]
  have hz9 : Chunks 1 (List.replicate (c9 - i) ([.int .i64 0] : List Value)) := fun c hc => by rw [(List.mem_replicate.1 hc).2]; rfl
  have hch9 : Chunks 1 ((l.take i).map intC ++ List.replicate (c9 - i) [.int .i64 0]) := (chunks_map intC_len (l.take i)).app hz9
  have hcl9 : (((l.take i).map intC ++ List.replicate (c9 - i) ([.int .i64 0] : List Value)).flatten.map SC.v).length = c9 * 1 := by rw [List.length_map, hch9.len, List.length_append, List.length_map, List.length_take, List.length_replicate]; congr 1; omega
  have htk9 : ((l.take i).map intC).length = i := by rw [List.length_map, List.length_take]; omega
  refine pk (cutv_does i (l.length + 1 - i) (c9 - i) rfl tySlice28 tySize3 rfl ⟨_, _, rfl, rfl⟩ (show i + (l.length + 1 - i) = l.length + 1 from by omega) (show i + (c9 - i) = c9 from by omega) (by simp) (dk rfl) (by omega) (by omega)) ?_
  rintro _ rfl
  rw [if_neg (show ¬ i + (c9 - i) = i from by omega)]
  simp only [Option.map_some, Addr.add_mid, Nat.zero_add]
  simp only [go_sem, reduceAdd, reduceSub, reduceMul, reduceEqDiff, reduceLT, reduceLeDiff, Nat.reduceBEq, Nat.reduceBNe, Int.reduceLT, Int.reduceLE, Int.reduceEq, Int.reduceAdd, Int.reduceSub, Int.reduceNeg, reduceCtorEq]
  have hput9 : putCs (((l.take i).map intC ++ List.replicate (c9 - i) ([.int .i64 0] : List Value)).flatten.map SC.v) (i * 1) ((intC x).map SC.v) = ((l.take i).map intC ++ intC x :: List.replicate (c9 - (i + 1)) [.int .i64 0]).flatten.map SC.v := by
   have h := chunk_put hch9 (ds := [intC x]) (fun c hc => by rw [List.mem_singleton.1 hc]; exact intC_len x) (m := i) (by rw [List.length_singleton, List.length_append, List.length_replicate, htk9]; omega)
   rw [List.flatten_cons, List.flatten_nil, List.append_nil] at h
   rw [h, List.take_left' htk9, List.length_singleton, List.drop_append, htk9, List.drop_of_length_le (by rw [htk9]; omega), List.drop_replicate, show c9 - i - (i + 1 - i) = c9 - (i + 1) from by omega]
   simp
  refine pk (ownCopy_does (id := 1) (off := i * 1) (news := intC x) 1 (show Nat.min 1 (l.length + 1 - i) = 1 from Nat.min_eq_left (by omega)) rfl tySlice28 tySize3 rfl rfl rfl (dk rfl) hx1 (by show i * 1 + 1 * 1 ≤ (((l.take i).map intC ++ List.replicate (c9 - i) ([.int .i64 0] : List Value)).flatten.map SC.v).length; rw [hcl9, ← Nat.add_mul]; exact Nat.mul_le_mul_right 1 (by omega)) (by rw [intC_len x]) (fun G hG => (hv.mono (hG.le G0 (by simp))).cells)) ?_
  rintro _ rfl
  simp only [go_sem, reduceAdd, reduceSub, reduceMul, reduceEqDiff, reduceLT, reduceLeDiff, Nat.reduceBEq, Nat.reduceBNe, Int.reduceLT, Int.reduceLE, Int.reduceEq, Int.reduceAdd, Int.reduceSub, Int.reduceNeg, reduceCtorEq, hput9]
  have hch8 : Chunks 1 ((l.take i).map intC ++ intC x :: List.replicate (c9 - (i + 1)) [.int .i64 0]) := (chunks_map intC_len (l.take i)).app fun c hc => by
   rcases List.mem_cons.1 hc with rfl | hc
   ·exact intC_len x
   ·rw [(List.mem_replicate.1 hc).2]; rfl
  have hl8 : ((l.take i).map intC ++ intC x :: List.replicate (c9 - (i + 1)) ([.int .i64 0] : List Value)).length = c9 := by rw [List.length_append, htk9, List.length_cons, List.length_replicate]; omega
  have hcl8 : (((l.take i).map intC ++ intC x :: List.replicate (c9 - (i + 1)) ([.int .i64 0] : List Value)).flatten.map SC.v).length = c9 * 1 := by rw [List.length_map, hch8.len, hl8]
  have hput8 : putCs (((l.take i).map intC ++ intC x :: List.replicate (c9 - (i + 1)) ([.int .i64 0] : List Value)).flatten.map SC.v) ((i + 1) * 1) (((l.drop i).flatMap intC).map SC.v) = ((l.insertIdx i x).map intC ++ List.replicate (c9 - (l.length + 1)) ([.int .i64 0] : List Value)).flatten.map SC.v := by
   rw [List.flatMap_def, chunk_put hch8 (chunks_map intC_len (l.drop i)) (m := i + 1) (by rw [List.length_map, List.length_drop, hl8]; omega), eins, List.length_map, List.length_drop, take_mid htk9, drop_mid htk9, List.drop_replicate, show c9 - (i + 1) - (l.length - i) = c9 - (l.length + 1) from by omega]
   simp only [List.append_assoc, List.cons_append, List.nil_append]
  refine draw_ok (N := 3000) (.take 0 (.take 1 (.take 2 (.take 3 (.take 4 (.take 5 (.take 6 (.take 7 (.alt 8 .done .last))))))))) [0, 1] (QOk_body _ _ _) follows_mixed (by kernel_rfl) (by kernel_rfl) ?_
  simp only [go_sem, reduceAdd, reduceSub, reduceMul, reduceEqDiff, reduceLT, reduceLeDiff, Nat.reduceBEq, Nat.reduceBNe, Int.reduceLT, Int.reduceLE, Int.reduceEq, Int.reduceAdd, Int.reduceSub, Int.reduceNeg, reduceCtorEq]
  refine ⟨by omega, ?_⟩
  refine take_cutA (i + 1) (l.length + 1 - (i + 1)) (c9 - (i + 1)) (A' := some ⟨g9, (i + 1) * 1, none⟩) (by rw [if_neg (by omega), Option.map_some, Addr.add_mid, Nat.zero_add]) rfl tySlice28 tySize3 rfl ⟨_, _, rfl, by omega⟩ (show i + 1 + (l.length + 1 - (i + 1)) = l.length + 1 from by omega) (show i + 1 + (c9 - (i + 1)) = c9 from by omega) (by simp) (dk rfl) (by omega) (by omega) ?_
  simp only [go_sem, reduceAdd, reduceSub, reduceMul, reduceEqDiff, reduceLT, reduceLeDiff, Nat.reduceBEq, Nat.reduceBNe, Int.reduceLT, Int.reduceLE, Int.reduceEq, Int.reduceAdd, Int.reduceSub, Int.reduceNeg, reduceCtorEq]
  refine take_cutA i (l.length - i) (l.length - i) (A' := some ⟨g, i * 1, none⟩) (by rw [if_neg (by omega), Option.map_some, Addr.add_mid, Nat.zero_add]) rfl tySlice28 tySize3 rfl ⟨_, _, rfl, by omega⟩ (show i + (l.length - i) = l.length from by omega) (show i + (l.length - i) = l.length from by omega) (by simp) (dk rfl) (by omega) (by omega) ?_
  simp only [go_sem, reduceAdd, reduceSub, reduceMul, reduceEqDiff, reduceLT, reduceLeDiff, Nat.reduceBEq, Nat.reduceBNe, Int.reduceLT, Int.reduceLE, Int.reduceEq, Int.reduceAdd, Int.reduceSub, Int.reduceNeg, reduceCtorEq]
  refine any_ok (N := 3000) (ownCopy_does (id := 1) (off := (i + 1) * 1) (news := (l.drop i).flatMap intC) (l.length - i) (show Nat.min (l.length - i) (l.length + 1 - (i + 1)) = l.length - i from Nat.min_eq_left (by omega)) rfl tySlice28 tySize3 rfl rfl rfl (dk rfl) (fun u hu => h1 u (by
   obtain ⟨y, hy, hu⟩ := List.mem_flatMap.1 hu
   exact List.mem_flatMap.2 ⟨y, List.mem_of_mem_drop hy, hu⟩)) (by show (i + 1) * 1 + (l.length - i) * 1 ≤ (((l.take i).map intC ++ intC x :: List.replicate (c9 - (i + 1)) ([.int .i64 0] : List Value)).flatten.map SC.v).length; rw [hcl8, ← Nat.add_mul]; exact Nat.mul_le_mul_right 1 (by omega)) hdl (fun G hG j u hj => hdr j u hj G.w (hG.blks ⟨0, g, 3, (l.map intC ++ []).flatten.map .v⟩ (by simp)))) (QOk_body _ _ _) rfl (by first | exact .inl rfl | exact .inr ⟨_, _, rfl, rfl⟩) (fun σ' hS hB b hb => by cases hb) (fun σ' hS v hv => by cases hv) ?_
  rintro _ rfl
  simp only [go_sem, reduceAdd, reduceSub, reduceMul, reduceEqDiff, reduceLT, reduceLeDiff, Nat.reduceBEq, Nat.reduceBNe, Int.reduceLT, Int.reduceLE, Int.reduceEq, Int.reduceAdd, Int.reduceSub, Int.reduceNeg, reduceCtorEq, hput8]
  refine chunkRow_ok (B1 := []) 1 (l.length + 1) intC (l.insertIdx i x) (List.replicate (c9 - (l.length + 1)) ([.int .i64 0] : List Value)) rfl intC_len (fun c hc => by rw [(List.mem_replicate.1 hc).2]; rfl) elen.symm (by rw [List.length_replicate]; omega) ?_
  refine fin_retH (G := G0) Tryz.results139 ?_
  simp only [go_sem, reduceAdd, reduceSub, reduceMul, reduceEqDiff, reduceLT, reduceLeDiff, Nat.reduceBEq, Nat.reduceBNe, Int.reduceLT, Int.reduceLE, Int.reduceEq, Int.reduceAdd, Int.reduceSub, Int.reduceNeg, reduceCtorEq]
  intro aa w' _ _
  rw [List.length_replicate, show l.length + 1 + (c9 - (l.length + 1)) = c9 from by omega]
  refine ⟨some ⟨g9, 0, none⟩, c9, rfl, ?_⟩
  unfold intRow
  rw [elen]
 ·obtain ⟨c0, tl2, rfl⟩ : ∃ c0 tl2, tl = c0 :: tl2 := by cases tl with | nil => exact absurd rfl htz | cons a b => exact ⟨a, b, rfl⟩
  have q2 : decide (((l.length + (c0 :: tl2).length : Nat) : Int) < (l.length : Int) + ((1 : Nat) : Int)) = false := decide_eq_false (by rw [List.length_cons]; omega)
  obtain ⟨c9, hc9⟩ : ∃ c9, c9 = l.length + (c0 :: tl2).length := ⟨_, rfl⟩
  rw [← hc9] at q2 hcl hmx
  have hc9' : l.length + 1 ≤ c9 := by rw [hc9, List.length_cons]; omega
  rw [← hc9]
  simp only [go_sem, reduceAdd, reduceSub, reduceMul, reduceEqDiff, reduceLT, reduceLeDiff, Nat.reduceBEq, Nat.reduceBNe, Int.reduceLT, Int.reduceLE, Int.reduceEq, Int.reduceAdd, Int.reduceSub, Int.reduceNeg, reduceCtorEq, q0, q1, q2]
  obtain ⟨y0, hy0⟩ : ∃ y0, l[i]? = some y0 := ⟨_, List.getElem?_eq_getElem hil⟩
  have htl2 : Chunks 1 tl2 := fun c hc => htl c (List.mem_cons_of_mem _ hc)
  have htk : ((l.take i).map intC).length = i := by rw [List.length_map, List.length_take]; omega
  have etk : (l.map intC ++ c0 :: tl2).take (i + 1) = (l.take i).map intC ++ [intC y0] := by
   rw [List.take_append_of_le_length (by rw [List.length_map]; omega), ← List.map_take, List.take_add_one, hy0, List.map_append]
   rfl
  have hputA : putCs ((l.map intC ++ c0 :: tl2).flatten.map SC.v) ((i + 1) * 1) (((l.drop i).flatMap intC).map SC.v) = ((l.take i).map intC ++ intC y0 :: ((l.drop i).map intC ++ tl2)).flatten.map SC.v := by
   rw [List.flatMap_def, chunk_put hch (chunks_map intC_len (l.drop i)) (m := i + 1) (by rw [List.length_map, List.length_drop, List.length_append, List.length_map, List.length_cons]; omega), etk, List.length_map, List.length_drop, show i + 1 + (l.length - i) = l.length + 1 + 0 from by omega, drop_mid (List.length_map _) 0]
   simp only [List.append_assoc, List.cons_append, List.nil_append, List.drop_zero]
  have hchA : Chunks 1 ((l.take i).map intC ++ intC y0 :: ((l.drop i).map intC ++ tl2)) := (chunks_map intC_len (l.take i)).app fun c hc => by
   rcases List.mem_cons.1 hc with rfl | hc
   ·exact intC_len y0
   ·exact ((chunks_map intC_len (l.drop i)).app htl2) c hc
  have hlA : ((l.take i).map intC ++ intC y0 :: ((l.drop i).map intC ++ tl2)).length = c9 := by
   have := hc9
   rw [List.length_cons] at this
   rw [List.length_append, htk, List.length_cons, List.length_append, List.length_map, List.length_drop]
   omega
  have hclA : (((l.take i).map intC ++ intC y0 :: ((l.drop i).map intC ++ tl2)).flatten.map SC.v).length = c9 * 1 := by rw [List.length_map, hchA.len, hlA]
  have hputB : putCs (((l.take i).map intC ++ intC y0 :: ((l.drop i).map intC ++ tl2)).flatten.map SC.v) (i * 1) ((intC x).map SC.v) = ((l.insertIdx i x).map intC ++ tl2).flatten.map SC.v := by
   have h := chunk_put hchA (ds := [intC x]) (fun c hc => by rw [List.mem_singleton.1 hc]; exact intC_len x) (m := i) (by rw [List.length_singleton, hlA]; omega)
   rw [List.flatten_cons, List.flatten_nil, List.append_nil] at h
   rw [h, List.take_left' htk, List.length_singleton, show i + 1 = i + 1 + 0 from rfl, drop_mid htk 0, eins]
   simp only [List.append_assoc, List.cons_append, List.nil_append, List.drop_zero]
  refine ⟨by omega, ?_⟩
  refine pk (cutv_does 0 (l.length + 1) c9 rfl tySlice28 tySize3 rfl rfl ⟨_, _, rfl, by omega⟩ (show 0 + c9 = c9 from by omega) (by simp) (dk rfl) (by omega) (by omega)) ?_
  rintro _ rfl
  rw [if_neg (show ¬ 0 + c9 = 0 from by omega)]
  simp only [Option.map_some, Addr.add_mid, Nat.zero_mul, Nat.add_zero]
  simp only [go_sem, reduceAdd, reduceSub, reduceMul, reduceEqDiff, reduceLT, reduceLeDiff, Nat.reduceBEq, Nat.reduceBNe, Int.reduceLT, Int.reduceLE, Int.reduceEq, Int.reduceAdd, Int.reduceSub, Int.reduceNeg, reduceCtorEq]
  refine ⟨by omega, ?_⟩
  refine pk (cutv_does (i + 1) (l.length + 1 - (i + 1)) (c9 - (i + 1)) rfl tySlice28 tySize3 rfl ⟨_, _, rfl, by omega⟩ (show i + 1 + (l.length + 1 - (i + 1)) = l.length + 1 from by omega) (show i + 1 + (c9 - (i + 1)) = c9 from by omega) (by simp) (dk rfl) (by omega) (by omega)) ?_
  rintro _ rfl
  rw [if_neg (show ¬ i + 1 + (c9 - (i + 1)) = i + 1 from by omega)]
  simp only [Option.map_some, Addr.add_mid, Nat.zero_add]
  simp only [go_sem, reduceAdd, reduceSub, reduceMul, reduceEqDiff, reduceLT, reduceLeDiff, Nat.reduceBEq, Nat.reduceBNe, Int.reduceLT, Int.reduceLE, Int.reduceEq, Int.reduceAdd, Int.reduceSub, Int.reduceNeg, reduceCtorEq]
  have hb0 : (l.map intC ++ c0 :: tl2).flatten.map SC.v ≠ [] := fun e => by
   have := congrArg List.length e
   rw [hcl] at this
   simp only [List.length_nil] at this
   omega
  refine pk (overlaps_does (id := 0) (off := (i + 1) * 1) (vb := vb) (cv := intC x) (tv := 3) (tR := 4) rfl rfl rfl Tryz.func167 (by kernel_rfl) (by kernel_rfl) (by kernel_rfl) (by kernel_rfl) tySlice28 tySize3 rfl rfl rfl (dk rfl) hb0 (fun G hG => hv.mono (hG.le G0 (by simp)))) ?_
  rintro _ rfl
  simp only [go_sem, reduceAdd, reduceSub, reduceMul, reduceEqDiff, reduceLT, reduceLeDiff, Nat.reduceBEq, Nat.reduceBNe, Int.reduceLT, Int.reduceLE, Int.reduceEq, Int.reduceAdd, Int.reduceSub, Int.reduceNeg, reduceCtorEq]
  refine draw_ok (N := 3000) (.take 0 (.take 1 (.take 2 (.take 3 (.take 4 (.take 5 (.take 6 (.take 7 (.alt 8 .done .last))))))))) [0] (QOk_body _ _ _) follows_mixed (by kernel_rfl) (by kernel_rfl) ?_
  simp only [go_sem, reduceAdd, reduceSub, reduceMul, reduceEqDiff, reduceLT, reduceLeDiff, Nat.reduceBEq, Nat.reduceBNe, Int.reduceLT, Int.reduceLE, Int.reduceEq, Int.reduceAdd, Int.reduceSub, Int.reduceNeg, reduceCtorEq]
  refine ⟨by omega, ?_⟩
  refine take_cutA (i + 1) (l.length + 1 - (i + 1)) (c9 - (i + 1)) (A' := some ⟨g, (i + 1) * 1, none⟩) (by rw [if_neg (by omega), Option.map_some, Addr.add_mid, Nat.zero_add]) rfl tySlice28 tySize3 rfl ⟨_, _, rfl, by omega⟩ (show i + 1 + (l.length + 1 - (i + 1)) = l.length + 1 from by omega) (show i + 1 + (c9 - (i + 1)) = c9 from by omega) (by simp) (dk rfl) (by omega) (by omega) ?_
  simp only [go_sem, reduceAdd, reduceSub, reduceMul, reduceEqDiff, reduceLT, reduceLeDiff, Nat.reduceBEq, Nat.reduceBNe, Int.reduceLT, Int.reduceLE, Int.reduceEq, Int.reduceAdd, Int.reduceSub, Int.reduceNeg, reduceCtorEq]
  refine take_cutA i (l.length + 1 - i) (c9 - i) (A' := some ⟨g, i * 1, none⟩) (by rw [if_neg (by omega), Option.map_some, Addr.add_mid, Nat.zero_add]) rfl tySlice28 tySize3 rfl ⟨_, _, rfl, by omega⟩ (show i + (l.length + 1 - i) = l.length + 1 from by omega) (show i + (c9 - i) = c9 from by omega) (by simp) (dk rfl) (by omega) (by omega) ?_
  simp only [go_sem, reduceAdd, reduceSub, reduceMul, reduceEqDiff, reduceLT, reduceLeDiff, Nat.reduceBEq, Nat.reduceBNe, Int.reduceLT, Int.reduceLE, Int.reduceEq, Int.reduceAdd, Int.reduceSub, Int.reduceNeg, reduceCtorEq]
  refine any_ok (N := 3000) (ownCopy_does (id := 0) (off := (i + 1) * 1) (news := (l.drop i).flatMap intC) (l.length - i) (show Nat.min (l.length + 1 - i) (l.length + 1 - (i + 1)) = l.length - i from by show min _ _ = _; omega) rfl tySlice28 tySize3 rfl rfl rfl (dk rfl) (fun u hu => h1 u (by
   obtain ⟨y, hy, hu⟩ := List.mem_flatMap.1 hu
   exact List.mem_flatMap.2 ⟨y, List.mem_of_mem_drop hy, hu⟩)) (by show (i + 1) * 1 + (l.length - i) * 1 ≤ ((l.map intC ++ c0 :: tl2).flatten.map SC.v).length; rw [hcl, ← Nat.add_mul]; exact Nat.mul_le_mul_right 1 (by omega)) hdl (fun G hG j u hj => hdr j u hj G.w (hG.blks ⟨0, g, 3, (l.map intC ++ c0 :: tl2).flatten.map .v⟩ (by simp)))) (QOk_body _ _ _) rfl (by first | exact .inl rfl | exact .inr ⟨_, _, rfl, rfl⟩) (fun σ' hS hB b hb => by cases hb) (fun σ' hS v hv => by cases hv) ?_
  rintro _ rfl
  simp only [go_sem, reduceAdd, reduceSub, reduceMul, reduceEqDiff, reduceLT, reduceLeDiff, Nat.reduceBEq, Nat.reduceBNe, Int.reduceLT, Int.reduceLE, Int.reduceEq, Int.reduceAdd, Int.reduceSub, Int.reduceNeg, reduceCtorEq, hputA]
  refine pk (cutv_does i (l.length + 1 - i) (c9 - i) rfl tySlice28 tySize3 rfl ⟨_, _, rfl, rfl⟩ (show i + (l.length + 1 - i) = l.length + 1 from by omega) (show i + (c9 - i) = c9 from by omega) (by simp) (dk rfl) (by omega) (by omega)) ?_
  rintro _ rfl
  simp only [if_neg (show ¬ i + (c9 - i) = i from by omega), Option.map_some, Addr.add_mid, Nat.zero_add]
  simp only [go_sem, reduceAdd, reduceSub, reduceMul, reduceEqDiff, reduceLT, reduceLeDiff, Nat.reduceBEq, Nat.reduceBNe, Int.reduceLT, Int.reduceLE, Int.reduceEq, Int.reduceAdd, Int.reduceSub, Int.reduceNeg, reduceCtorEq]
  refine pk (ownCopy_does (id := 0) (off := i * 1) (news := intC x) 1 (show Nat.min 1 (l.length + 1 - i) = 1 from Nat.min_eq_left (by omega)) rfl tySlice28 tySize3 rfl rfl rfl (dk rfl) hx1 (by show i * 1 + 1 * 1 ≤ (((l.take i).map intC ++ intC y0 :: ((l.drop i).map intC ++ tl2)).flatten.map SC.v).length; rw [hclA, ← Nat.add_mul]; exact Nat.mul_le_mul_right 1 (by omega)) (by rw [intC_len x]) (fun G hG => (hv.mono (hG.le G0 (by simp))).cells)) ?_
  rintro _ rfl
  simp only [go_sem, reduceAdd, reduceSub, reduceMul, reduceEqDiff, reduceLT, reduceLeDiff, Nat.reduceBEq, Nat.reduceBNe, Int.reduceLT, Int.reduceLE, Int.reduceEq, Int.reduceAdd, Int.reduceSub, Int.reduceNeg, reduceCtorEq, hputB]
  have e9 : c9 = l.length + 1 + tl2.length := by rw [hc9, List.length_cons]; omega
  rw [e9]
  refine chunkRow_ok (B1 := []) 1 (l.length + 1) intC (l.insertIdx i x) tl2 rfl intC_len htl2 elen.symm (by omega) ?_
  refine fin_retH (G := G0) Tryz.results139 ?_
  simp only [go_sem, reduceAdd, reduceSub, reduceMul, reduceEqDiff, reduceLT, reduceLeDiff, Nat.reduceBEq, Nat.reduceBNe, Int.reduceLT, Int.reduceLE, Int.reduceEq, Int.reduceAdd, Int.reduceSub, Int.reduceNeg, reduceCtorEq]
  intro aa w' _ _
  refine ⟨some ⟨g, 0, none⟩, l.length + 1 + tl2.length, rfl, ?_⟩
  unfold intRow
  rw [elen]
set_option maxRecDepth 100000 in
set_option maxHeartbeats 16000000 in
theorem insertPrt_does {l : List (Prt × Value)} {lv : Value} {i vb : Nat} {x : (Prt × Value)} {G0 : GW} (hW : G0.Wf) (hh : HandsOk G0.w ⟨[], [prtRow lv l]⟩) (hM : ∀ k, Hands.A ⟨[], [prtRow lv l]⟩ k → G0.M k) (hl : l.length ≤ 1000) (hi : i ≤ l.length) (h1 : ∀ u ∈ l.flatMap prtX, u.oneCell' = true) (hx1 : ∀ u ∈ prtX x, u.oneCell' = true) (hv : VarG G0 vb 70 (prtX x)) :
  Calls Tryz.prog 137 #[lv, .int .i64 (i : Int), .slice (some ⟨vb, 0, none⟩) 1 1] G0.w (RetH G0 ⟨[], [prtRow lv l]⟩ fun v _ R _ => ∃ A c, v = .slice A (l.length + 1) c ∧ R = [prtRow (.slice A (l.length + 1) c) (l.insertIdx i x)]) := by
 have hml := max_le
 obtain ⟨A, c, e0, hc1, hc2⟩ := row_form (hh.rows (prtRow lv l) (by simp)) (by show (3 : Nat) ≠ 0; decide)
 obtain rfl : lv = .slice A l.length c := e0
 have hc1' : l.length ≤ c := hc1
 have e1 : ((1 : Nat) : Int) = 1 := rfl
 have elen : (l.insertIdx i x).length = l.length + 1 := List.length_insertIdx_of_le_length hi x
 refine enterH (n := 95) 3000 ([.c (.v (.slice A l.length c)), .c (.v (.int .i64 (i : Int))), .c (.v (.slice (some ⟨vb, 0, none⟩) 1 1))]) ([]) rfl hW hh hM Tryz.func137 rfl Tryz.ntmps137 (by simp) ?_
 simp only [go_sem, reduceAdd, reduceSub, reduceMul, reduceEqDiff, reduceLT, reduceLeDiff, Nat.reduceBEq, Nat.reduceBNe, Int.reduceLT, Int.reduceLE, Int.reduceEq, Int.reduceAdd, Int.reduceSub, Int.reduceNeg, reduceCtorEq]
 refine pk (cutv_does i (l.length - i) (c - i) rfl tySlice87 tySize70 rfl ⟨_, _, rfl, rfl⟩ (show i + (l.length - i) = l.length from by omega) (show i + (c - i) = c from by omega) (by simp) (dk rfl) (by omega) (by omega)) ?_
 rintro _ rfl
 have q0 : decide (((1 : Nat) : Int) = 0) = false := decide_eq_false (by omega)
 by_cases hin : i = l.length
 ·subst hin
  have q1 : decide ((l.length : Int) = (l.length : Int)) = true := decide_eq_true rfl
  simp only [go_sem, reduceAdd, reduceSub, reduceMul, reduceEqDiff, reduceLT, reduceLeDiff, Nat.reduceBEq, Nat.reduceBNe, Int.reduceLT, Int.reduceLE, Int.reduceEq, Int.reduceAdd, Int.reduceSub, Int.reduceNeg, reduceCtorEq, q0, q1]
  refine pk (append_does (R1 := []) (R2 := []) (n := l.length) (v := .slice A l.length c) (xs := l.flatMap prtX) (news := prtX x) (m := 1) rfl tySlice87 tyApp70 (by simp [prtRow]) rfl rfl rfl (dk rfl) hx1 (by unfold maxLen; omega) (by omega) (fun G hG => ((hv.mono (hG.le G0 (by simp))).sl (prtX_len x)).tsl)) ?_
  rintro _ ⟨A', c', rfl⟩
  simp only [go_sem, reduceAdd, reduceSub, reduceMul, reduceEqDiff, reduceLT, reduceLeDiff, Nat.reduceBEq, Nat.reduceBNe, Int.reduceLT, Int.reduceLE, Int.reduceEq, Int.reduceAdd, Int.reduceSub, Int.reduceNeg, reduceCtorEq]
  refine fin_retH (G := G0) Tryz.results137 ?_
  simp only [go_sem, reduceAdd, reduceSub, reduceMul, reduceEqDiff, reduceLT, reduceLeDiff, Nat.reduceBEq, Nat.reduceBNe, Int.reduceLT, Int.reduceLE, Int.reduceEq, Int.reduceAdd, Int.reduceSub, Int.reduceNeg, reduceCtorEq]
  intro aa w' _ _
  refine ⟨A', c', rfl, ?_⟩
  unfold prtRow
  rw [List.insertIdx_length_self, List.flatMap_append, List.length_append]
  simp
 have q1 : decide ((i : Int) = (l.length : Int)) = false := decide_eq_false (by omega)
 simp only [go_sem, reduceAdd, reduceSub, reduceMul, reduceEqDiff, reduceLT, reduceLeDiff, Nat.reduceBEq, Nat.reduceBNe, Int.reduceLT, Int.reduceLE, Int.reduceEq, Int.reduceAdd, Int.reduceSub, Int.reduceNeg, reduceCtorEq, q0, q1]
 have hil : i < l.length := by omega
 refine ⟨by omega, ?_⟩
 refine rowChunk_ok (R1 := []) (R2 := []) (v := .slice A l.length c) (t := 70) (k := 3) (n := l.length) (f := prtX) (l := l) (by simp [prtRow]) prtX_len (by omega) (by omega) rfl fun g tl hva hmx htl => ?_
 simp only [List.append_nil]
 cases hva
 have hch : Chunks 3 (l.map prtX ++ tl) := (chunks_map prtX_len l).app htl
 have hcl : ((l.map prtX ++ tl).flatten.map SC.v).length = (l.length + tl.length) * 3 := by rw [List.length_map, hch.len, List.length_append, List.length_map]
 have hdr : ∀ j u, ((l.drop i).flatMap prtX)[j]? = some u → ∀ w : World, Blk w g 70 (dens ((l.map prtX ++ tl).flatten.map .v)) → w.cell? ((⟨g, i * 3, none⟩ : Addr).add j) = some u := fun j u hj w hb =>
  (chunk_tail (id := 0) (i := i) (m := l.length - i) (c := l.length - i) prtX_len htl hb (by omega) (.inr rfl) (Nat.le_refl _) (by omega)).news j u hj
 have hdl : ((l.drop i).flatMap prtX).length = (l.length - i) * 3 := by rw [List.flatMap_def, (chunks_map prtX_len (l.drop i)).len, List.length_map, List.length_drop]
 refine pk (cap_does rfl tySlice87 rfl (dk rfl)) ?_
 rintro _ rfl
 have eins : (l.insertIdx i x).map prtX = (l.take i).map prtX ++ prtX x :: (l.drop i).map prtX := by rw [insert_split x l i hi, List.map_append, List.map_cons]
 by_cases htz : tl = []
 ·subst htz
  have q2 : decide (((l.length + ([] : List (List Value)).length : Nat) : Int) < (l.length : Int) + ((1 : Nat) : Int)) = true := decide_eq_true (by simp only [List.length_nil]; omega)
  simp only [List.length_nil, Nat.add_zero] at q2 hcl hmx
  simp only [go_sem, reduceAdd, reduceSub, reduceMul, reduceEqDiff, reduceLT, reduceLeDiff, Nat.reduceBEq, Nat.reduceBNe, Int.reduceLT, Int.reduceLE, Int.reduceEq, Int.reduceAdd, Int.reduceSub, Int.reduceNeg, reduceCtorEq, q0, q1, q2, List.length_nil, Nat.add_zero]
  refine pk (cutv_does 0 i l.length rfl tySlice87 tySize70 rfl rfl ⟨_, _, rfl, by omega⟩ (show 0 + l.length = l.length from by omega) (by simp) (dk rfl) (by omega) (by omega)) ?_
  rintro _ rfl
  rw [if_neg (show ¬ 0 + l.length = 0 from by omega)]
  simp only [Option.map_some, Addr.add_mid, Nat.zero_mul, Nat.add_zero]
  simp only [go_sem, reduceAdd, reduceSub, reduceMul, reduceEqDiff, reduceLT, reduceLeDiff, Nat.reduceBEq, Nat.reduceBNe, Int.reduceLT, Int.reduceLE, Int.reduceEq, Int.reduceAdd, Int.reduceSub, Int.reduceNeg, reduceCtorEq]
  refine ⟨by omega, by omega, ?_⟩
  refine pk (growZeros_does (id := 0) (i := i) (m := l.length + 1 - i) (N := l.length + 1) (css := (l.take i).map prtX) (by omega) rfl tySlice87 tyInt3 tyApp70 tyZero70 rfl rfl rfl (by omega) (dk rfl) (by omega) (by omega) (by show i * 3 ≤ ((l.map prtX ++ []).flatten.map SC.v).length; rw [hcl]; exact Nat.mul_le_mul_right 3 (by omega)) (by unfold maxLen; omega) (by omega) (by show (((l.map prtX ++ []).flatten.map SC.v).map SC.den).take (i * 3) = _; rw [den_flat, flatten_take _ hch, List.take_append_of_le_length (by rw [List.length_map]; omega), List.map_take])) ?_
  rintro _ ⟨g9, c9, hN1, hN2, rfl⟩
  simp only [go_sem, reduceAdd, reduceSub, reduceMul, reduceEqDiff, reduceLT, reduceLeDiff, Nat.reduceBEq, Nat.reduceBNe, Int.reduceLT, Int.reduceLE, Int.reduceEq, Int.reduceAdd, Int.reduceSub, Int.reduceNeg, reduceCtorEq]
  have hz9 : Chunks 3 (List.replicate (c9 - i) ([.int .i64 0, .int .i64 0, .slice none 0 0] : List Value)) := fun c hc => by rw [(List.mem_replicate.1 hc).2]; rfl
  have hch9 : Chunks 3 ((l.take i).map prtX ++ List.replicate (c9 - i) [.int .i64 0, .int .i64 0, .slice none 0 0]) := (chunks_map prtX_len (l.take i)).app hz9
  have hcl9 : (((l.take i).map prtX ++ List.replicate (c9 - i) ([.int .i64 0, .int .i64 0, .slice none 0 0] : List Value)).flatten.map SC.v).length = c9 * 3 := by rw [List.length_map, hch9.len, List.length_append, List.length_map, List.length_take, List.length_replicate]; congr 1; omega
  have htk9 : ((l.take i).map prtX).length = i := by rw [List.length_map, List.length_take]; omega
  refine pk (cutv_does i (l.length + 1 - i) (c9 - i) rfl tySlice87 tySize70 rfl ⟨_, _, rfl, rfl⟩ (show i + (l.length + 1 - i) = l.length + 1 from by omega) (show i + (c9 - i) = c9 from by omega) (by simp) (dk rfl) (by omega) (by omega)) ?_
  rintro _ rfl
  rw [if_neg (show ¬ i + (c9 - i) = i from by omega)]
  simp only [Option.map_some, Addr.add_mid, Nat.zero_add]
  simp only [go_sem, reduceAdd, reduceSub, reduceMul, reduceEqDiff, reduceLT, reduceLeDiff, Nat.reduceBEq, Nat.reduceBNe, Int.reduceLT, Int.reduceLE, Int.reduceEq, Int.reduceAdd, Int.reduceSub, Int.reduceNeg, reduceCtorEq]
  have hput9 : putCs (((l.take i).map prtX ++ List.replicate (c9 - i) ([.int .i64 0, .int .i64 0, .slice none 0 0] : List Value)).flatten.map SC.v) (i * 3) ((prtX x).map SC.v) = ((l.take i).map prtX ++ prtX x :: List.replicate (c9 - (i + 1)) [.int .i64 0, .int .i64 0, .slice none 0 0]).flatten.map SC.v := by
   have h := chunk_put hch9 (ds := [prtX x]) (fun c hc => by rw [List.mem_singleton.1 hc]; exact prtX_len x) (m := i) (by rw [List.length_singleton, List.length_append, List.length_replicate, htk9]; omega)
   rw [List.flatten_cons, List.flatten_nil, List.append_nil] at h
   rw [h, List.take_left' htk9, List.length_singleton, List.drop_append, htk9, List.drop_of_length_le (by rw [htk9]; omega), List.drop_replicate, show c9 - i - (i + 1 - i) = c9 - (i + 1) from by omega]
   simp
  refine pk (ownCopy_does (id := 1) (off := i * 3) (news := prtX x) 1 (show Nat.min 1 (l.length + 1 - i) = 1 from Nat.min_eq_left (by omega)) rfl tySlice87 tySize70 rfl rfl rfl (dk rfl) hx1 (by show i * 3 + 1 * 3 ≤ (((l.take i).map prtX ++ List.replicate (c9 - i) ([.int .i64 0, .int .i64 0, .slice none 0 0] : List Value)).flatten.map SC.v).length; rw [hcl9, ← Nat.add_mul]; exact Nat.mul_le_mul_right 3 (by omega)) (by rw [prtX_len x]) (fun G hG => (hv.mono (hG.le G0 (by simp))).cells)) ?_
  rintro _ rfl
  simp only [go_sem, reduceAdd, reduceSub, reduceMul, reduceEqDiff, reduceLT, reduceLeDiff, Nat.reduceBEq, Nat.reduceBNe, Int.reduceLT, Int.reduceLE, Int.reduceEq, Int.reduceAdd, Int.reduceSub, Int.reduceNeg, reduceCtorEq, hput9]
  have hch8 : Chunks 3 ((l.take i).map prtX ++ prtX x :: List.replicate (c9 - (i + 1)) [.int .i64 0, .int .i64 0, .slice none 0 0]) := (chunks_map prtX_len (l.take i)).app fun c hc => by
   rcases List.mem_cons.1 hc with rfl | hc
   ·exact prtX_len x
   ·rw [(List.mem_replicate.1 hc).2]; rfl
  have hl8 : ((l.take i).map prtX ++ prtX x :: List.replicate (c9 - (i + 1)) ([.int .i64 0, .int .i64 0, .slice none 0 0] : List Value)).length = c9 := by rw [List.length_append, htk9, List.length_cons, List.length_replicate]; omega
  have hcl8 : (((l.take i).map prtX ++ prtX x :: List.replicate (c9 - (i + 1)) ([.int .i64 0, .int .i64 0, .slice none 0 0] : List Value)).flatten.map SC.v).length = c9 * 3 := by rw [List.length_map, hch8.len, hl8]
  have hput8 : putCs (((l.take i).map prtX ++ prtX x :: List.replicate (c9 - (i + 1)) ([.int .i64 0, .int .i64 0, .slice none 0 0] : List Value)).flatten.map SC.v) ((i + 1) * 3) (((l.drop i).flatMap prtX).map SC.v) = ((l.insertIdx i x).map prtX ++ List.replicate (c9 - (l.length + 1)) ([.int .i64 0, .int .i64 0, .slice none 0 0] : List Value)).flatten.map SC.v := by
   rw [List.flatMap_def, chunk_put hch8 (chunks_map prtX_len (l.drop i)) (m := i + 1) (by rw [List.length_map, List.length_drop, hl8]; omega), eins, List.length_map, List.length_drop, take_mid htk9, drop_mid htk9, List.drop_replicate, show c9 - (i + 1) - (l.length - i) = c9 - (l.length + 1) from by omega]
   simp only [List.append_assoc, List.cons_append, List.nil_append]
  refine draw_ok (N := 3000) (.take 0 (.take 1 (.take 2 (.take 3 (.take 4 (.take 5 (.take 6 (.take 7 (.alt 8 .done .last))))))))) [0, 1] (QOk_body _ _ _) follows_mixed (by kernel_rfl) (by kernel_rfl) ?_
  simp only [go_sem, reduceAdd, reduceSub, reduceMul, reduceEqDiff, reduceLT, reduceLeDiff, Nat.reduceBEq, Nat.reduceBNe, Int.reduceLT, Int.reduceLE, Int.reduceEq, Int.reduceAdd, Int.reduceSub, Int.reduceNeg, reduceCtorEq]
  refine ⟨by omega, ?_⟩
  refine take_cutA (i + 1) (l.length + 1 - (i + 1)) (c9 - (i + 1)) (A' := some ⟨g9, (i + 1) * 3, none⟩) (by rw [if_neg (by omega), Option.map_some, Addr.add_mid, Nat.zero_add]) rfl tySlice87 tySize70 rfl ⟨_, _, rfl, by omega⟩ (show i + 1 + (l.length + 1 - (i + 1)) = l.length + 1 from by omega) (show i + 1 + (c9 - (i + 1)) = c9 from by omega) (by simp) (dk rfl) (by omega) (by omega) ?_
  simp only [go_sem, reduceAdd, reduceSub, reduceMul, reduceEqDiff, reduceLT, reduceLeDiff, Nat.reduceBEq, Nat.reduceBNe, Int.reduceLT, Int.reduceLE, Int.reduceEq, Int.reduceAdd, Int.reduceSub, Int.reduceNeg, reduceCtorEq]
  refine take_cutA i (l.length - i) (l.length - i) (A' := some ⟨g, i * 3, none⟩) (by rw [if_neg (by omega), Option.map_some, Addr.add_mid, Nat.zero_add]) rfl tySlice87 tySize70 rfl ⟨_, _, rfl, by omega⟩ (show i + (l.length - i) = l.length from by omega) (show i + (l.length - i) = l.length from by omega) (by simp) (dk rfl) (by omega) (by omega) ?_
  simp only [go_sem, reduceAdd, reduceSub, reduceMul, reduceEqDiff, reduceLT, reduceLeDiff, Nat.reduceBEq, Nat.reduceBNe, Int.reduceLT, Int.reduceLE, Int.reduceEq, Int.reduceAdd, Int.reduceSub, Int.reduceNeg, reduceCtorEq]
  refine any_ok (N := 3000) (ownCopy_does (id := 1) (off := (i + 1) * 3) (news := (l.drop i).flatMap prtX) (l.length - i) (show Nat.min (l.length - i) (l.length + 1 - (i + 1)) = l.length - i from Nat.min_eq_left (by omega)) rfl tySlice87 tySize70 rfl rfl rfl (dk rfl) (fun u hu => h1 u (by
   obtain ⟨y, hy, hu⟩ := List.mem_flatMap.1 hu
   exact List.mem_flatMap.2 ⟨y, List.mem_of_mem_drop hy, hu⟩)) (by show (i + 1) * 3 + (l.length - i) * 3 ≤ (((l.take i).map prtX ++ prtX x :: List.replicate (c9 - (i + 1)) ([.int .i64 0, .int .i64 0, .slice none 0 0] : List Value)).flatten.map SC.v).length; rw [hcl8, ← Nat.add_mul]; exact Nat.mul_le_mul_right 3 (by omega)) hdl (fun G hG j u hj => hdr j u hj G.w (hG.blks ⟨0, g, 70, (l.map prtX ++ []).flatten.map .v⟩ (by simp)))) (QOk_body _ _ _) rfl (by first | exact .inl rfl | exact .inr ⟨_, _, rfl, rfl⟩) (fun σ' hS hB b hb => by cases hb) (fun σ' hS v hv => by cases hv) ?_
  rintro _ rfl
  simp only [go_sem, reduceAdd, reduceSub, reduceMul, reduceEqDiff, reduceLT, reduceLeDiff, Nat.reduceBEq, Nat.reduceBNe, Int.reduceLT, Int.reduceLE, Int.reduceEq, Int.reduceAdd, Int.reduceSub, Int.reduceNeg, reduceCtorEq, hput8]
  refine chunkRow_ok (B1 := []) 3 (l.length + 1) prtX (l.insertIdx i x) (List.replicate (c9 - (l.length + 1)) ([.int .i64 0, .int .i64 0, .slice none 0 0] : List Value)) rfl prtX_len (fun c hc => by rw [(List.mem_replicate.1 hc).2]; rfl) elen.symm (by rw [List.length_replicate]; omega) ?_
  refine fin_retH (G := G0) Tryz.results137 ?_
  simp only [go_sem, reduceAdd, reduceSub, reduceMul, reduceEqDiff, reduceLT, reduceLeDiff, Nat.reduceBEq, Nat.reduceBNe, Int.reduceLT, Int.reduceLE, Int.reduceEq, Int.reduceAdd, Int.reduceSub, Int.reduceNeg, reduceCtorEq]
  intro aa w' _ _
  rw [List.length_replicate, show l.length + 1 + (c9 - (l.length + 1)) = c9 from by omega]
  refine ⟨some ⟨g9, 0, none⟩, c9, rfl, ?_⟩
  unfold prtRow
  rw [elen]
 ·obtain ⟨c0, tl2, rfl⟩ : ∃ c0 tl2, tl = c0 :: tl2 := by cases tl with | nil => exact absurd rfl htz | cons a b => exact ⟨a, b, rfl⟩
  have q2 : decide (((l.length + (c0 :: tl2).length : Nat) : Int) < (l.length : Int) + ((1 : Nat) : Int)) = false := decide_eq_false (by rw [List.length_cons]; omega)
  obtain ⟨c9, hc9⟩ : ∃ c9, c9 = l.length + (c0 :: tl2).length := ⟨_, rfl⟩
  rw [← hc9] at q2 hcl hmx
  have hc9' : l.length + 1 ≤ c9 := by rw [hc9, List.length_cons]; omega
  rw [← hc9]
  simp only [go_sem, reduceAdd, reduceSub, reduceMul, reduceEqDiff, reduceLT, reduceLeDiff, Nat.reduceBEq, Nat.reduceBNe, Int.reduceLT, Int.reduceLE, Int.reduceEq, Int.reduceAdd, Int.reduceSub, Int.reduceNeg, reduceCtorEq, q0, q1, q2]
  obtain ⟨y0, hy0⟩ : ∃ y0, l[i]? = some y0 := ⟨_, List.getElem?_eq_getElem hil⟩
  have htl2 : Chunks 3 tl2 := fun c hc => htl c (List.mem_cons_of_mem _ hc)
  have htk : ((l.take i).map prtX).length = i := by rw [List.length_map, List.length_take]; omega
  have etk : (l.map prtX ++ c0 :: tl2).take (i + 1) = (l.take i).map prtX ++ [prtX y0] := by
   rw [List.take_append_of_le_length (by rw [List.length_map]; omega), ← List.map_take, List.take_add_one, hy0, List.map_append]
   rfl
  have hputA : putCs ((l.map prtX ++ c0 :: tl2).flatten.map SC.v) ((i + 1) * 3) (((l.drop i).flatMap prtX).map SC.v) = ((l.take i).map prtX ++ prtX y0 :: ((l.drop i).map prtX ++ tl2)).flatten.map SC.v := by
   rw [List.flatMap_def, chunk_put hch (chunks_map prtX_len (l.drop i)) (m := i + 1) (by rw [List.length_map, List.length_drop, List.length_append, List.length_map, List.length_cons]; omega), etk, List.length_map, List.length_drop, show i + 1 + (l.length - i) = l.length + 1 + 0 from by omega, drop_mid (List.length_map _) 0]
   simp only [List.append_assoc, List.cons_append, List.nil_append, List.drop_zero]
  have hchA : Chunks 3 ((l.take i).map prtX ++ prtX y0 :: ((l.drop i).map prtX ++ tl2)) := (chunks_map prtX_len (l.take i)).app fun c hc => by
   rcases List.mem_cons.1 hc with rfl | hc
   ·exact prtX_len y0
   ·exact ((chunks_map prtX_len (l.drop i)).app htl2) c hc
  have hlA : ((l.take i).map prtX ++ prtX y0 :: ((l.drop i).map prtX ++ tl2)).length = c9 := by
   have := hc9
   rw [List.length_cons] at this
   rw [List.length_append, htk, List.length_cons, List.length_append, List.length_map, List.length_drop]
   omega
  have hclA : (((l.take i).map prtX ++ prtX y0 :: ((l.drop i).map prtX ++ tl2)).flatten.map SC.v).length = c9 * 3 := by rw [List.length_map, hchA.len, hlA]
  have hputB : putCs (((l.take i).map prtX ++ prtX y0 :: ((l.drop i).map prtX ++ tl2)).flatten.map SC.v) (i * 3) ((prtX x).map SC.v) = ((l.insertIdx i x).map prtX ++ tl2).flatten.map SC.v := by
   have h := chunk_put hchA (ds := [prtX x]) (fun c hc => by rw [List.mem_singleton.1 hc]; exact prtX_len x) (m := i) (by rw [List.length_singleton, hlA]; omega)
   rw [List.flatten_cons, List.flatten_nil, List.append_nil] at h
   rw [h, List.take_left' htk, List.length_singleton, show i + 1 = i + 1 + 0 from rfl, drop_mid htk 0, eins]
   simp only [List.append_assoc, List.cons_append, List.nil_append, List.drop_zero]
  refine ⟨by omega, ?_⟩
  refine pk (cutv_does 0 (l.length + 1) c9 rfl tySlice87 tySize70 rfl rfl ⟨_, _, rfl, by omega⟩ (show 0 + c9 = c9 from by omega) (by simp) (dk rfl) (by omega) (by omega)) ?_
  rintro _ rfl
  rw [if_neg (show ¬ 0 + c9 = 0 from by omega)]
  simp only [Option.map_some, Addr.add_mid, Nat.zero_mul, Nat.add_zero]
  simp only [go_sem, reduceAdd, reduceSub, reduceMul, reduceEqDiff, reduceLT, reduceLeDiff, Nat.reduceBEq, Nat.reduceBNe, Int.reduceLT, Int.reduceLE, Int.reduceEq, Int.reduceAdd, Int.reduceSub, Int.reduceNeg, reduceCtorEq]
  refine ⟨by omega, ?_⟩
  refine pk (cutv_does (i + 1) (l.length + 1 - (i + 1)) (c9 - (i + 1)) rfl tySlice87 tySize70 rfl ⟨_, _, rfl, by omega⟩ (show i + 1 + (l.length + 1 - (i + 1)) = l.length + 1 from by omega) (show i + 1 + (c9 - (i + 1)) = c9 from by omega) (by simp) (dk rfl) (by omega) (by omega)) ?_
  rintro _ rfl
  rw [if_neg (show ¬ i + 1 + (c9 - (i + 1)) = i + 1 from by omega)]
  simp only [Option.map_some, Addr.add_mid, Nat.zero_add]
  simp only [go_sem, reduceAdd, reduceSub, reduceMul, reduceEqDiff, reduceLT, reduceLeDiff, Nat.reduceBEq, Nat.reduceBNe, Int.reduceLT, Int.reduceLE, Int.reduceEq, Int.reduceAdd, Int.reduceSub, Int.reduceNeg, reduceCtorEq]
  have hb0 : (l.map prtX ++ c0 :: tl2).flatten.map SC.v ≠ [] := fun e => by
   have := congrArg List.length e
   rw [hcl] at this
   simp only [List.length_nil] at this
   omega
  refine pk (overlaps_does (id := 0) (off := (i + 1) * 3) (vb := vb) (cv := prtX x) (tv := 70) (tR := 4) rfl rfl rfl Tryz.func163 (by kernel_rfl) (by kernel_rfl) (by kernel_rfl) (by kernel_rfl) tySlice87 tySize70 rfl rfl rfl (dk rfl) hb0 (fun G hG => hv.mono (hG.le G0 (by simp)))) ?_
  rintro _ rfl
  simp only [go_sem, reduceAdd, reduceSub, reduceMul, reduceEqDiff, reduceLT, reduceLeDiff, Nat.reduceBEq, Nat.reduceBNe, Int.reduceLT, Int.reduceLE, Int.reduceEq, Int.reduceAdd, Int.reduceSub, Int.reduceNeg, reduceCtorEq]
  refine draw_ok (N := 3000) (.take 0 (.take 1 (.take 2 (.take 3 (.take 4 (.take 5 (.take 6 (.take 7 (.alt 8 .done .last))))))))) [0] (QOk_body _ _ _) follows_mixed (by kernel_rfl) (by kernel_rfl) ?_
  simp only [go_sem, reduceAdd, reduceSub, reduceMul, reduceEqDiff, reduceLT, reduceLeDiff, Nat.reduceBEq, Nat.reduceBNe, Int.reduceLT, Int.reduceLE, Int.reduceEq, Int.reduceAdd, Int.reduceSub, Int.reduceNeg, reduceCtorEq]
  refine ⟨by omega, ?_⟩
  refine take_cutA (i + 1) (l.length + 1 - (i + 1)) (c9 - (i + 1)) (A' := some ⟨g, (i + 1) * 3, none⟩) (by rw [if_neg (by omega), Option.map_some, Addr.add_mid, Nat.zero_add]) rfl tySlice87 tySize70 rfl ⟨_, _, rfl, by omega⟩ (show i + 1 + (l.length + 1 - (i + 1)) = l.length + 1 from by omega) (show i + 1 + (c9 - (i + 1)) = c9 from by omega) (by simp) (dk rfl) (by omega) (by omega) ?_
  simp only [go_sem, reduceAdd, reduceSub, reduceMul, reduceEqDiff, reduceLT, reduceLeDiff, Nat.reduceBEq, Nat.reduceBNe, Int.reduceLT, Int.reduceLE, Int.reduceEq, Int.reduceAdd, Int.reduceSub, Int.reduceNeg, reduceCtorEq]
  refine take_cutA i (l.length + 1 - i) (c9 - i) (A' := some ⟨g, i * 3, none⟩) (by rw [if_neg (by omega), Option.map_some, Addr.add_mid, Nat.zero_add]) rfl tySlice87 tySize70 rfl ⟨_, _, rfl, by omega⟩ (show i + (l.length + 1 - i) = l.length + 1 from by omega) (show i + (c9 - i) = c9 from by omega) (by simp) (dk rfl) (by omega) (by omega) ?_
  simp only [go_sem, reduceAdd, reduceSub, reduceMul, reduceEqDiff, reduceLT, reduceLeDiff, Nat.reduceBEq, Nat.reduceBNe, Int.reduceLT, Int.reduceLE, Int.reduceEq, Int.reduceAdd, Int.reduceSub, Int.reduceNeg, reduceCtorEq]
  refine any_ok (N := 3000) (ownCopy_does (id := 0) (off := (i + 1) * 3) (news := (l.drop i).flatMap prtX) (l.length - i) (show Nat.min (l.length + 1 - i) (l.length + 1 - (i + 1)) = l.length - i from by show min _ _ = _; omega) rfl tySlice87 tySize70 rfl rfl rfl (dk rfl) (fun u hu => h1 u (by
   obtain ⟨y, hy, hu⟩ := List.mem_flatMap.1 hu
   exact List.mem_flatMap.2 ⟨y, List.mem_of_mem_drop hy, hu⟩)) (by show (i + 1) * 3 + (l.length - i) * 3 ≤ ((l.map prtX ++ c0 :: tl2).flatten.map SC.v).length; rw [hcl, ← Nat.add_mul]; exact Nat.mul_le_mul_right 3 (by omega)) hdl (fun G hG j u hj => hdr j u hj G.w (hG.blks ⟨0, g, 70, (l.map prtX ++ c0 :: tl2).flatten.map .v⟩ (by simp)))) (QOk_body _ _ _) rfl (by first | exact .inl rfl | exact .inr ⟨_, _, rfl, rfl⟩) (fun σ' hS hB b hb => by cases hb) (fun σ' hS v hv => by cases hv) ?_
  rintro _ rfl
  simp only [go_sem, reduceAdd, reduceSub, reduceMul, reduceEqDiff, reduceLT, reduceLeDiff, Nat.reduceBEq, Nat.reduceBNe, Int.reduceLT, Int.reduceLE, Int.reduceEq, Int.reduceAdd, Int.reduceSub, Int.reduceNeg, reduceCtorEq, hputA]
  refine pk (cutv_does i (l.length + 1 - i) (c9 - i) rfl tySlice87 tySize70 rfl ⟨_, _, rfl, rfl⟩ (show i + (l.length + 1 - i) = l.length + 1 from by omega) (show i + (c9 - i) = c9 from by omega) (by simp) (dk rfl) (by omega) (by omega)) ?_
  rintro _ rfl
  simp only [if_neg (show ¬ i + (c9 - i) = i from by omega), Option.map_some, Addr.add_mid, Nat.zero_add]
  simp only [go_sem, reduceAdd, reduceSub, reduceMul, reduceEqDiff, reduceLT, reduceLeDiff, Nat.reduceBEq, Nat.reduceBNe, Int.reduceLT, Int.reduceLE, Int.reduceEq, Int.reduceAdd, Int.reduceSub, Int.reduceNeg, reduceCtorEq]
  refine pk (ownCopy_does (id := 0) (off := i * 3) (news := prtX x) 1 (show Nat.min 1 (l.length + 1 - i) = 1 from Nat.min_eq_left (by omega)) rfl tySlice87 tySize70 rfl rfl rfl (dk rfl) hx1 (by show i * 3 + 1 * 3 ≤ (((l.take i).map prtX ++ prtX y0 :: ((l.drop i).map prtX ++ tl2)).flatten.map SC.v).length; rw [hclA, ← Nat.add_mul]; exact Nat.mul_le_mul_right 3 (by omega)) (by rw [prtX_len x]) (fun G hG => (hv.mono (hG.le G0 (by simp))).cells)) ?_
  rintro _ rfl
  simp only [go_sem, reduceAdd, reduceSub, reduceMul, reduceEqDiff, reduceLT, reduceLeDiff, Nat.reduceBEq, Nat.reduceBNe, Int.reduceLT, Int.reduceLE, Int.reduceEq, Int.reduceAdd, Int.reduceSub, Int.reduceNeg, reduceCtorEq, hputB]
  have e9 : c9 = l.length + 1 + tl2.length := by rw [hc9, List.length_cons]; omega
  rw [e9]
  refine chunkRow_ok (B1 := []) 3 (l.length + 1) prtX (l.insertIdx i x) tl2 rfl prtX_len htl2 elen.symm (by omega) ?_
  refine fin_retH (G := G0) Tryz.results137 ?_
  simp only [go_sem, reduceAdd, reduceSub, reduceMul, reduceEqDiff, reduceLT, reduceLeDiff, Nat.reduceBEq, Nat.reduceBNe, Int.reduceLT, Int.reduceLE, Int.reduceEq, Int.reduceAdd, Int.reduceSub, Int.reduceNeg, reduceCtorEq]
  intro aa w' _ _
  refine ⟨some ⟨g, 0, none⟩, l.length + 1 + tl2.length, rfl, ?_⟩
  unfold prtRow
  rw [elen]
end Go.Proofs.YtohdfcnjcpjdcaaGreat
