/- icehousekeep.texts. Conditions: as each law states them. -/
import Derived.Test.YtomfladifefomaaR5
namespace Go.Proofs.Ytomfladifefomaa
open Go.RowKit
set_option linter.unusedSimpArgs false
theorem str_of {G : GW} {v : Value} {l : List ByteArray} (h : Sl G 9 1 l.length v (l.map Value.string)) : Sq StrG 9 1 G v l := by
  refine ⟨l.map fun x => [.string x], ⟨by simp, by simp, fun i cs x h1 h2 => ?_⟩, ?_⟩
  · rw [List.getElem?_map, h2] at h1
    cases h1
    rfl
  · have : (l.map fun x => [Value.string x]).flatten = l.map Value.string := by
      clear h
      induction l with
      | nil => rfl
      | cons a r ih => simp [ih]
    rw [this]
    exact h
set_option maxRecDepth 100000 in
set_option maxHeartbeats 16000000 in
theorem texts_does {rv : Value} {l : List Raw} {most : Nat} (hm : most ≤ 20) {G0 : GW} (hW : G0.Wf) (hl : RawsG G0 rv l) :
    Calls Try.prog 55 #[rv, .int .i64 (most : Int)] G0.w (Ret G0 fun v G => ∃ A c, v = .slice A ((l.take most).map textOf).length c ∧ Sq StrG 9 1 G (.slice A ((l.take most).map textOf).length c) ((l.take most).map textOf)) := by
  obtain ⟨A, c, rfl, hc1, hc2⟩ := ScR.form hl
  refine enter (G := G0) (n := 47) 3000 hW Try.func55 rfl Try.ntmps55 (by simp) ?_
  simp only [go_sem, Nat.reduceAdd, Nat.reduceSub, Nat.reduceMul, Nat.reduceEqDiff, Nat.reduceLT, Nat.reduceLeDiff, Nat.reduceBEq, Nat.reduceBNe, Int.reduceLT, Int.reduceLE, Int.reduceEq, Int.reduceAdd, Int.reduceSub, Int.reduceNeg, reduceCtorEq]
  refine row_ok 9 1 ?_
  refine loop_ok (N := 3000) (ι := Nat × Option Addr × Nat × GW)
    (fun i => match i with | (v, B, e, G) => ⟨[(0, .c (.v (.slice A l.length c))), (1, .c (.v (.int .i64 (most : Int)))), (5, .c (.v (.slice B v e))), (6, .c (.v (.int .i64 (v : Int))))], [], [⟨.slice B v e, 9, 1, v, ((l.take v).map textOf).map Value.string⟩], [], [G, G0], 0⟩)
    (fun i => match i with | (v, _, _, _) => v ≤ l.length ∧ v ≤ most) (fun i => l.length - i.1) (QOk_body _ _ _) (0, none, 0, G0) ⟨by omega, by omega⟩ (by simp only [go_sem, Nat.reduceAdd, Nat.reduceSub, Nat.reduceMul, Nat.reduceEqDiff, Nat.reduceLT, Nat.reduceLeDiff, Nat.reduceBEq, Nat.reduceBNe, Int.reduceLT, Int.reduceLE, Int.reduceEq, Int.reduceAdd, Int.reduceSub, Int.reduceNeg, reduceCtorEq]; simp) ?_
  rintro ⟨v, B, e, G1⟩ ⟨hv, hvm⟩
  simp only
  by_cases hlt : v < l.length
  · have q1 : decide ((v : Int) < (l.length : Int)) = true := decide_eq_true (by omega)
    by_cases hl2 : v < most
    · have q2 : decide ((v : Int) < (most : Int)) = true := decide_eq_true (by omega)
      obtain ⟨z, hz⟩ : ∃ z, l[v]? = some z := ⟨_, List.getElem?_eq_getElem hlt⟩
      simp only [go_sem, Nat.reduceAdd, Nat.reduceSub, Nat.reduceMul, Nat.reduceEqDiff, Nat.reduceLT, Nat.reduceLeDiff, Nat.reduceBEq, Nat.reduceBNe, Int.reduceLT, Int.reduceLE, Int.reduceEq, Int.reduceAdd, Int.reduceSub, Int.reduceNeg, reduceCtorEq, q1, q2]
      refine preview_ok (R := RawG) (kc := 6) hz (fun G hG => ScR.mono hl rawG_mono (hG G0 (by simp))) fun g5 o5 cs5 G5 hA _ hc5 hle5 => ?_
      subst hA
      clear hle5
      obtain ⟨rfl, z1, z2, z3, z4, z5, z6⟩ := hc5
      simp only [go_sem, Nat.reduceAdd, Nat.reduceSub, Nat.reduceMul, Nat.reduceEqDiff, Nat.reduceLT, Nat.reduceLeDiff, Nat.reduceBEq, Nat.reduceBNe, Int.reduceLT, Int.reduceLE, Int.reduceEq, Int.reduceAdd, Int.reduceSub, Int.reduceNeg, reduceCtorEq]
      refine draw_ok (N := 3000) (.take 0 (.take 1 (.take 2 (.take 3 (.take 4 (.take 5 (.take 6 (.take 7 (.take 8 (.take 9 (.take 10 (.take 12 (.take 13 (.take 14 (.take 15 (.take 16 (.take 17 (.take 18 (.take 19 (.take 20 (.take 21 (.alt 11 (.alt 22 (.take 23 (.take 24 (.take 25 (.alt 26 (.alt 27 (.take 28 .done) .last) .last)))) .last) .last)))))))))))))))))))))) [] (QOk_body _ _ _) follows_mixed (by kernel_rfl) (by kernel_rfl) ?_
      simp only [go_sem, Nat.reduceAdd, Nat.reduceSub, Nat.reduceMul, Nat.reduceEqDiff, Nat.reduceLT, Nat.reduceLeDiff, Nat.reduceBEq, Nat.reduceBNe, Int.reduceLT, Int.reduceLE, Int.reduceEq, Int.reduceAdd, Int.reduceSub, Int.reduceNeg, reduceCtorEq]
      refine take_elem 0 (m := v) rfl tySlice48 tySize58 rfl rfl (by simp only [dOk_some, dOk_none, Nat.reduceLT]) rfl hlt ?_
      simp only [go_sem, Nat.reduceAdd, Nat.reduceSub, Nat.reduceMul, Nat.reduceEqDiff, Nat.reduceLT, Nat.reduceLeDiff, Nat.reduceBEq, Nat.reduceBNe, Int.reduceLT, Int.reduceLE, Int.reduceEq, Int.reduceAdd, Int.reduceSub, Int.reduceNeg, reduceCtorEq]
      refine take_elem 0 (m := v) rfl tySlice48 tySize58 rfl rfl (by simp only [dOk_some, dOk_none, Nat.reduceLT]) rfl hlt ?_
      simp only [go_sem, Nat.reduceAdd, Nat.reduceSub, Nat.reduceMul, Nat.reduceEqDiff, Nat.reduceLT, Nat.reduceLeDiff, Nat.reduceBEq, Nat.reduceBNe, Int.reduceLT, Int.reduceLE, Int.reduceEq, Int.reduceAdd, Int.reduceSub, Int.reduceNeg, reduceCtorEq]
      refine take_elem 0 (m := v) rfl tySlice48 tySize58 rfl rfl (by simp only [dOk_some, dOk_none, Nat.reduceLT]) rfl hlt ?_
      simp only [go_sem, Nat.reduceAdd, Nat.reduceSub, Nat.reduceMul, Nat.reduceEqDiff, Nat.reduceLT, Nat.reduceLeDiff, Nat.reduceBEq, Nat.reduceBNe, Int.reduceLT, Int.reduceLE, Int.reduceEq, Int.reduceAdd, Int.reduceSub, Int.reduceNeg, reduceCtorEq]
      refine take_elem 0 (m := v) rfl tySlice48 tySize58 rfl rfl (by simp only [dOk_some, dOk_none, Nat.reduceLT]) rfl hlt ?_
      simp only [go_sem, Nat.reduceAdd, Nat.reduceSub, Nat.reduceMul, Nat.reduceEqDiff, Nat.reduceLT, Nat.reduceLeDiff, Nat.reduceBEq, Nat.reduceBNe, Int.reduceLT, Int.reduceLE, Int.reduceEq, Int.reduceAdd, Int.reduceSub, Int.reduceNeg, reduceCtorEq]
      refine anyc_ok (N := 3000) (call_does (fun u _ => u = .string (bodyOf z.text z.c)) rfl rfl (by kernel_rfl) rfl (by simp only [dOk_some, dOk_none, Nat.reduceLT]) (fun G hG => body_does z6 z4 hG.wf)) (QOk_body _ _ _) rfl (by first | exact .inl rfl | exact .inr ⟨_, _, rfl, rfl⟩) ?_
      rintro _ ⟨_, G9, rfl, hn9, rfl⟩
      clear hn9
      simp only [go_sem, Nat.reduceAdd, Nat.reduceSub, Nat.reduceMul, Nat.reduceEqDiff, Nat.reduceLT, Nat.reduceLeDiff, Nat.reduceBEq, Nat.reduceBNe, Int.reduceLT, Int.reduceLE, Int.reduceEq, Int.reduceAdd, Int.reduceSub, Int.reduceNeg, reduceCtorEq]
      refine anyc_ok (N := 3000) (call_does (fun u _ => u = .string (bodyOf z.text z.c)) rfl rfl (by kernel_rfl) rfl (by simp only [dOk_some, dOk_none, Nat.reduceLT]) (fun G hG => body_does z6 z4 hG.wf)) (QOk_body _ _ _) rfl (by first | exact .inl rfl | exact .inr ⟨_, _, rfl, rfl⟩) ?_
      rintro _ ⟨_, G10, rfl, hn10, rfl⟩
      clear hn10
      have hbs := bodyOf_size z.text z.c
      have hte : textOf z = (bodyOf z.text z.c).extract (Int.toNat 0) (min ((bodyOf z.text z.c).size : Int) 150).toNat := rfl
      generalize bodyOf z.text z.c = bz at *
      simp only [go_sem, Nat.reduceAdd, Nat.reduceSub, Nat.reduceMul, Nat.reduceEqDiff, Nat.reduceLT, Nat.reduceLeDiff, Nat.reduceBEq, Nat.reduceBNe, Int.reduceLT, Int.reduceLE, Int.reduceEq, Int.reduceAdd, Int.reduceSub, Int.reduceNeg, reduceCtorEq]
      refine ⟨by omega, ?_⟩
      rw [← hte]
      intro g2
      refine any_ok2 (N := 3000) (append_does (R1 := []) (m := 1) (news := [.string (textOf z)]) rfl tySlice93 tyApp9 rfl rfl rfl rfl (by simp only [dOk_some, dOk_none, Nat.reduceLT]) (by intro u hu; simp at hu; rcases hu with rfl; rfl) (by unfold maxLen; omega) (by omega) (fun G hG => tsl_blk hG (b := ⟨1, g2, 9, [.v (.string (textOf z))]⟩) (by simp) rfl (by unfold maxLen; omega))) (QOk_body _ _ _) rfl (by first | exact .inl rfl | exact .inr ⟨_, _, rfl, rfl⟩) (by intro _ hK; first | (obtain ⟨_, _, _, _, rfl⟩ := hK; exact ⟨rfl, fun _ h => h⟩) | (obtain ⟨_, _, rfl⟩ := hK; exact ⟨rfl, fun _ h => h⟩) | (obtain ⟨_, _, _, _, _, _, rfl⟩ := hK; exact ⟨rfl, fun _ h => List.mem_cons_of_mem _ h⟩) | (obtain ⟨_, _, _, _, _, _, _, rfl⟩ := hK; exact ⟨rfl, fun _ h => List.mem_cons_of_mem _ h⟩) | (obtain rfl := hK; exact ⟨rfl, fun _ h => h⟩)) ?_
      rintro _ ⟨A9, c9, rfl⟩
      simp only [go_sem, Nat.reduceAdd, Nat.reduceSub, Nat.reduceMul, Nat.reduceEqDiff, Nat.reduceLT, Nat.reduceLeDiff, Nat.reduceBEq, Nat.reduceBNe, Int.reduceLT, Int.reduceLE, Int.reduceEq, Int.reduceAdd, Int.reduceSub, Int.reduceNeg, reduceCtorEq]
      have eI : ((l.take v).map textOf).map Value.string ++ [.string (textOf z)] = ((l.take (v + 1)).map textOf).map Value.string := by rw [List.take_add_one, hz]; simp
      rw [eI]
      exact ⟨by omega, again_ok (v + 1, A9, c9, G10) ⟨by omega, by omega⟩ (by simp only; omega) (by simp only [go_sem, Nat.reduceAdd, Nat.reduceSub, Nat.reduceMul, Nat.reduceEqDiff, Nat.reduceLT, Nat.reduceLeDiff, Nat.reduceBEq, Nat.reduceBNe, Int.reduceLT, Int.reduceLE, Int.reduceEq, Int.reduceAdd, Int.reduceSub, Int.reduceNeg, reduceCtorEq]; simp)⟩
    · have q2 : decide ((v : Int) < (most : Int)) = false := decide_eq_false (by omega)
      simp only [go_sem, Nat.reduceAdd, Nat.reduceSub, Nat.reduceMul, Nat.reduceEqDiff, Nat.reduceLT, Nat.reduceLeDiff, Nat.reduceBEq, Nat.reduceBNe, Int.reduceLT, Int.reduceLE, Int.reduceEq, Int.reduceAdd, Int.reduceSub, Int.reduceNeg, reduceCtorEq, q1, q2]
      have hln : ((l.take most).map textOf).length = v := by rw [List.length_map, List.length_take]; omega
      have htk : l.take most = l.take v := by rw [List.take_eq_take_iff]; omega
      refine read_ok (R1 := []) rfl fun G3 hle3 hs3 => ?_
      refine fin_ret (G := G0) Try.results55 ?_
      simp only [go_sem, Nat.reduceAdd, Nat.reduceSub, Nat.reduceMul, Nat.reduceEqDiff, Nat.reduceLT, Nat.reduceLeDiff, Nat.reduceBEq, Nat.reduceBNe, Int.reduceLT, Int.reduceLE, Int.reduceEq, Int.reduceAdd, Int.reduceSub, Int.reduceNeg, reduceCtorEq]
      intro aa w' _ hle
      refine ⟨B, e, by rw [hln]; rfl, ?_⟩
      refine str_of ?_
      rw [hln, htk]
      exact Sl.mono hs3 (hle G3 (by simp))
  · have q1 : decide ((v : Int) < (l.length : Int)) = false := decide_eq_false (by omega)
    simp only [go_sem, Nat.reduceAdd, Nat.reduceSub, Nat.reduceMul, Nat.reduceEqDiff, Nat.reduceLT, Nat.reduceLeDiff, Nat.reduceBEq, Nat.reduceBNe, Int.reduceLT, Int.reduceLE, Int.reduceEq, Int.reduceAdd, Int.reduceSub, Int.reduceNeg, reduceCtorEq, q1]
    have hln : ((l.take most).map textOf).length = v := by rw [List.length_map, List.length_take]; omega
    have htk : l.take most = l.take v := by rw [List.take_eq_take_iff]; omega
    refine read_ok (R1 := []) rfl fun G3 hle3 hs3 => ?_
    refine fin_ret (G := G0) Try.results55 ?_
    simp only [go_sem, Nat.reduceAdd, Nat.reduceSub, Nat.reduceMul, Nat.reduceEqDiff, Nat.reduceLT, Nat.reduceLeDiff, Nat.reduceBEq, Nat.reduceBNe, Int.reduceLT, Int.reduceLE, Int.reduceEq, Int.reduceAdd, Int.reduceSub, Int.reduceNeg, reduceCtorEq]
    intro aa w' _ hle
    refine ⟨B, e, by rw [hln]; rfl, ?_⟩
    refine str_of ?_
    rw [hln, htk]
    exact Sl.mono hs3 (hle G3 (by simp))
end Go.Proofs.Ytomfladifefomaa
