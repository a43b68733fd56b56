/- letters, CheckName, CheckKey, CheckRule, Sectors, cmp.Compare, strings.Compare. Conditions: as each law states them. -/
import Derived.Test.YtohdfcnjcpjdcaaGreatS1w
namespace Go.Proofs.YtohdfcnjcpjdcaaGreat
open Go.RowKit
set_option linter.unusedSimpArgs false
def badByte (b : UInt8) : Bool := decide ((b.toNat : Int) < 33) || decide (126 < (b.toNat : Int))
def lettersB (s : ByteArray) : Bool := s.data.toList.all fun b => !badByte b
theorem byteAt_get {s : ByteArray} {i : Nat} (h : i < s.size) : ∃ b, s.data.toList[i]? = some b ∧ byteAt s (i : Int) = (b.toNat : Int) := by
 have hl : i < s.data.toList.length := by rw [Array.length_toList]; exact h
 refine ⟨s.data.toList[i], List.getElem?_eq_getElem hl, ?_⟩
 unfold byteAt
 rw [Int.toNat_natCast, List.getElem?_eq_getElem hl]
 rfl
set_option maxRecDepth 100000 in
set_option maxHeartbeats 4000000 in
theorem letters_does {s : ByteArray} {G0 : GW} (hW : G0.Wf) (hs : s.size ≤ maxLen) :
  Calls Tryz.prog 116 #[.string s] G0.w (Ret G0 fun v _ => v = .bool (lettersB s)) := by
 have hml := max_le
 refine enterS (G := G0) (n := 20) 3000 hW Tryz.func116 rfl Tryz.ntmps116 (by simp) ?_
 simp only [go_sem, simprocAttr]
 refine loop_ok (N := 3000) (ι := Nat) (fun i => ⟨[(0, .c (.v (.string s))), (5, .c (.v (.int .i64 (s.size : Int)))), (6, .c (.v (.int .i64 (i : Int))))], [], [], [], [G0], 0⟩)
  (fun i => i ≤ s.size ∧ ∀ j b, j < i → s.data.toList[j]? = some b → badByte b = false)
  (fun i => s.size - i) (QOk_body _ _ _) 0 ⟨by omega, fun j b hj => absurd hj (by omega)⟩ (by simp only [go_sem, simprocAttr]; simp) ?_
 rintro i ⟨hi, hno⟩
 by_cases hlt : i < s.size
 ·have q : decide ((i : Int) < (s.size : Int)) = true := decide_eq_true (by omega)
  obtain ⟨b, hb, he⟩ := byteAt_get hlt
  simp only [go_sem, simprocAttr, q, he]
  refine ⟨by omega, fun _ => by omega, Wb_mk (fun h => ?_) (fun h => ⟨by omega, ?_⟩)⟩
  ·refine fin_ret (G := G0) Tryz.results116 ?_
   simp only [go_sem, simprocAttr]
   intro aa w' _ _
   have : lettersB s = false := by
    unfold lettersB
    rw [List.all_eq_false]
    exact ⟨b, List.mem_of_getElem? hb, by simp only [badByte, h]; simp⟩
   rw [this]
   rfl
  ·refine again_ok (i + 1) ⟨by omega, fun j c hj hc => ?_⟩ (by omega) (by simp only [go_sem, simprocAttr]; simp)
   by_cases e : j = i
   ·subst e
    rw [hb] at hc
    cases hc
    exact h
   ·exact hno j c (by omega) hc
 ·have q : decide ((i : Int) < (s.size : Int)) = false := decide_eq_false (by omega)
  simp only [go_sem, simprocAttr, q]
  refine fin_ret (G := G0) Tryz.results116 ?_
  simp only [go_sem, simprocAttr]
  intro aa w' _ _
  have : lettersB s = true := by
   unfold lettersB
   rw [List.all_eq_true]
   intro b hb
   obtain ⟨j, hj⟩ := List.mem_iff_getElem?.1 hb
   have hjl : j < s.data.toList.length := (List.getElem?_eq_some_iff.1 hj).1
   rw [Array.length_toList] at hjl
   have hjs : j < s.size := hjl
   rw [hno j b (by omega) hj]
   rfl
  rw [this]
  rfl
def nameErr (s : ByteArray) (most : Int) : Int := if (decide ((s.size : Int) < 1) || decide (most < (s.size : Int))) = true then 1 else if lettersB s = false then 4 else 0
set_option maxRecDepth 100000 in
set_option maxHeartbeats 4000000 in
theorem checkName_does {s : ByteArray} {G0 : GW} (hW : G0.Wf) (hs : s.size ≤ maxLen) :
  Calls Tryz.prog 108 #[.string s] G0.w (Ret G0 fun v _ => v = .int .i64 (nameErr s 8)) := by
 have hml := max_le
 refine enterS (G := G0) (n := 16) 3000 hW Tryz.func108 rfl Tryz.ntmps108 (by simp) ?_
 simp only [go_sem, simprocAttr]
 refine Wb_mk (fun h => ?_) (fun h => ?_)
 ·refine fin_ret (G := G0) Tryz.results108 ?_
  simp only [go_sem, simprocAttr]
  intro aa w' _ _
  unfold nameErr
  rw [if_pos h]
  rfl
 ·refine pk (call_does (fun v _ => v = .bool (lettersB s)) rfl rfl (by kernel_rfl) rfl (dk rfl) (fun G hG => letters_does hG.wf hs)) ?_
  rintro _ ⟨_, G1, rfl, hn1, rfl⟩
  simp only [go_sem, simprocAttr]
  refine Wb_mk (fun h2 => ?_) (fun h2 => ?_)
  all_goals
   refine fin_ret (G := G0) Tryz.results108 ?_
   simp only [go_sem, simprocAttr]
   intro aa w' _ _
   unfold nameErr
   rw [h]
   cases hl : lettersB s <;> rw [hl] at h2 <;> first | rfl | cases h2
set_option maxRecDepth 100000 in
set_option maxHeartbeats 4000000 in
theorem checkKey_does {s : ByteArray} {G0 : GW} (hW : G0.Wf) (hs : s.size ≤ maxLen) :
  Calls Tryz.prog 111 #[.string s] G0.w (Ret G0 fun v _ => v = .int .i64 (nameErr s 16)) := by
 have hml := max_le
 refine enterS (G := G0) (n := 16) 3000 hW Tryz.func111 rfl Tryz.ntmps111 (by simp) ?_
 simp only [go_sem, simprocAttr]
 refine Wb_mk (fun h => ?_) (fun h => ?_)
 ·refine fin_ret (G := G0) Tryz.results111 ?_
  simp only [go_sem, simprocAttr]
  intro aa w' _ _
  unfold nameErr
  rw [if_pos h]
  rfl
 ·refine pk (call_does (fun v _ => v = .bool (lettersB s)) rfl rfl (by kernel_rfl) rfl (dk rfl) (fun G hG => letters_does hG.wf hs)) ?_
  rintro _ ⟨_, G1, rfl, hn1, rfl⟩
  simp only [go_sem, simprocAttr]
  refine Wb_mk (fun h2 => ?_) (fun h2 => ?_)
  all_goals
   refine fin_ret (G := G0) Tryz.results111 ?_
   simp only [go_sem, simprocAttr]
   intro aa w' _ _
   unfold nameErr
   rw [h]
   cases hl : lettersB s <;> rw [hl] at h2 <;> first | rfl | cases h2
def rulOut (r : Rul) : Bool := ((decide (r.freeze < -1) || decide (1073741824 < r.freeze)) || decide (r.drop < -1)) || decide (1073741824 < r.drop)
def rulErr (r : Rul) : Int := if decide (16 < (r.pre.size : Int)) = true then 1 else if lettersB r.pre = false then 4 else if rulOut r = true then 2 else 0
set_option maxRecDepth 100000 in
set_option maxHeartbeats 4000000 in
theorem checkRule_does {r : Rul} {G0 : GW} (hW : G0.Wf) (hs : r.pre.size ≤ maxLen) :
  Calls Tryz.prog 82 #[.agg #[.string r.pre, .int .i64 r.freeze, .int .i64 r.drop]] G0.w (Ret G0 fun v _ => v = .int .i64 (rulErr r)) := by
 have hml := max_le
 refine enterS (G := G0) (n := 32) 3000 hW Tryz.func82 rfl Tryz.ntmps82 (by simp) ?_
 simp only [go_sem, simprocAttr]
 intro g1
 refine Wb_mk (fun h => ?_) (fun h => ?_)
 ·refine fin_ret (G := G0) Tryz.results82 ?_
  simp only [go_sem, simprocAttr]
  intro aa w' _ _
  unfold rulErr
  rw [if_pos h]
  rfl
 ·refine pk (call_does (fun v _ => v = .bool (lettersB r.pre)) rfl rfl (by kernel_rfl) rfl (dk rfl) (fun G hG => letters_does hG.wf hs)) ?_
  rintro _ ⟨_, G1, rfl, hn1, rfl⟩
  simp only [go_sem, simprocAttr]
  refine Wb_mk (fun h2 => ?_) (fun h2 => Wb_mk (fun h3 => ?_) (fun h3 => ?_))
  ·refine fin_ret (G := G0) Tryz.results82 ?_
   simp only [go_sem, simprocAttr]
   intro aa w' _ _
   unfold rulErr
   rw [h]
   cases hl : lettersB r.pre <;> rw [hl] at h2 <;> first | rfl | cases h2
  all_goals
   refine fin_ret (G := G0) Tryz.results82 ?_
   simp only [go_sem, simprocAttr]
   intro aa w' _ _
   unfold rulErr
   rw [h, show rulOut r = _ from h3]
   cases hl : lettersB r.pre <;> rw [hl] at h2 <;> first | rfl | cases h2
set_option maxRecDepth 100000 in
set_option maxHeartbeats 4000000 in
theorem sectors_does {n : Int} {G0 : GW} (hW : G0.Wf) (h0 : -1000000000000 ≤ n) (h1 : n ≤ 1000000000000) :
  Calls Tryz.prog 94 #[.int .i64 n] G0.w (Ret G0 fun v _ => v = .int .i64 ((n + 63).tdiv 64)) := by
 have e : n + 64 - 1 = n + 63 := by omega
 refine enterS (G := G0) (n := 7) 3000 hW Tryz.func94 rfl Tryz.ntmps94 (by simp) ?_
 simp only [go_sem, simprocAttr]
 refine ⟨by omega, by omega, by omega, ?_⟩
 refine fin_ret (G := G0) Tryz.results94 ?_
 simp only [go_sem, simprocAttr]
 intro aa w' _ _
 rw [e]
 rfl
set_option maxRecDepth 100000 in
set_option maxHeartbeats 4000000 in
theorem isNaN_does {n : Int} {G0 : GW} (hW : G0.Wf) :
  Calls Tryz.prog 121 #[.int .i64 n] G0.w (Ret G0 fun v _ => v = .bool false) := by
 have q : decide (n = n) = true := decide_eq_true rfl
 refine enterS (G := G0) (n := 6) 3000 hW Tryz.func121 rfl Tryz.ntmps121 (by simp) ?_
 simp only [go_sem, simprocAttr, q]
 refine fin_ret (G := G0) Tryz.results121 ?_
 simp only [go_sem, simprocAttr]
 intro aa w' _ _
 rfl
def cmpI (a b : Int) : Int := if a < b then -1 else if b < a then 1 else 0
set_option maxRecDepth 100000 in
set_option maxHeartbeats 4000000 in
theorem cmpInt_does {a b : Int} {G0 : GW} (hW : G0.Wf) :
  Calls Tryz.prog 90 #[.int .i64 a, .int .i64 b] G0.w (Ret G0 fun v _ => v = .int .i64 (cmpI a b)) := by
 refine enterS (G := G0) (n := 20) 3000 hW Tryz.func90 rfl Tryz.ntmps90 (by simp) ?_
 simp only [go_sem, simprocAttr]
 refine pk (call_does (fun v _ => v = .bool false) rfl rfl (by kernel_rfl) rfl (dk rfl) (fun G hG => isNaN_does hG.wf)) ?_
 rintro _ ⟨_, G1, rfl, hn1, rfl⟩
 simp only [go_sem, simprocAttr]
 refine pk (call_does (fun v _ => v = .bool false) rfl rfl (by kernel_rfl) rfl (dk rfl) (fun G hG => isNaN_does hG.wf)) ?_
 rintro _ ⟨_, G2, rfl, hn2, rfl⟩
 simp only [go_sem, simprocAttr]
 refine Wb_mk (fun h => ?_) (fun h => Wb_mk (fun h2 => ?_) (fun h2 => ?_))
 all_goals
  refine fin_ret (G := G0) Tryz.results90 ?_
  simp only [go_sem, simprocAttr]
  intro aa w' _ _
  unfold cmpI
 ·rw [if_pos (of_decide_eq_true h)]; rfl
 ·rw [if_neg (of_decide_eq_false h), if_pos (of_decide_eq_true h2)]; rfl
 ·rw [if_neg (of_decide_eq_false h), if_neg (of_decide_eq_false h2)]; rfl
end Go.Proofs.YtohdfcnjcpjdcaaGreat
