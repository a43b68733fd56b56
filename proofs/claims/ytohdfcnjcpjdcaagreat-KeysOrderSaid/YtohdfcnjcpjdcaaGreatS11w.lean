/- slices.IndexFunc and slices.ContainsFunc with a function value. Conditions: the function value's contract. -/
import Derived.Test.YtohdfcnjcpjdcaaGreatS10w
import Derived.Test.YtohdfcnjcpjdcaaGreatPAw
namespace Go.Proofs.YtohdfcnjcpjdcaaGreat
open Go.RowKit
set_option linter.unusedSimpArgs false
/-- the first that a test is true of; -1: there is none -/
def firstI {α : Type} (p : α → Bool) (l : List α) : Int := if ahead (fun x => !p x) l < l.length then (ahead (fun x => !p x) l : Int) else -1
theorem firstI_at {α : Type} {p : α → Bool} {l : List α} {i : Nat} {x : α} (hx : l[i]? = some x) (hp : p x = true) (hno : ∀ k y, k < i → l[k]? = some y → p y = false) : firstI p l = i := by
 have hi := (List.getElem?_eq_some_iff.1 hx).1
 have : ahead (fun x => !p x) l = i := ahead_is (by omega) (fun k y hk hy => by rw [hno k y hk hy]; rfl) (fun y hy => by rw [hx] at hy; cases hy; rw [hp]; rfl)
 unfold firstI
 rw [this, if_pos hi]
theorem firstI_no {α : Type} {p : α → Bool} {l : List α} (hno : ∀ (k : Nat) y, l[k]? = some y → p y = false) : firstI p l = -1 := by
 have : ahead (fun x => !p x) l = l.length := ahead_is (by omega) (fun k y hk hy => by rw [hno k y hy]; rfl) (fun y hy => by have := (List.getElem?_eq_some_iff.1 hy).1; omega)
 unfold firstI
 rw [this, if_neg (by omega)]
theorem first_or {α : Type} (p : α → Bool) : ∀ l : List α, (∃ (i : Nat) (x : α), l[i]? = some x ∧ p x = true ∧ ∀ k y, k < i → l[k]? = some y → p y = false) ∨ ∀ (k : Nat) y, l[k]? = some y → p y = false
 | [] => .inr fun k y h => by simp at h
 | x :: l => by
  cases hp : p x with
  | true => exact .inl ⟨0, x, rfl, hp, fun k y hk => absurd hk (by omega)⟩
  | false =>
   rcases first_or p l with ⟨i, z, h1, h2, h3⟩ | h
   ·refine .inl ⟨i + 1, z, by simpa using h1, h2, fun k y hk hy => ?_⟩
    cases k with
    | zero => simp at hy; rw [← hy]; exact hp
    | succ k => exact h3 k y (by omega) (by simpa using hy)
   ·refine .inr fun k y hy => ?_
    cases k with
    | zero => simp at hy; rw [← hy]; exact hp
    | succ k => exact h k y (by simpa using hy)
theorem firstI_some {α : Type} {p : α → Bool} {l : List α} (h : 0 ≤ firstI p l) : ∃ (i : Nat) (x : α), firstI p l = i ∧ l[i]? = some x ∧ p x = true ∧ ∀ k y, k < i → l[k]? = some y → p y = false := by
 rcases first_or p l with ⟨i, x, h1, h2, h3⟩ | hn
 ·exact ⟨i, x, firstI_at h1 h2 h3, h1, h2, h3⟩
 ·rw [firstI_no hn] at h
  omega
theorem firstI_any {α : Type} (p : α → Bool) (l : List α) : decide (0 ≤ firstI p l) = l.any p := by
 rcases first_or p l with ⟨i, x, h1, h2, h3⟩ | hn
 ·rw [firstI_at h1 h2 h3, decide_eq_true (by omega)]
  exact (List.any_eq_true.2 ⟨x, List.mem_of_getElem? h1, h2⟩).symm
 ·rw [firstI_no hn, decide_eq_false (by omega)]
  symm
  rw [List.any_eq_false]
  intro x hx
  obtain ⟨k, hk⟩ := List.mem_iff_getElem?.1 hx
  rw [hn k x hk]
  simp
set_option maxRecDepth 100000 in
set_option maxHeartbeats 8000000 in
theorem indexAsk_does {l : List Ask} {lv : Value} {f : FuncId} {caps : Array Value} {p : Ask → Bool} {G0 : GW} (hW : G0.Wf) (h : Sq AskG 68 3 G0 lv l) (hf : isFn Tryz.prog f = true) (hc : ∀ G x, x ∈ l → G0.Le G → G.Wf → Calls Tryz.prog f (#[.agg #[.int .i64 x.ver, .int .i64 x.days, .int .i64 x.cls]] ++ caps) G.w (Ret G fun v _ => v = .bool (p x))) :
  Calls Tryz.prog 143 #[lv, .func (.func f) #[] caps] G0.w (Ret G0 fun v _ => v = .int .i64 (firstI p l)) := by
 obtain ⟨A, c, rfl, hc1, hc2⟩ := Sq.form h
 have hml := max_le
 refine enterS (G := G0) (n := 19) 3000 hW Tryz.func143 rfl Tryz.ntmps143 (by simp) ?_
 simp only [go_sem, simprocAttr]
 refine loop_ok (N := 3000) (ι := Nat) (fun i => ⟨[(0, .c (.v (.slice A l.length c))), (1, .c (.v (.func (.func f) #[] caps))), (7, .c (.v (.int .i64 (l.length : Int)))), (8, .c (.v (.int .i64 (i : Int))))], [], [], [], [G0], 0⟩)
  (fun i => i ≤ l.length ∧ ∀ k y, k < i → l[k]? = some y → p y = false)
  (fun i => l.length - i) (QOk_body _ _ _) 0 ⟨by omega, fun k y hk => absurd hk (by omega)⟩ (by simp only [go_sem, simprocAttr]; simp) ?_
 rintro i ⟨hi, hno⟩
 by_cases hlt : i < l.length
 ·have q : decide ((i : Int) < (l.length : Int)) = true := decide_eq_true (by omega)
  obtain ⟨x, hx⟩ : ∃ x, l[i]? = some x := ⟨_, List.getElem?_eq_getElem hlt⟩
  simp only [go_sem, simprocAttr, q]
  refine pk (elem_does (R := AskG) (l := l) (m := i) rfl tySlice27 tySize68 rfl rfl (dk rfl) rfl hx (fun G hG => Sq.mono h askG_mono (hG.le G0 (by simp)))) ?_
  rintro _ ⟨g2, o', cs, G2, hcl, hcs, rfl⟩
  obtain rfl := hcs
  simp only [go_sem, simprocAttr, q]
  refine pk (callD_does (fun r _ => r = .bool (p x)) rfl rfl rfl rfl hf rfl (dk rfl) (fun G hG => hc G x (List.mem_of_getElem? hx) (hG.le G0 (by simp)) hG.wf)) ?_
  rintro _ ⟨_, G3, rfl, hn3, rfl⟩
  simp only [go_sem, simprocAttr]
  refine Wb_mk (fun h2 => ?_) (fun h2 => ?_)
  ·refine fin_ret (G := G0) Tryz.results143 ?_
   simp only [go_sem, simprocAttr]
   intro aa w' _ _
   rw [firstI_at hx h2 hno]
   rfl
  ·refine ⟨by omega, ?_⟩
   refine again_ok (i + 1) ⟨hlt, fun k y hk hy => ?_⟩ (by omega) (by simp only [go_sem, simprocAttr]; simp)
   by_cases e : k = i
   ·subst e
    rw [hx] at hy; cases hy; exact h2
   ·exact hno k y (by omega) hy
 ·have q : decide ((i : Int) < (l.length : Int)) = false := decide_eq_false (by omega)
  simp only [go_sem, simprocAttr, q]
  refine fin_ret (G := G0) Tryz.results143 ?_
  simp only [go_sem, simprocAttr]
  intro aa w' _ _
  rw [firstI_no fun k y hy => hno k y (by have := (List.getElem?_eq_some_iff.1 hy).1; omega) hy]
  rfl
set_option maxRecDepth 100000 in
set_option maxHeartbeats 8000000 in
theorem containsAsk_does {l : List Ask} {lv : Value} {f : FuncId} {caps : Array Value} {p : Ask → Bool} {G0 : GW} (hW : G0.Wf) (h : Sq AskG 68 3 G0 lv l) (hf : isFn Tryz.prog f = true) (hc : ∀ G x, x ∈ l → G0.Le G → G.Wf → Calls Tryz.prog f (#[.agg #[.int .i64 x.ver, .int .i64 x.days, .int .i64 x.cls]] ++ caps) G.w (Ret G fun v _ => v = .bool (p x))) :
  Calls Tryz.prog 113 #[lv, .func (.func f) #[] caps] G0.w (Ret G0 fun v _ => v = .bool (l.any p)) := by
 obtain ⟨A, c, rfl, hc1, hc2⟩ := Sq.form h
 have hml := max_le
 refine enterS (G := G0) (n := 9) 3000 hW Tryz.func113 rfl Tryz.ntmps113 (by simp) ?_
 simp only [go_sem, simprocAttr]
 refine pk (call_does (fun r _ => r = .int .i64 (firstI p l)) rfl rfl (by kernel_rfl) rfl (dk rfl) (fun G hG => indexAsk_does hG.wf (Sq.mono h askG_mono (hG.le G0 (by simp))) hf (fun G' x hx hl hw => hc G' x hx ((hG.le G0 (by simp)).trans hl) hw))) ?_
 rintro _ ⟨_, G1, rfl, hn1, rfl⟩
 simp only [go_sem, simprocAttr]
 refine fin_ret (G := G0) Tryz.results113 ?_
 simp only [go_sem, simprocAttr]
 intro aa w' _ _
 exact congrArg Value.bool (firstI_any p l)
set_option maxRecDepth 100000 in
set_option maxHeartbeats 8000000 in
theorem indexVer_does {l : List Ver} {lv : Value} {f : FuncId} {caps : Array Value} {p : Ver → Bool} {G0 : GW} (hW : G0.Wf) (h : Sq VerG 38 12 G0 lv l) (hf : isFn Tryz.prog f = true) (hc : ∀ G x sv, IntsG G sv x.secs → x.bucket.size ≤ maxLen → x.key.size ≤ maxLen → x ∈ l → G0.Le G → G.Wf → Calls Tryz.prog f (#[.agg (verV x sv).toArray] ++ caps) G.w (Ret G fun v _ => v = .bool (p x))) :
  Calls Tryz.prog 117 #[lv, .func (.func f) #[] caps] G0.w (Ret G0 fun v _ => v = .int .i64 (firstI p l)) := by
 obtain ⟨A, c, rfl, hc1, hc2⟩ := Sq.form h
 have hml := max_le
 refine enterS (G := G0) (n := 19) 3000 hW Tryz.func117 rfl Tryz.ntmps117 (by simp) ?_
 simp only [go_sem, simprocAttr]
 refine loop_ok (N := 3000) (ι := Nat) (fun i => ⟨[(0, .c (.v (.slice A l.length c))), (1, .c (.v (.func (.func f) #[] caps))), (7, .c (.v (.int .i64 (l.length : Int)))), (8, .c (.v (.int .i64 (i : Int))))], [], [], [], [G0], 0⟩)
  (fun i => i ≤ l.length ∧ ∀ k y, k < i → l[k]? = some y → p y = false)
  (fun i => l.length - i) (QOk_body _ _ _) 0 ⟨by omega, fun k y hk => absurd hk (by omega)⟩ (by simp only [go_sem, simprocAttr]; simp) ?_
 rintro i ⟨hi, hno⟩
 by_cases hlt : i < l.length
 ·have q : decide ((i : Int) < (l.length : Int)) = true := decide_eq_true (by omega)
  obtain ⟨x, hx⟩ : ∃ x, l[i]? = some x := ⟨_, List.getElem?_eq_getElem hlt⟩
  simp only [go_sem, simprocAttr, q]
  refine pk (elem_does (R := VerG) (l := l) (m := i) rfl tySlice25 tySize38 rfl rfl (dk rfl) rfl hx (fun G hG => Sq.mono h verG_mono (hG.le G0 (by simp)))) ?_
  rintro _ ⟨g2, o', cs, G2, hcl, hcs, rfl⟩
  obtain ⟨sv, rfl, hsv, hb1, hb2⟩ := hcs
  simp only [go_sem, simprocAttr, q, verV]
  refine pk (callD_does (fun r _ => r = .bool (p x)) rfl rfl rfl rfl hf rfl (dk rfl) (fun G hG => hc G x sv (hsv.mono (hG.le G2 (by simp))) hb1 hb2 (List.mem_of_getElem? hx) (hG.le G0 (by simp)) hG.wf)) ?_
  rintro _ ⟨_, G3, rfl, hn3, rfl⟩
  simp only [go_sem, simprocAttr, verV]
  refine Wb_mk (fun h2 => ?_) (fun h2 => ?_)
  ·refine fin_ret (G := G0) Tryz.results117 ?_
   simp only [go_sem, simprocAttr]
   intro aa w' _ _
   rw [firstI_at hx h2 hno]
   rfl
  ·refine ⟨by omega, ?_⟩
   refine again_ok (i + 1) ⟨hlt, fun k y hk hy => ?_⟩ (by omega) (by simp only [go_sem, simprocAttr]; simp)
   by_cases e : k = i
   ·subst e
    rw [hx] at hy; cases hy; exact h2
   ·exact hno k y (by omega) hy
 ·have q : decide ((i : Int) < (l.length : Int)) = false := decide_eq_false (by omega)
  simp only [go_sem, simprocAttr, q]
  refine fin_ret (G := G0) Tryz.results117 ?_
  simp only [go_sem, simprocAttr]
  intro aa w' _ _
  rw [firstI_no fun k y hy => hno k y (by have := (List.getElem?_eq_some_iff.1 hy).1; omega) hy]
  rfl
end Go.Proofs.YtohdfcnjcpjdcaaGreat
