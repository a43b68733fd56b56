/- strings.Compare; binary searches over slices of structs; bucket, version, upload. Conditions: the slice is in its order. -/
import Derived.Test.YtohdfcnjcpjdcaaGreatPAw
import Derived.Test.YtohdfcnjcpjdcaaGreatS2w
import Derived.Lib.Bytealg
import Derived.Laws.Externs
namespace Go.Proofs.YtohdfcnjcpjdcaaGreat
open Go.RowKit
open Nat (reduceAdd reduceSub reduceMul reduceEqDiff reduceLT reduceLeDiff)
set_option linter.unusedSimpArgs false
/-- the order of texts -/
def cmpS (a b : ByteArray) : Int := Lib.compareBytes a.data.toList b.data.toList
set_option maxRecDepth 100000 in
set_option maxHeartbeats 1000000 in
theorem cmpStr_any (a b : ByteArray) (w : World) : Calls Tryz.prog 120 #[.string a, .string b] w fun e w' => e = .returned (.int .i64 (cmpS a b)) ∧ w = w' := by
 go_enter Tryz.func120, Tryz.ntmps120
 go_wp2
 rw [run_callFunc_extern Tryz.func154 (by kernel_rfl) (by kernel_rfl) (by kernel_rfl) (e := Extern.BytealgCompare.compare) (by kernel_rfl), Lib.run_compareString]
 simp only [Result.andThen]
 rw [Oper.upon_value]
 go_wp2
 go_ret
 exact ⟨rfl, rfl⟩
set_option maxRecDepth 100000 in
set_option maxHeartbeats 8000000 in
theorem compare_does {a b : ByteArray} {G0 : GW} (hW : G0.Wf) :
  Calls Tryz.prog 89 #[.string a, .string b] G0.w (Ret G0 fun v _ => v = .int .i64 (cmpS a b)) := by
 refine enterS (G := G0) (n := 8) 3000 hW Tryz.func89 rfl Tryz.ntmps89 (by simp) ?_
 simp only [go_sem, reduceAdd, reduceSub, reduceMul, reduceEqDiff, reduceLT, reduceLeDiff, Nat.reduceBEq, Nat.reduceBNe, Int.reduceLT, Int.reduceLE, Int.reduceEq, Int.reduceAdd, Int.reduceSub, Int.reduceNeg, reduceCtorEq]
 refine pk (call_does (fun v _ => v = .int .i64 (cmpS a b)) rfl rfl (by kernel_rfl) rfl (dk rfl) (fun G hG => ret_of (cmpStr_any a b _) (fun e w' h => ⟨_, h.1, rfl, by rw [← h.2]; exact Below.refl _ _⟩))) ?_
 rintro _ ⟨_, G1, rfl, hn1, rfl⟩
 simp only [go_sem, reduceAdd, reduceSub, reduceMul, reduceEqDiff, reduceLT, reduceLeDiff, Nat.reduceBEq, Nat.reduceBNe, Int.reduceLT, Int.reduceLE, Int.reduceEq, Int.reduceAdd, Int.reduceSub, Int.reduceNeg, reduceCtorEq]
 refine fin_ret (G := G0) Tryz.results89 ?_
 simp only [go_sem, reduceAdd, reduceSub, reduceMul, reduceEqDiff, reduceLT, reduceLeDiff, Nat.reduceBEq, Nat.reduceBNe, Int.reduceLT, Int.reduceLE, Int.reduceEq, Int.reduceAdd, Int.reduceSub, Int.reduceNeg, reduceCtorEq]
 intro aa w' _ _
 rfl
/-- how many stand ahead -/
def ahead {α : Type} (lt : α → Bool) (l : List α) : Nat := (l.takeWhile lt).length
def hitO {α : Type} (eq : α → Bool) : Option α → Bool
 | some x => eq x
 | none => false
def hit {α : Type} (lt eq : α → Bool) (l : List α) : Bool := hitO eq l[ahead lt l]?
/-- those that stand ahead stand ahead of all others -/
def Ordered {α : Type} (lt : α → Bool) (l : List α) : Prop := ∀ (i j : Nat) (x y : α), i < j → l[i]? = some x → l[j]? = some y → lt y = true → lt x = true
theorem ahead_is {α : Type} {lt : α → Bool} : ∀ {l : List α} {i : Nat}, i ≤ l.length → (∀ k x, k < i → l[k]? = some x → lt x = true) → (∀ x, l[i]? = some x → lt x = false) → ahead lt l = i
 | [], i, h, _, _ => by
  have : i = 0 := by simpa using h
  subst this; rfl
 | y :: l, 0, _, _, h2 => by
  have := h2 y rfl
  unfold ahead
  rw [List.takeWhile_cons, this]
  rfl
 | y :: l, i + 1, h, h1, h2 => by
  have hy := h1 0 y (by omega) rfl
  have ih : ahead lt l = i := ahead_is (by simpa using h) (fun k x hk hx => h1 (k + 1) x (by omega) (by simpa using hx)) (fun x hx => h2 x (by simpa using hx))
  unfold ahead at ih ⊢
  rw [List.takeWhile_cons, hy]
  simp [ih]
theorem half_bd (i j : Nat) (h : i < j) : i ≤ (i + j) / 2 ∧ (i + j) / 2 < j := by omega
theorem half_cast (i j : Nat) : (((i : Int) + (j : Int)) / 2 ^ (Int.toNat 1)) = (((i + j) / 2 : Nat) : Int) := by
 have : (2 : Int) ^ (Int.toNat 1) = 2 := rfl
 rw [this]
 omega
set_option maxRecDepth 100000 in
set_option maxHeartbeats 8000000 in
theorem cmpBkt_does {x : Bkt} {t : ByteArray} {G0 : GW} (hW : G0.Wf) :
  Calls Tryz.prog 142 #[.agg #[.string x.name, .int .i64 x.mode, .string x.rule.pre, .int .i64 x.rule.freeze, .int .i64 x.rule.drop], .string t] G0.w (Ret G0 fun v _ => v = .int .i64 (cmpS x.name t)) := by
 refine enterS (G := G0) (n := 9) 3000 hW Tryz.func142 rfl Tryz.ntmps142 (by simp) ?_
 simp only [go_sem, reduceAdd, reduceSub, reduceMul, reduceEqDiff, reduceLT, reduceLeDiff, Nat.reduceBEq, Nat.reduceBNe, Int.reduceLT, Int.reduceLE, Int.reduceEq, Int.reduceAdd, Int.reduceSub, Int.reduceNeg, reduceCtorEq]
 intro g1
 refine pk (call_does (fun v _ => v = .int .i64 (cmpS x.name t)) rfl rfl (by kernel_rfl) rfl (dk rfl) (fun G hG => compare_does hG.wf)) ?_
 rintro _ ⟨_, G1, rfl, hn1, rfl⟩
 simp only [go_sem, reduceAdd, reduceSub, reduceMul, reduceEqDiff, reduceLT, reduceLeDiff, Nat.reduceBEq, Nat.reduceBNe, Int.reduceLT, Int.reduceLE, Int.reduceEq, Int.reduceAdd, Int.reduceSub, Int.reduceNeg, reduceCtorEq]
 refine fin_ret (G := G0) Tryz.results142 ?_
 simp only [go_sem, reduceAdd, reduceSub, reduceMul, reduceEqDiff, reduceLT, reduceLeDiff, Nat.reduceBEq, Nat.reduceBNe, Int.reduceLT, Int.reduceLE, Int.reduceEq, Int.reduceAdd, Int.reduceSub, Int.reduceNeg, reduceCtorEq]
 intro aa w' _ _
 rfl
def ltBkt (t : ByteArray) (x : Bkt) : Bool := decide (cmpS x.name t < 0)
def eqBkt (t : ByteArray) (x : Bkt) : Bool := decide (cmpS x.name t = 0)
set_option maxRecDepth 100000 in
set_option maxHeartbeats 8000000 in
theorem bsBkt_does {l : List Bkt} {lv : Value} {t : ByteArray} {G0 : GW} (hW : G0.Wf) (h : Sq BktG 42 5 G0 lv l) (ho : Ordered (ltBkt t) l) (hn : l.length ≤ 1000000) :
  Calls Tryz.prog 141 #[lv, .string t, .func (.func 142) #[] #[]] G0.w (Ret G0 fun v _ => v = .tuple #[.int .i64 (ahead (ltBkt t) l : Int), .bool (hit (ltBkt t) (eqBkt t) l)]) := by
 obtain ⟨A, c, rfl, hc1, hc2⟩ := Sq.form h
 have hml := max_le
 refine enterS (G := G0) (n := 49) 3000 hW Tryz.func141 rfl Tryz.ntmps141 (by simp) ?_
 simp only [go_sem, reduceAdd, reduceSub, reduceMul, reduceEqDiff, reduceLT, reduceLeDiff, Nat.reduceBEq, Nat.reduceBNe, Int.reduceLT, Int.reduceLE, Int.reduceEq, Int.reduceAdd, Int.reduceSub, Int.reduceNeg, reduceCtorEq]
 refine loop_ok (N := 3000) (ι := Nat × Nat × GW) (fun i => match i with | (i, j, G) => ⟨[(0, .c (.v (.slice A l.length c))), (1, .c (.v (.string t))), (2, .c (.v (.func (.func 142) #[] #[]))), (8, .c (.v (.int .i64 (l.length : Int)))), (9, .c (.v (.int .i64 (i : Int)))), (10, .c (.v (.int .i64 (j : Int))))], [], [], [], [G, G0], 0⟩)
  (fun i => match i with | (i, j, G) => i ≤ j ∧ j ≤ l.length ∧ Sq BktG 42 5 G (.slice A l.length c) l ∧ (∀ k x, k < i → l[k]? = some x → ltBkt t x = true) ∧ ∀ k x, j ≤ k → l[k]? = some x → ltBkt t x = false)
  (fun i => i.2.1 - i.1) (QOk_body _ _ _) (0, l.length, G0) ⟨by omega, by omega, h, fun k x hk => absurd hk (by omega), fun k x hk hx => by have := (List.getElem?_eq_some_iff.1 hx).1; omega⟩ (by simp only [go_sem, reduceAdd, reduceSub, reduceMul, reduceEqDiff, reduceLT, reduceLeDiff, Nat.reduceBEq, Nat.reduceBNe, Int.reduceLT, Int.reduceLE, Int.reduceEq, Int.reduceAdd, Int.reduceSub, Int.reduceNeg, reduceCtorEq]; simp) ?_
 rintro ⟨i, j, G1⟩ ⟨hij, hj, hl1, hlo, hhi⟩
 simp only
 by_cases hlt : i < j
 ·have q : decide ((i : Int) < (j : Int)) = true := decide_eq_true (by omega)
  obtain ⟨b1, b2⟩ := half_bd i j hlt
  simp only [go_sem, reduceAdd, reduceSub, reduceMul, reduceEqDiff, reduceLT, reduceLeDiff, Nat.reduceBEq, Nat.reduceBNe, Int.reduceLT, Int.reduceLE, Int.reduceEq, Int.reduceAdd, Int.reduceSub, Int.reduceNeg, reduceCtorEq, q, half_cast]
  refine ⟨by omega, by omega, by omega, by omega, ?_⟩
  obtain ⟨m, hm⟩ : ∃ m, m = (i + j) / 2 := ⟨_, rfl⟩
  rw [← hm] at b1 b2 ⊢
  obtain ⟨x, hx⟩ : ∃ x, l[m]? = some x := ⟨_, List.getElem?_eq_getElem (by omega)⟩
  refine pk (elem_does (R := BktG) (l := l) (m := m) rfl tySlice24 tySize42 rfl rfl (dk rfl) rfl hx (fun G hG => Sq.mono hl1 bktG_mono (hG.le G1 (by simp)))) ?_
  rintro _ ⟨g, o', cs, G2, hcl, hcs, rfl⟩
  obtain ⟨rfl, hb1, hb2⟩ := hcs
  simp only [go_sem, reduceAdd, reduceSub, reduceMul, reduceEqDiff, reduceLT, reduceLeDiff, Nat.reduceBEq, Nat.reduceBNe, Int.reduceLT, Int.reduceLE, Int.reduceEq, Int.reduceAdd, Int.reduceSub, Int.reduceNeg, reduceCtorEq]
  refine pk (callD_does (fun v _ => v = .int .i64 (cmpS x.name t)) rfl rfl rfl rfl (by kernel_rfl) rfl (dk rfl) (fun G hG => cmpBkt_does hG.wf)) ?_
  rintro _ ⟨_, G3, rfl, hn3, rfl⟩
  simp only [go_sem, reduceAdd, reduceSub, reduceMul, reduceEqDiff, reduceLT, reduceLeDiff, Nat.reduceBEq, Nat.reduceBNe, Int.reduceLT, Int.reduceLE, Int.reduceEq, Int.reduceAdd, Int.reduceSub, Int.reduceNeg, reduceCtorEq]
  refine Wb_mk (fun h2 => ⟨by omega, ?_⟩) (fun h2 => ?_)
  ·refine again_ok (m + 1, j, G1) ⟨(by show m + 1 ≤ j; omega), hj, hl1, fun k y hk hy => ?_, hhi⟩ (by show j - (m + 1) < j - i; omega) (by simp only [go_sem, reduceAdd, reduceSub, reduceMul, reduceEqDiff, reduceLT, reduceLeDiff, Nat.reduceBEq, Nat.reduceBNe, Int.reduceLT, Int.reduceLE, Int.reduceEq, Int.reduceAdd, Int.reduceSub, Int.reduceNeg, reduceCtorEq]; simp)
   by_cases e : k = m
   ·subst e
    rw [hx] at hy; cases hy; exact h2
   ·exact ho k m y x (by omega) hy hx h2
  ·refine again_ok (i, m, G1) ⟨b1, (by show m ≤ l.length; omega), hl1, hlo, fun k y hk hy => ?_⟩ (by show m - i < j - i; omega) (by simp only [go_sem, reduceAdd, reduceSub, reduceMul, reduceEqDiff, reduceLT, reduceLeDiff, Nat.reduceBEq, Nat.reduceBNe, Int.reduceLT, Int.reduceLE, Int.reduceEq, Int.reduceAdd, Int.reduceSub, Int.reduceNeg, reduceCtorEq]; simp)
   by_cases e : k = m
   ·subst e
    rw [hx] at hy; cases hy; exact h2
   ·cases hq : ltBkt t y with
    | false => rfl
    | true => exact absurd (ho m k x y (by have : m ≤ k := hk; omega) hx hy hq) (by rw [show ltBkt t x = false from h2]; simp)
 ·have q : decide ((i : Int) < (j : Int)) = false := decide_eq_false (by omega)
  have e : i = j := by omega
  subst e
  have ha : ahead (ltBkt t) l = i := ahead_is hj hlo (fun x hx => hhi i x (Nat.le_refl _) hx)
  have hh : hit (ltBkt t) (eqBkt t) l = hitO (eqBkt t) l[i]? := by unfold hit; rw [ha]
  rw [ha]
  by_cases hlt2 : i < l.length
  ·have q2 : decide ((i : Int) < (l.length : Int)) = true := decide_eq_true (by omega)
   obtain ⟨x, hx⟩ : ∃ x, l[i]? = some x := ⟨_, List.getElem?_eq_getElem hlt2⟩
   rw [hx] at hh
   rw [hh]
   clear hh ha
   simp only [go_sem, reduceAdd, reduceSub, reduceMul, reduceEqDiff, reduceLT, reduceLeDiff, Nat.reduceBEq, Nat.reduceBNe, Int.reduceLT, Int.reduceLE, Int.reduceEq, Int.reduceAdd, Int.reduceSub, Int.reduceNeg, reduceCtorEq, q, q2]
   refine pk (elem_does (R := BktG) (l := l) (m := i) rfl tySlice24 tySize42 rfl rfl (dk rfl) rfl hx (fun G hG => Sq.mono hl1 bktG_mono (hG.le G1 (by simp)))) ?_
   rintro _ ⟨g, o', cs, G2, hcl, hcs, rfl⟩
   obtain ⟨rfl, hb1, hb2⟩ := hcs
   simp only [go_sem, reduceAdd, reduceSub, reduceMul, reduceEqDiff, reduceLT, reduceLeDiff, Nat.reduceBEq, Nat.reduceBNe, Int.reduceLT, Int.reduceLE, Int.reduceEq, Int.reduceAdd, Int.reduceSub, Int.reduceNeg, reduceCtorEq]
   refine pk (callD_does (fun v _ => v = .int .i64 (cmpS x.name t)) rfl rfl rfl rfl (by kernel_rfl) rfl (dk rfl) (fun G hG => cmpBkt_does hG.wf)) ?_
   rintro _ ⟨_, G3, rfl, hn3, rfl⟩
   simp only [go_sem, reduceAdd, reduceSub, reduceMul, reduceEqDiff, reduceLT, reduceLeDiff, Nat.reduceBEq, Nat.reduceBNe, Int.reduceLT, Int.reduceLE, Int.reduceEq, Int.reduceAdd, Int.reduceSub, Int.reduceNeg, reduceCtorEq]
   refine fin_ret (G := G0) Tryz.results141 ?_
   simp only [go_sem, reduceAdd, reduceSub, reduceMul, reduceEqDiff, reduceLT, reduceLeDiff, Nat.reduceBEq, Nat.reduceBNe, Int.reduceLT, Int.reduceLE, Int.reduceEq, Int.reduceAdd, Int.reduceSub, Int.reduceNeg, reduceCtorEq]
   intro aa w' _ _
   rfl
  ·have q2 : decide ((i : Int) < (l.length : Int)) = false := decide_eq_false (by omega)
   rw [List.getElem?_eq_none (by omega)] at hh
   rw [hh]
   clear hh ha
   simp only [go_sem, reduceAdd, reduceSub, reduceMul, reduceEqDiff, reduceLT, reduceLeDiff, Nat.reduceBEq, Nat.reduceBNe, Int.reduceLT, Int.reduceLE, Int.reduceEq, Int.reduceAdd, Int.reduceSub, Int.reduceNeg, reduceCtorEq, q, q2]
   refine fin_ret (G := G0) Tryz.results141 ?_
   simp only [go_sem, reduceAdd, reduceSub, reduceMul, reduceEqDiff, reduceLT, reduceLeDiff, Nat.reduceBEq, Nat.reduceBNe, Int.reduceLT, Int.reduceLE, Int.reduceEq, Int.reduceAdd, Int.reduceSub, Int.reduceNeg, reduceCtorEq]
   intro aa w' _ _
   rfl
set_option maxRecDepth 100000 in
set_option maxHeartbeats 8000000 in
theorem cmpVer_does {x : Ver} {sv : Value} {t : Int} {G0 : GW} (hW : G0.Wf) :
  Calls Tryz.prog 129 #[.agg (verV x sv).toArray, .int .i64 t] G0.w (Ret G0 fun v _ => v = .int .i64 (cmpI x.id t)) := by
 refine enterS (G := G0) (n := 9) 3000 hW Tryz.func129 rfl Tryz.ntmps129 (by simp) ?_
 simp only [go_sem, reduceAdd, reduceSub, reduceMul, reduceEqDiff, reduceLT, reduceLeDiff, Nat.reduceBEq, Nat.reduceBNe, Int.reduceLT, Int.reduceLE, Int.reduceEq, Int.reduceAdd, Int.reduceSub, Int.reduceNeg, reduceCtorEq, verV]
 intro g1
 refine pk (call_does (fun v _ => v = .int .i64 (cmpI x.id t)) rfl rfl (by kernel_rfl) rfl (dk rfl) (fun G hG => cmpInt_does hG.wf)) ?_
 rintro _ ⟨_, G1, rfl, hn1, rfl⟩
 simp only [go_sem, reduceAdd, reduceSub, reduceMul, reduceEqDiff, reduceLT, reduceLeDiff, Nat.reduceBEq, Nat.reduceBNe, Int.reduceLT, Int.reduceLE, Int.reduceEq, Int.reduceAdd, Int.reduceSub, Int.reduceNeg, reduceCtorEq]
 refine fin_ret (G := G0) Tryz.results129 ?_
 simp only [go_sem, reduceAdd, reduceSub, reduceMul, reduceEqDiff, reduceLT, reduceLeDiff, Nat.reduceBEq, Nat.reduceBNe, Int.reduceLT, Int.reduceLE, Int.reduceEq, Int.reduceAdd, Int.reduceSub, Int.reduceNeg, reduceCtorEq]
 intro aa w' _ _
 rfl
def ltVer (t : Int) (x : Ver) : Bool := decide (cmpI x.id t < 0)
def eqVer (t : Int) (x : Ver) : Bool := decide (cmpI x.id t = 0)
set_option maxRecDepth 100000 in
set_option maxHeartbeats 8000000 in
theorem bsVer_does {l : List Ver} {lv : Value} {t : Int} {G0 : GW} (hW : G0.Wf) (h : Sq VerG 38 12 G0 lv l) (ho : Ordered (ltVer t) l) (hn : l.length ≤ 1000000) :
  Calls Tryz.prog 128 #[lv, .int .i64 t, .func (.func 129) #[] #[]] G0.w (Ret G0 fun v _ => v = .tuple #[.int .i64 (ahead (ltVer t) l : Int), .bool (hit (ltVer t) (eqVer t) l)]) := by
 obtain ⟨A, c, rfl, hc1, hc2⟩ := Sq.form h
 have hml := max_le
 refine enterS (G := G0) (n := 49) 3000 hW Tryz.func128 rfl Tryz.ntmps128 (by simp) ?_
 simp only [go_sem, reduceAdd, reduceSub, reduceMul, reduceEqDiff, reduceLT, reduceLeDiff, Nat.reduceBEq, Nat.reduceBNe, Int.reduceLT, Int.reduceLE, Int.reduceEq, Int.reduceAdd, Int.reduceSub, Int.reduceNeg, reduceCtorEq]
 refine loop_ok (N := 3000) (ι := Nat × Nat × GW) (fun i => match i with | (i, j, G) => ⟨[(0, .c (.v (.slice A l.length c))), (1, .c (.v (.int .i64 t))), (2, .c (.v (.func (.func 129) #[] #[]))), (8, .c (.v (.int .i64 (l.length : Int)))), (9, .c (.v (.int .i64 (i : Int)))), (10, .c (.v (.int .i64 (j : Int))))], [], [], [], [G, G0], 0⟩)
  (fun i => match i with | (i, j, G) => i ≤ j ∧ j ≤ l.length ∧ Sq VerG 38 12 G (.slice A l.length c) l ∧ (∀ k x, k < i → l[k]? = some x → ltVer t x = true) ∧ ∀ k x, j ≤ k → l[k]? = some x → ltVer t x = false)
  (fun i => i.2.1 - i.1) (QOk_body _ _ _) (0, l.length, G0) ⟨by omega, by omega, h, fun k x hk => absurd hk (by omega), fun k x hk hx => by have := (List.getElem?_eq_some_iff.1 hx).1; omega⟩ (by simp only [go_sem, reduceAdd, reduceSub, reduceMul, reduceEqDiff, reduceLT, reduceLeDiff, Nat.reduceBEq, Nat.reduceBNe, Int.reduceLT, Int.reduceLE, Int.reduceEq, Int.reduceAdd, Int.reduceSub, Int.reduceNeg, reduceCtorEq]; simp) ?_
 rintro ⟨i, j, G1⟩ ⟨hij, hj, hl1, hlo, hhi⟩
 simp only
 by_cases hlt : i < j
 ·have q : decide ((i : Int) < (j : Int)) = true := decide_eq_true (by omega)
  obtain ⟨b1, b2⟩ := half_bd i j hlt
  simp only [go_sem, reduceAdd, reduceSub, reduceMul, reduceEqDiff, reduceLT, reduceLeDiff, Nat.reduceBEq, Nat.reduceBNe, Int.reduceLT, Int.reduceLE, Int.reduceEq, Int.reduceAdd, Int.reduceSub, Int.reduceNeg, reduceCtorEq, q, half_cast]
  refine ⟨by omega, by omega, by omega, by omega, ?_⟩
  obtain ⟨m, hm⟩ : ∃ m, m = (i + j) / 2 := ⟨_, rfl⟩
  rw [← hm] at b1 b2 ⊢
  obtain ⟨x, hx⟩ : ∃ x, l[m]? = some x := ⟨_, List.getElem?_eq_getElem (by omega)⟩
  refine pk (elem_does (R := VerG) (l := l) (m := m) rfl tySlice25 tySize38 rfl rfl (dk rfl) rfl hx (fun G hG => Sq.mono hl1 verG_mono (hG.le G1 (by simp)))) ?_
  rintro _ ⟨g, o', cs, G2, hcl, hcs, rfl⟩
  obtain ⟨sv, rfl, hsv, hb1, hb2⟩ := hcs
  simp only [go_sem, reduceAdd, reduceSub, reduceMul, reduceEqDiff, reduceLT, reduceLeDiff, Nat.reduceBEq, Nat.reduceBNe, Int.reduceLT, Int.reduceLE, Int.reduceEq, Int.reduceAdd, Int.reduceSub, Int.reduceNeg, reduceCtorEq, verV]
  refine pk (callD_does (fun v _ => v = .int .i64 (cmpI x.id t)) rfl rfl rfl rfl (by kernel_rfl) rfl (dk rfl) (fun G hG => cmpVer_does hG.wf)) ?_
  rintro _ ⟨_, G3, rfl, hn3, rfl⟩
  simp only [go_sem, reduceAdd, reduceSub, reduceMul, reduceEqDiff, reduceLT, reduceLeDiff, Nat.reduceBEq, Nat.reduceBNe, Int.reduceLT, Int.reduceLE, Int.reduceEq, Int.reduceAdd, Int.reduceSub, Int.reduceNeg, reduceCtorEq]
  refine Wb_mk (fun h2 => ⟨by omega, ?_⟩) (fun h2 => ?_)
  ·refine again_ok (m + 1, j, G1) ⟨(by show m + 1 ≤ j; omega), hj, hl1, fun k y hk hy => ?_, hhi⟩ (by show j - (m + 1) < j - i; omega) (by simp only [go_sem, reduceAdd, reduceSub, reduceMul, reduceEqDiff, reduceLT, reduceLeDiff, Nat.reduceBEq, Nat.reduceBNe, Int.reduceLT, Int.reduceLE, Int.reduceEq, Int.reduceAdd, Int.reduceSub, Int.reduceNeg, reduceCtorEq]; simp)
   by_cases e : k = m
   ·subst e
    rw [hx] at hy; cases hy; exact h2
   ·exact ho k m y x (by omega) hy hx h2
  ·refine again_ok (i, m, G1) ⟨b1, (by show m ≤ l.length; omega), hl1, hlo, fun k y hk hy => ?_⟩ (by show m - i < j - i; omega) (by simp only [go_sem, reduceAdd, reduceSub, reduceMul, reduceEqDiff, reduceLT, reduceLeDiff, Nat.reduceBEq, Nat.reduceBNe, Int.reduceLT, Int.reduceLE, Int.reduceEq, Int.reduceAdd, Int.reduceSub, Int.reduceNeg, reduceCtorEq]; simp)
   by_cases e : k = m
   ·subst e
    rw [hx] at hy; cases hy; exact h2
   ·cases hq : ltVer t y with
    | false => rfl
    | true => exact absurd (ho m k x y (by have : m ≤ k := hk; omega) hx hy hq) (by rw [show ltVer t x = false from h2]; simp)
 ·have q : decide ((i : Int) < (j : Int)) = false := decide_eq_false (by omega)
  have e : i = j := by omega
  subst e
  have ha : ahead (ltVer t) l = i := ahead_is hj hlo (fun x hx => hhi i x (Nat.le_refl _) hx)
  have hh : hit (ltVer t) (eqVer t) l = hitO (eqVer t) l[i]? := by unfold hit; rw [ha]
  rw [ha]
  by_cases hlt2 : i < l.length
  ·have q2 : decide ((i : Int) < (l.length : Int)) = true := decide_eq_true (by omega)
   obtain ⟨x, hx⟩ : ∃ x, l[i]? = some x := ⟨_, List.getElem?_eq_getElem hlt2⟩
   rw [hx] at hh
   rw [hh]
   clear hh ha
   simp only [go_sem, reduceAdd, reduceSub, reduceMul, reduceEqDiff, reduceLT, reduceLeDiff, Nat.reduceBEq, Nat.reduceBNe, Int.reduceLT, Int.reduceLE, Int.reduceEq, Int.reduceAdd, Int.reduceSub, Int.reduceNeg, reduceCtorEq, q, q2]
   refine pk (elem_does (R := VerG) (l := l) (m := i) rfl tySlice25 tySize38 rfl rfl (dk rfl) rfl hx (fun G hG => Sq.mono hl1 verG_mono (hG.le G1 (by simp)))) ?_
   rintro _ ⟨g, o', cs, G2, hcl, hcs, rfl⟩
   obtain ⟨sv, rfl, hsv, hb1, hb2⟩ := hcs
   simp only [go_sem, reduceAdd, reduceSub, reduceMul, reduceEqDiff, reduceLT, reduceLeDiff, Nat.reduceBEq, Nat.reduceBNe, Int.reduceLT, Int.reduceLE, Int.reduceEq, Int.reduceAdd, Int.reduceSub, Int.reduceNeg, reduceCtorEq, verV]
   refine pk (callD_does (fun v _ => v = .int .i64 (cmpI x.id t)) rfl rfl rfl rfl (by kernel_rfl) rfl (dk rfl) (fun G hG => cmpVer_does hG.wf)) ?_
   rintro _ ⟨_, G3, rfl, hn3, rfl⟩
   simp only [go_sem, reduceAdd, reduceSub, reduceMul, reduceEqDiff, reduceLT, reduceLeDiff, Nat.reduceBEq, Nat.reduceBNe, Int.reduceLT, Int.reduceLE, Int.reduceEq, Int.reduceAdd, Int.reduceSub, Int.reduceNeg, reduceCtorEq]
   refine fin_ret (G := G0) Tryz.results128 ?_
   simp only [go_sem, reduceAdd, reduceSub, reduceMul, reduceEqDiff, reduceLT, reduceLeDiff, Nat.reduceBEq, Nat.reduceBNe, Int.reduceLT, Int.reduceLE, Int.reduceEq, Int.reduceAdd, Int.reduceSub, Int.reduceNeg, reduceCtorEq]
   intro aa w' _ _
   rfl
  ·have q2 : decide ((i : Int) < (l.length : Int)) = false := decide_eq_false (by omega)
   rw [List.getElem?_eq_none (by omega)] at hh
   rw [hh]
   clear hh ha
   simp only [go_sem, reduceAdd, reduceSub, reduceMul, reduceEqDiff, reduceLT, reduceLeDiff, Nat.reduceBEq, Nat.reduceBNe, Int.reduceLT, Int.reduceLE, Int.reduceEq, Int.reduceAdd, Int.reduceSub, Int.reduceNeg, reduceCtorEq, q, q2]
   refine fin_ret (G := G0) Tryz.results128 ?_
   simp only [go_sem, reduceAdd, reduceSub, reduceMul, reduceEqDiff, reduceLT, reduceLeDiff, Nat.reduceBEq, Nat.reduceBNe, Int.reduceLT, Int.reduceLE, Int.reduceEq, Int.reduceAdd, Int.reduceSub, Int.reduceNeg, reduceCtorEq]
   intro aa w' _ _
   rfl
set_option maxRecDepth 100000 in
set_option maxHeartbeats 8000000 in
theorem cmpUpl_does {x : Upl} {sv : Value} {t : Int} {G0 : GW} (hW : G0.Wf) :
  Calls Tryz.prog 162 #[.agg #[.int .i64 x.id, .string x.bucket, .string x.key, sv], .int .i64 t] G0.w (Ret G0 fun v _ => v = .int .i64 (cmpI x.id t)) := by
 refine enterS (G := G0) (n := 9) 3000 hW Tryz.func162 rfl Tryz.ntmps162 (by simp) ?_
 simp only [go_sem, reduceAdd, reduceSub, reduceMul, reduceEqDiff, reduceLT, reduceLeDiff, Nat.reduceBEq, Nat.reduceBNe, Int.reduceLT, Int.reduceLE, Int.reduceEq, Int.reduceAdd, Int.reduceSub, Int.reduceNeg, reduceCtorEq]
 intro g1
 refine pk (call_does (fun v _ => v = .int .i64 (cmpI x.id t)) rfl rfl (by kernel_rfl) rfl (dk rfl) (fun G hG => cmpInt_does hG.wf)) ?_
 rintro _ ⟨_, G1, rfl, hn1, rfl⟩
 simp only [go_sem, reduceAdd, reduceSub, reduceMul, reduceEqDiff, reduceLT, reduceLeDiff, Nat.reduceBEq, Nat.reduceBNe, Int.reduceLT, Int.reduceLE, Int.reduceEq, Int.reduceAdd, Int.reduceSub, Int.reduceNeg, reduceCtorEq]
 refine fin_ret (G := G0) Tryz.results162 ?_
 simp only [go_sem, reduceAdd, reduceSub, reduceMul, reduceEqDiff, reduceLT, reduceLeDiff, Nat.reduceBEq, Nat.reduceBNe, Int.reduceLT, Int.reduceLE, Int.reduceEq, Int.reduceAdd, Int.reduceSub, Int.reduceNeg, reduceCtorEq]
 intro aa w' _ _
 rfl
def ltUpl (t : Int) (x : Upl) : Bool := decide (cmpI x.id t < 0)
def eqUpl (t : Int) (x : Upl) : Bool := decide (cmpI x.id t = 0)
set_option maxRecDepth 100000 in
set_option maxHeartbeats 8000000 in
theorem bsUpl_does {l : List Upl} {lv : Value} {t : Int} {G0 : GW} (hW : G0.Wf) (h : Sq UplG 89 4 G0 lv l) (ho : Ordered (ltUpl t) l) (hn : l.length ≤ 1000000) :
  Calls Tryz.prog 161 #[lv, .int .i64 t, .func (.func 162) #[] #[]] G0.w (Ret G0 fun v _ => v = .tuple #[.int .i64 (ahead (ltUpl t) l : Int), .bool (hit (ltUpl t) (eqUpl t) l)]) := by
 obtain ⟨A, c, rfl, hc1, hc2⟩ := Sq.form h
 have hml := max_le
 refine enterS (G := G0) (n := 49) 3000 hW Tryz.func161 rfl Tryz.ntmps161 (by simp) ?_
 simp only [go_sem, reduceAdd, reduceSub, reduceMul, reduceEqDiff, reduceLT, reduceLeDiff, Nat.reduceBEq, Nat.reduceBNe, Int.reduceLT, Int.reduceLE, Int.reduceEq, Int.reduceAdd, Int.reduceSub, Int.reduceNeg, reduceCtorEq]
 refine loop_ok (N := 3000) (ι := Nat × Nat × GW) (fun i => match i with | (i, j, G) => ⟨[(0, .c (.v (.slice A l.length c))), (1, .c (.v (.int .i64 t))), (2, .c (.v (.func (.func 162) #[] #[]))), (8, .c (.v (.int .i64 (l.length : Int)))), (9, .c (.v (.int .i64 (i : Int)))), (10, .c (.v (.int .i64 (j : Int))))], [], [], [], [G, G0], 0⟩)
  (fun i => match i with | (i, j, G) => i ≤ j ∧ j ≤ l.length ∧ Sq UplG 89 4 G (.slice A l.length c) l ∧ (∀ k x, k < i → l[k]? = some x → ltUpl t x = true) ∧ ∀ k x, j ≤ k → l[k]? = some x → ltUpl t x = false)
  (fun i => i.2.1 - i.1) (QOk_body _ _ _) (0, l.length, G0) ⟨by omega, by omega, h, fun k x hk => absurd hk (by omega), fun k x hk hx => by have := (List.getElem?_eq_some_iff.1 hx).1; omega⟩ (by simp only [go_sem, reduceAdd, reduceSub, reduceMul, reduceEqDiff, reduceLT, reduceLeDiff, Nat.reduceBEq, Nat.reduceBNe, Int.reduceLT, Int.reduceLE, Int.reduceEq, Int.reduceAdd, Int.reduceSub, Int.reduceNeg, reduceCtorEq]; simp) ?_
 rintro ⟨i, j, G1⟩ ⟨hij, hj, hl1, hlo, hhi⟩
 simp only
 by_cases hlt : i < j
 ·have q : decide ((i : Int) < (j : Int)) = true := decide_eq_true (by omega)
  obtain ⟨b1, b2⟩ := half_bd i j hlt
  simp only [go_sem, reduceAdd, reduceSub, reduceMul, reduceEqDiff, reduceLT, reduceLeDiff, Nat.reduceBEq, Nat.reduceBNe, Int.reduceLT, Int.reduceLE, Int.reduceEq, Int.reduceAdd, Int.reduceSub, Int.reduceNeg, reduceCtorEq, q, half_cast]
  refine ⟨by omega, by omega, by omega, by omega, ?_⟩
  obtain ⟨m, hm⟩ : ∃ m, m = (i + j) / 2 := ⟨_, rfl⟩
  rw [← hm] at b1 b2 ⊢
  obtain ⟨x, hx⟩ : ∃ x, l[m]? = some x := ⟨_, List.getElem?_eq_getElem (by omega)⟩
  refine pk (elem_does (R := UplG) (l := l) (m := m) rfl tySlice26 tySize89 rfl rfl (dk rfl) rfl hx (fun G hG => Sq.mono hl1 uplG_mono (hG.le G1 (by simp)))) ?_
  rintro _ ⟨g, o', cs, G2, hcl, hcs, rfl⟩
  obtain ⟨sv, rfl, hsv, hb1, hb2⟩ := hcs
  simp only [go_sem, reduceAdd, reduceSub, reduceMul, reduceEqDiff, reduceLT, reduceLeDiff, Nat.reduceBEq, Nat.reduceBNe, Int.reduceLT, Int.reduceLE, Int.reduceEq, Int.reduceAdd, Int.reduceSub, Int.reduceNeg, reduceCtorEq]
  refine pk (callD_does (fun v _ => v = .int .i64 (cmpI x.id t)) rfl rfl rfl rfl (by kernel_rfl) rfl (dk rfl) (fun G hG => cmpUpl_does hG.wf)) ?_
  rintro _ ⟨_, G3, rfl, hn3, rfl⟩
  simp only [go_sem, reduceAdd, reduceSub, reduceMul, reduceEqDiff, reduceLT, reduceLeDiff, Nat.reduceBEq, Nat.reduceBNe, Int.reduceLT, Int.reduceLE, Int.reduceEq, Int.reduceAdd, Int.reduceSub, Int.reduceNeg, reduceCtorEq]
  refine Wb_mk (fun h2 => ⟨by omega, ?_⟩) (fun h2 => ?_)
  ·refine again_ok (m + 1, j, G1) ⟨(by show m + 1 ≤ j; omega), hj, hl1, fun k y hk hy => ?_, hhi⟩ (by show j - (m + 1) < j - i; omega) (by simp only [go_sem, reduceAdd, reduceSub, reduceMul, reduceEqDiff, reduceLT, reduceLeDiff, Nat.reduceBEq, Nat.reduceBNe, Int.reduceLT, Int.reduceLE, Int.reduceEq, Int.reduceAdd, Int.reduceSub, Int.reduceNeg, reduceCtorEq]; simp)
   by_cases e : k = m
   ·subst e
    rw [hx] at hy; cases hy; exact h2
   ·exact ho k m y x (by omega) hy hx h2
  ·refine again_ok (i, m, G1) ⟨b1, (by show m ≤ l.length; omega), hl1, hlo, fun k y hk hy => ?_⟩ (by show m - i < j - i; omega) (by simp only [go_sem, reduceAdd, reduceSub, reduceMul, reduceEqDiff, reduceLT, reduceLeDiff, Nat.reduceBEq, Nat.reduceBNe, Int.reduceLT, Int.reduceLE, Int.reduceEq, Int.reduceAdd, Int.reduceSub, Int.reduceNeg, reduceCtorEq]; simp)
   by_cases e : k = m
   ·subst e
    rw [hx] at hy; cases hy; exact h2
   ·cases hq : ltUpl t y with
    | false => rfl
    | true => exact absurd (ho m k x y (by have : m ≤ k := hk; omega) hx hy hq) (by rw [show ltUpl t x = false from h2]; simp)
 ·have q : decide ((i : Int) < (j : Int)) = false := decide_eq_false (by omega)
  have e : i = j := by omega
  subst e
  have ha : ahead (ltUpl t) l = i := ahead_is hj hlo (fun x hx => hhi i x (Nat.le_refl _) hx)
  have hh : hit (ltUpl t) (eqUpl t) l = hitO (eqUpl t) l[i]? := by unfold hit; rw [ha]
  rw [ha]
  by_cases hlt2 : i < l.length
  ·have q2 : decide ((i : Int) < (l.length : Int)) = true := decide_eq_true (by omega)
   obtain ⟨x, hx⟩ : ∃ x, l[i]? = some x := ⟨_, List.getElem?_eq_getElem hlt2⟩
   rw [hx] at hh
   rw [hh]
   clear hh ha
   simp only [go_sem, reduceAdd, reduceSub, reduceMul, reduceEqDiff, reduceLT, reduceLeDiff, Nat.reduceBEq, Nat.reduceBNe, Int.reduceLT, Int.reduceLE, Int.reduceEq, Int.reduceAdd, Int.reduceSub, Int.reduceNeg, reduceCtorEq, q, q2]
   refine pk (elem_does (R := UplG) (l := l) (m := i) rfl tySlice26 tySize89 rfl rfl (dk rfl) rfl hx (fun G hG => Sq.mono hl1 uplG_mono (hG.le G1 (by simp)))) ?_
   rintro _ ⟨g, o', cs, G2, hcl, hcs, rfl⟩
   obtain ⟨sv, rfl, hsv, hb1, hb2⟩ := hcs
   simp only [go_sem, reduceAdd, reduceSub, reduceMul, reduceEqDiff, reduceLT, reduceLeDiff, Nat.reduceBEq, Nat.reduceBNe, Int.reduceLT, Int.reduceLE, Int.reduceEq, Int.reduceAdd, Int.reduceSub, Int.reduceNeg, reduceCtorEq]
   refine pk (callD_does (fun v _ => v = .int .i64 (cmpI x.id t)) rfl rfl rfl rfl (by kernel_rfl) rfl (dk rfl) (fun G hG => cmpUpl_does hG.wf)) ?_
   rintro _ ⟨_, G3, rfl, hn3, rfl⟩
   simp only [go_sem, reduceAdd, reduceSub, reduceMul, reduceEqDiff, reduceLT, reduceLeDiff, Nat.reduceBEq, Nat.reduceBNe, Int.reduceLT, Int.reduceLE, Int.reduceEq, Int.reduceAdd, Int.reduceSub, Int.reduceNeg, reduceCtorEq]
   refine fin_ret (G := G0) Tryz.results161 ?_
   simp only [go_sem, reduceAdd, reduceSub, reduceMul, reduceEqDiff, reduceLT, reduceLeDiff, Nat.reduceBEq, Nat.reduceBNe, Int.reduceLT, Int.reduceLE, Int.reduceEq, Int.reduceAdd, Int.reduceSub, Int.reduceNeg, reduceCtorEq]
   intro aa w' _ _
   rfl
  ·have q2 : decide ((i : Int) < (l.length : Int)) = false := decide_eq_false (by omega)
   rw [List.getElem?_eq_none (by omega)] at hh
   rw [hh]
   clear hh ha
   simp only [go_sem, reduceAdd, reduceSub, reduceMul, reduceEqDiff, reduceLT, reduceLeDiff, Nat.reduceBEq, Nat.reduceBNe, Int.reduceLT, Int.reduceLE, Int.reduceEq, Int.reduceAdd, Int.reduceSub, Int.reduceNeg, reduceCtorEq, q, q2]
   refine fin_ret (G := G0) Tryz.results161 ?_
   simp only [go_sem, reduceAdd, reduceSub, reduceMul, reduceEqDiff, reduceLT, reduceLeDiff, Nat.reduceBEq, Nat.reduceBNe, Int.reduceLT, Int.reduceLE, Int.reduceEq, Int.reduceAdd, Int.reduceSub, Int.reduceNeg, reduceCtorEq]
   intro aa w' _ _
   rfl
set_option maxRecDepth 100000 in
set_option maxHeartbeats 8000000 in
theorem cmpPrt_does {x : Prt} {sv : Value} {t : Int} {G0 : GW} (hW : G0.Wf) :
  Calls Tryz.prog 136 #[.agg #[.int .i64 x.n, .int .i64 x.size, sv], .int .i64 t] G0.w (Ret G0 fun v _ => v = .int .i64 (cmpI x.n t)) := by
 refine enterS (G := G0) (n := 9) 3000 hW Tryz.func136 rfl Tryz.ntmps136 (by simp) ?_
 simp only [go_sem, reduceAdd, reduceSub, reduceMul, reduceEqDiff, reduceLT, reduceLeDiff, Nat.reduceBEq, Nat.reduceBNe, Int.reduceLT, Int.reduceLE, Int.reduceEq, Int.reduceAdd, Int.reduceSub, Int.reduceNeg, reduceCtorEq]
 intro g1
 refine pk (call_does (fun v _ => v = .int .i64 (cmpI x.n t)) rfl rfl (by kernel_rfl) rfl (dk rfl) (fun G hG => cmpInt_does hG.wf)) ?_
 rintro _ ⟨_, G1, rfl, hn1, rfl⟩
 simp only [go_sem, reduceAdd, reduceSub, reduceMul, reduceEqDiff, reduceLT, reduceLeDiff, Nat.reduceBEq, Nat.reduceBNe, Int.reduceLT, Int.reduceLE, Int.reduceEq, Int.reduceAdd, Int.reduceSub, Int.reduceNeg, reduceCtorEq]
 refine fin_ret (G := G0) Tryz.results136 ?_
 simp only [go_sem, reduceAdd, reduceSub, reduceMul, reduceEqDiff, reduceLT, reduceLeDiff, Nat.reduceBEq, Nat.reduceBNe, Int.reduceLT, Int.reduceLE, Int.reduceEq, Int.reduceAdd, Int.reduceSub, Int.reduceNeg, reduceCtorEq]
 intro aa w' _ _
 rfl
def ltPrt (t : Int) (x : Prt) : Bool := decide (cmpI x.n t < 0)
def eqPrt (t : Int) (x : Prt) : Bool := decide (cmpI x.n t = 0)
set_option maxRecDepth 100000 in
set_option maxHeartbeats 8000000 in
theorem bsPrt_does {l : List Prt} {lv : Value} {t : Int} {G0 : GW} (hW : G0.Wf) (h : Sq PrtG 70 3 G0 lv l) (ho : Ordered (ltPrt t) l) (hn : l.length ≤ 1000000) :
  Calls Tryz.prog 135 #[lv, .int .i64 t, .func (.func 136) #[] #[]] G0.w (Ret G0 fun v _ => v = .tuple #[.int .i64 (ahead (ltPrt t) l : Int), .bool (hit (ltPrt t) (eqPrt t) l)]) := by
 obtain ⟨A, c, rfl, hc1, hc2⟩ := Sq.form h
 have hml := max_le
 refine enterS (G := G0) (n := 49) 3000 hW Tryz.func135 rfl Tryz.ntmps135 (by simp) ?_
 simp only [go_sem, reduceAdd, reduceSub, reduceMul, reduceEqDiff, reduceLT, reduceLeDiff, Nat.reduceBEq, Nat.reduceBNe, Int.reduceLT, Int.reduceLE, Int.reduceEq, Int.reduceAdd, Int.reduceSub, Int.reduceNeg, reduceCtorEq]
 refine loop_ok (N := 3000) (ι := Nat × Nat × GW) (fun i => match i with | (i, j, G) => ⟨[(0, .c (.v (.slice A l.length c))), (1, .c (.v (.int .i64 t))), (2, .c (.v (.func (.func 136) #[] #[]))), (8, .c (.v (.int .i64 (l.length : Int)))), (9, .c (.v (.int .i64 (i : Int)))), (10, .c (.v (.int .i64 (j : Int))))], [], [], [], [G, G0], 0⟩)
  (fun i => match i with | (i, j, G) => i ≤ j ∧ j ≤ l.length ∧ Sq PrtG 70 3 G (.slice A l.length c) l ∧ (∀ k x, k < i → l[k]? = some x → ltPrt t x = true) ∧ ∀ k x, j ≤ k → l[k]? = some x → ltPrt t x = false)
  (fun i => i.2.1 - i.1) (QOk_body _ _ _) (0, l.length, G0) ⟨by omega, by omega, h, fun k x hk => absurd hk (by omega), fun k x hk hx => by have := (List.getElem?_eq_some_iff.1 hx).1; omega⟩ (by simp only [go_sem, reduceAdd, reduceSub, reduceMul, reduceEqDiff, reduceLT, reduceLeDiff, Nat.reduceBEq, Nat.reduceBNe, Int.reduceLT, Int.reduceLE, Int.reduceEq, Int.reduceAdd, Int.reduceSub, Int.reduceNeg, reduceCtorEq]; simp) ?_
 rintro ⟨i, j, G1⟩ ⟨hij, hj, hl1, hlo, hhi⟩
 simp only
 by_cases hlt : i < j
 ·have q : decide ((i : Int) < (j : Int)) = true := decide_eq_true (by omega)
  obtain ⟨b1, b2⟩ := half_bd i j hlt
  simp only [go_sem, reduceAdd, reduceSub, reduceMul, reduceEqDiff, reduceLT, reduceLeDiff, Nat.reduceBEq, Nat.reduceBNe, Int.reduceLT, Int.reduceLE, Int.reduceEq, Int.reduceAdd, Int.reduceSub, Int.reduceNeg, reduceCtorEq, q, half_cast]
  refine ⟨by omega, by omega, by omega, by omega, ?_⟩
  obtain ⟨m, hm⟩ : ∃ m, m = (i + j) / 2 := ⟨_, rfl⟩
  rw [← hm] at b1 b2 ⊢
  obtain ⟨x, hx⟩ : ∃ x, l[m]? = some x := ⟨_, List.getElem?_eq_getElem (by omega)⟩
  refine pk (elem_does (R := PrtG) (l := l) (m := m) rfl tySlice87 tySize70 rfl rfl (dk rfl) rfl hx (fun G hG => Sq.mono hl1 prtG_mono (hG.le G1 (by simp)))) ?_
  rintro _ ⟨g, o', cs, G2, hcl, hcs, rfl⟩
  obtain ⟨sv, rfl, hsv⟩ := hcs
  simp only [go_sem, reduceAdd, reduceSub, reduceMul, reduceEqDiff, reduceLT, reduceLeDiff, Nat.reduceBEq, Nat.reduceBNe, Int.reduceLT, Int.reduceLE, Int.reduceEq, Int.reduceAdd, Int.reduceSub, Int.reduceNeg, reduceCtorEq]
  refine pk (callD_does (fun v _ => v = .int .i64 (cmpI x.n t)) rfl rfl rfl rfl (by kernel_rfl) rfl (dk rfl) (fun G hG => cmpPrt_does hG.wf)) ?_
  rintro _ ⟨_, G3, rfl, hn3, rfl⟩
  simp only [go_sem, reduceAdd, reduceSub, reduceMul, reduceEqDiff, reduceLT, reduceLeDiff, Nat.reduceBEq, Nat.reduceBNe, Int.reduceLT, Int.reduceLE, Int.reduceEq, Int.reduceAdd, Int.reduceSub, Int.reduceNeg, reduceCtorEq]
  refine Wb_mk (fun h2 => ⟨by omega, ?_⟩) (fun h2 => ?_)
  ·refine again_ok (m + 1, j, G1) ⟨(by show m + 1 ≤ j; omega), hj, hl1, fun k y hk hy => ?_, hhi⟩ (by show j - (m + 1) < j - i; omega) (by simp only [go_sem, reduceAdd, reduceSub, reduceMul, reduceEqDiff, reduceLT, reduceLeDiff, Nat.reduceBEq, Nat.reduceBNe, Int.reduceLT, Int.reduceLE, Int.reduceEq, Int.reduceAdd, Int.reduceSub, Int.reduceNeg, reduceCtorEq]; simp)
   by_cases e : k = m
   ·subst e
    rw [hx] at hy; cases hy; exact h2
   ·exact ho k m y x (by omega) hy hx h2
  ·refine again_ok (i, m, G1) ⟨b1, (by show m ≤ l.length; omega), hl1, hlo, fun k y hk hy => ?_⟩ (by show m - i < j - i; omega) (by simp only [go_sem, reduceAdd, reduceSub, reduceMul, reduceEqDiff, reduceLT, reduceLeDiff, Nat.reduceBEq, Nat.reduceBNe, Int.reduceLT, Int.reduceLE, Int.reduceEq, Int.reduceAdd, Int.reduceSub, Int.reduceNeg, reduceCtorEq]; simp)
   by_cases e : k = m
   ·subst e
    rw [hx] at hy; cases hy; exact h2
   ·cases hq : ltPrt t y with
    | false => rfl
    | true => exact absurd (ho m k x y (by have : m ≤ k := hk; omega) hx hy hq) (by rw [show ltPrt t x = false from h2]; simp)
 ·have q : decide ((i : Int) < (j : Int)) = false := decide_eq_false (by omega)
  have e : i = j := by omega
  subst e
  have ha : ahead (ltPrt t) l = i := ahead_is hj hlo (fun x hx => hhi i x (Nat.le_refl _) hx)
  have hh : hit (ltPrt t) (eqPrt t) l = hitO (eqPrt t) l[i]? := by unfold hit; rw [ha]
  rw [ha]
  by_cases hlt2 : i < l.length
  ·have q2 : decide ((i : Int) < (l.length : Int)) = true := decide_eq_true (by omega)
   obtain ⟨x, hx⟩ : ∃ x, l[i]? = some x := ⟨_, List.getElem?_eq_getElem hlt2⟩
   rw [hx] at hh
   rw [hh]
   clear hh ha
   simp only [go_sem, reduceAdd, reduceSub, reduceMul, reduceEqDiff, reduceLT, reduceLeDiff, Nat.reduceBEq, Nat.reduceBNe, Int.reduceLT, Int.reduceLE, Int.reduceEq, Int.reduceAdd, Int.reduceSub, Int.reduceNeg, reduceCtorEq, q, q2]
   refine pk (elem_does (R := PrtG) (l := l) (m := i) rfl tySlice87 tySize70 rfl rfl (dk rfl) rfl hx (fun G hG => Sq.mono hl1 prtG_mono (hG.le G1 (by simp)))) ?_
   rintro _ ⟨g, o', cs, G2, hcl, hcs, rfl⟩
   obtain ⟨sv, rfl, hsv⟩ := hcs
   simp only [go_sem, reduceAdd, reduceSub, reduceMul, reduceEqDiff, reduceLT, reduceLeDiff, Nat.reduceBEq, Nat.reduceBNe, Int.reduceLT, Int.reduceLE, Int.reduceEq, Int.reduceAdd, Int.reduceSub, Int.reduceNeg, reduceCtorEq]
   refine pk (callD_does (fun v _ => v = .int .i64 (cmpI x.n t)) rfl rfl rfl rfl (by kernel_rfl) rfl (dk rfl) (fun G hG => cmpPrt_does hG.wf)) ?_
   rintro _ ⟨_, G3, rfl, hn3, rfl⟩
   simp only [go_sem, reduceAdd, reduceSub, reduceMul, reduceEqDiff, reduceLT, reduceLeDiff, Nat.reduceBEq, Nat.reduceBNe, Int.reduceLT, Int.reduceLE, Int.reduceEq, Int.reduceAdd, Int.reduceSub, Int.reduceNeg, reduceCtorEq]
   refine fin_ret (G := G0) Tryz.results135 ?_
   simp only [go_sem, reduceAdd, reduceSub, reduceMul, reduceEqDiff, reduceLT, reduceLeDiff, Nat.reduceBEq, Nat.reduceBNe, Int.reduceLT, Int.reduceLE, Int.reduceEq, Int.reduceAdd, Int.reduceSub, Int.reduceNeg, reduceCtorEq]
   intro aa w' _ _
   rfl
  ·have q2 : decide ((i : Int) < (l.length : Int)) = false := decide_eq_false (by omega)
   rw [List.getElem?_eq_none (by omega)] at hh
   rw [hh]
   clear hh ha
   simp only [go_sem, reduceAdd, reduceSub, reduceMul, reduceEqDiff, reduceLT, reduceLeDiff, Nat.reduceBEq, Nat.reduceBNe, Int.reduceLT, Int.reduceLE, Int.reduceEq, Int.reduceAdd, Int.reduceSub, Int.reduceNeg, reduceCtorEq, q, q2]
   refine fin_ret (G := G0) Tryz.results135 ?_
   simp only [go_sem, reduceAdd, reduceSub, reduceMul, reduceEqDiff, reduceLT, reduceLeDiff, Nat.reduceBEq, Nat.reduceBNe, Int.reduceLT, Int.reduceLE, Int.reduceEq, Int.reduceAdd, Int.reduceSub, Int.reduceNeg, reduceCtorEq]
   intro aa w' _ _
   rfl
end Go.Proofs.YtohdfcnjcpjdcaaGreat
