/- buckets. Conditions: as each law states them. -/
import Derived.Test.YtohdfcnjcpjdcaaGreatS6w
namespace Go.Proofs.YtohdfcnjcpjdcaaGreat
open Go.RowKit
set_option linter.unusedSimpArgs false
theorem nt {b : Bool} (h : (!b) = true) : b = false := by cases b with | true => cases h | false => rfl
theorem nf {b : Bool} (h : (!b) = false) : b = true := by cases b with | true => rfl | false => cases h
/-- what stands ahead of a place -/
def prevO {α : Type} (l : List α) (k : Nat) : Option α := if k = 0 then none else l[k - 1]?
def chain {α : Type} (bad : Option α → α → Bool) : Option α → List α → Bool
 | _, [] => true
 | p, x :: r => !bad p x && chain bad (some x) r
theorem chain_ok {α : Type} {bad : Option α → α → Bool} : ∀ {l : List α} {p : Option α}, (∀ k x, l[k]? = some x → bad (if k = 0 then p else l[k - 1]?) x = false) → chain bad p l = true
 | [], _, _ => rfl
 | y :: r, p, h => by
  have h0 := h 0 y rfl
  rw [if_pos rfl] at h0
  unfold chain
  rw [h0]
  refine chain_ok fun k x hx => ?_
  have := h (k + 1) x (by simpa using hx)
  rw [if_neg (by omega)] at this
  cases k with
  | zero => simpa using this
  | succ k => simpa using this
theorem chain_no {α : Type} {bad : Option α → α → Bool} : ∀ {l : List α} {p : Option α} {k : Nat} {x : α}, l[k]? = some x → bad (if k = 0 then p else l[k - 1]?) x = true → chain bad p l = false
 | [], _, _, _, hx, _ => by simp at hx
 | y :: r, p, 0, x, hx, h => by
  cases hx
  rw [if_pos rfl] at h
  unfold chain
  rw [h]
  rfl
 | y :: r, p, k + 1, x, hx, h => by
  unfold chain
  rw [if_neg (by omega)] at h
  have : chain bad (some y) r = false := chain_no (k := k) (by simpa using hx) (by
   cases k with
   | zero => simpa using h
   | succ k => simpa using h)
  rw [this, Bool.and_false]
theorem chain_at {α : Type} {bad : Option α → α → Bool} {l : List α} (h : chain bad none l = true) {k : Nat} {x : α} (hx : l[k]? = some x) : bad (prevO l k) x = false := by
 cases hb : bad (prevO l k) x with
 | false => rfl
 | true => rw [chain_no hx hb] at h; cases h
def bktGe (p : Option Bkt) (b : Bkt) : Bool := match p with
 | none => false
 | some q => !Op.bytesLess q.name.toList b.name.toList
def bktOut (b : Bkt) : Bool := ((!decide (nameErr b.name 8 = 0) || decide (b.mode < 0)) || decide (2 < b.mode))
def bktBad (p : Option Bkt) (b : Bkt) : Bool := (bktOut b || !decide (rulErr b.rule = 0)) || bktGe p b
def bktsB (l : List Bkt) : Bool := chain bktBad none l && decide ((l.length : Int) ≤ 4)
set_option maxRecDepth 100000 in
set_option maxHeartbeats 16000000 in
theorem buckets_does {l : List Bkt} {lv : Value} {G0 : GW} (hW : G0.Wf) (h : BktsG G0 lv l) :
  Calls Tryz.prog 71 #[lv] G0.w (Ret G0 fun v _ => v = .bool (bktsB l)) := by
 obtain ⟨A, c, rfl, hc1, hc2⟩ := Sq.form h
 have hml := max_le
 refine enterS (G := G0) (n := 51) 3000 hW Tryz.func71 rfl Tryz.ntmps71 (by simp) ?_
 simp only [go_sem, simprocAttr]
 refine loop_ok (N := 3000) (ι := Nat) (fun i => ⟨[(0, .c (.v (.slice A l.length c))), (5, .c (.v (.slice A l.length c))), (6, .c (.v (.int .i64 (l.length : Int)))), (7, .c (.v (.int .i64 (i : Int))))], [], [], [], [G0], 0⟩)
  (fun i => i ≤ l.length ∧ ∀ k x, k < i → l[k]? = some x → bktBad (prevO l k) x = false)
  (fun i => l.length - i) (QOk_body _ _ _) 0 ⟨by omega, fun k x hk => absurd hk (by omega)⟩ (by simp only [go_sem, simprocAttr]; simp) ?_
 rintro i ⟨hi, hno⟩
 by_cases hlt : i < l.length
 ·have q : decide ((i : Int) < (l.length : Int)) = true := decide_eq_true (by omega)
  obtain ⟨x, hx⟩ : ∃ x, l[i]? = some x := ⟨_, List.getElem?_eq_getElem hlt⟩
  simp only [go_sem, simprocAttr, q]
  refine pk (elem_does (R := BktG) (l := l) (m := i) rfl tySlice24 tySize42 rfl rfl (dk rfl) rfl hx (fun G hG => Sq.mono h bktG_mono (hG.le G0 (by simp)))) ?_
  rintro _ ⟨g, o', cs, G2, hcl, hcs, rfl⟩
  obtain ⟨rfl, hb1, hb2⟩ := hcs
  simp only [go_sem, simprocAttr]
  intro g1
  by_cases hi0 : i = 0
  ·have q0 : decide (0 < (i : Int)) = false := decide_eq_false (by omega)
   have hp : prevO l i = none := by unfold prevO; rw [if_pos hi0]
   refine draw_ok (N := 3000) (.take 0 (.take 1 (.alt 2 (.take 3 (.take 4 (.take 5 (.take 6 (.take 7 (.take 8 (.take 9 (.take 10 (.take 11 (.take 12 (.take 13 (.take 14 (.take 15 (.take 16 (.alt 17 (.take 18 (.take 19 (.take 20 (.take 21 (.take 22 (.take 23 (.take 24 (.take 25 (.take 26 (.take 30 (.take 31 (.alt 27 (.take 28 (.take 29 (.take 32 (.take 33 (.take 34 .done))))) .last)))))))))))) .last))))))))))))))) .last))) [] (QOk_body _ _ _) follows_mixed (by kernel_rfl) (by kernel_rfl) ?_
   simp only [go_sem, simprocAttr, q0]
   refine anyc_ok (N := 3000) (call_does (fun v _ => v = .int .i64 (nameErr x.name 8)) rfl rfl (by kernel_rfl) rfl (dk rfl) (fun G hG => checkName_does hG.wf hb1)) (QOk_body _ _ _) rfl (by first | exact .inl rfl | exact .inr ⟨_, _, rfl, rfl⟩) ?_
   rintro _ ⟨_, G3, rfl, hn3, rfl⟩
   clear hn3
   simp only [go_sem, simprocAttr, q0]
   refine Wb_mk (fun h4 => ?_) (fun h4 => ?_)
   rotate_left
   ·have h5 : bktOut x = true := nf h4
    have hbad : bktBad (prevO l i) x = true := by unfold bktBad; rw [h5]; rfl
    unfold bktOut at h5
    simp only [go_sem, simprocAttr, q0, h5]
    refine fin_ret (G := G0) Tryz.results71 ?_
    simp only [go_sem, simprocAttr]
    intro aa w' _ _
    unfold bktsB
    rw [chain_no hx hbad]
    rfl
   have h5 : bktOut x = false := nt h4
   have h5' := h5
   unfold bktOut at h5'
   simp only [go_sem, simprocAttr, q0, h5']
   refine anyc_ok (N := 3000) (call_does (fun v _ => v = .int .i64 (rulErr x.rule)) rfl rfl (by kernel_rfl) rfl (dk rfl) (fun G hG => checkRule_does hG.wf hb2)) (QOk_body _ _ _) rfl (by first | exact .inl rfl | exact .inr ⟨_, _, rfl, rfl⟩) ?_
   rintro _ ⟨_, G4, rfl, hn4, rfl⟩
   clear hn4
   simp only [go_sem, simprocAttr, q0, h5']
   have hb3 : bktBad (prevO l i) x = !decide (rulErr x.rule = 0) := by unfold bktBad; rw [h5, hp]; simp [bktGe]
   refine Wb_mk (fun h6 => ?_) (fun h6 => ?_)
   ·have hbad : bktBad (prevO l i) x = true := hb3.trans h6
    refine fin_ret (G := G0) Tryz.results71 ?_
    simp only [go_sem, simprocAttr]
    intro aa w' _ _
    unfold bktsB
    rw [chain_no hx hbad]
    rfl
   ·have hbad : bktBad (prevO l i) x = false := hb3.trans h6
    refine ⟨by omega, again_ok (i + 1) ⟨hlt, fun k z hk hz => ?_⟩ (by omega) (by simp only [go_sem, simprocAttr]; simp)⟩
    by_cases e : k = i
    ·subst e
     rw [hx] at hz
     cases hz
     exact hbad
    ·exact hno k z (by omega) hz
  ·have q0 : decide (0 < (i : Int)) = true := decide_eq_true (by omega)
   obtain ⟨y, hy⟩ : ∃ y, l[i - 1]? = some y := ⟨_, List.getElem?_eq_getElem (by omega)⟩
   have hp : prevO l i = some y := by unfold prevO; rw [if_neg hi0, hy]
   have hcast : (i : Int) - 1 = ((i - 1 : Nat) : Int) := by omega
   refine preview_ok (R := BktG) (kc := 5) hy (fun G hG => (Sq.mono h bktG_mono (hG G0 (by simp))).sc) fun g2 o2 cs2 G5 hA hcl2 hcs2 hle2 => ?_
   subst hA
   obtain ⟨rfl, hb5, hb6⟩ := hcs2
   simp only [go_sem, simprocAttr]
   refine draw_ok (N := 3000) (.take 0 (.take 1 (.alt 2 (.take 3 (.take 4 (.take 5 (.take 6 (.take 7 (.take 8 (.take 9 (.take 10 (.take 11 (.take 12 (.take 13 (.take 14 (.take 15 (.take 16 (.alt 17 (.take 18 (.take 19 (.take 20 (.take 21 (.take 22 (.take 23 (.take 24 (.take 25 (.take 26 (.take 27 (.take 28 (.take 29 (.take 30 (.take 31 (.take 32 (.take 33 (.take 34 .done))))))))))))))))) .last))))))))))))))) .last))) [] (QOk_body _ _ _) follows_mixed (by kernel_rfl) (by kernel_rfl) ?_
   simp only [go_sem, simprocAttr, q0]
   refine anyc_ok (N := 3000) (call_does (fun v _ => v = .int .i64 (nameErr x.name 8)) rfl rfl (by kernel_rfl) rfl (dk rfl) (fun G hG => checkName_does hG.wf hb1)) (QOk_body _ _ _) rfl (by first | exact .inl rfl | exact .inr ⟨_, _, rfl, rfl⟩) ?_
   rintro _ ⟨_, G3, rfl, hn3, rfl⟩
   clear hn3
   simp only [go_sem, simprocAttr, q0]
   refine Wb_mk (fun h4 => ?_) (fun h4 => ?_)
   rotate_left
   ·have h5 : bktOut x = true := nf h4
    have hbad : bktBad (prevO l i) x = true := by unfold bktBad; rw [h5]; rfl
    unfold bktOut at h5
    simp only [go_sem, simprocAttr, q0, h5]
    refine fin_ret (G := G0) Tryz.results71 ?_
    simp only [go_sem, simprocAttr]
    intro aa w' _ _
    unfold bktsB
    rw [chain_no hx hbad]
    rfl
   have h5 : bktOut x = false := nt h4
   have h5' := h5
   unfold bktOut at h5'
   simp only [go_sem, simprocAttr, q0, h5']
   refine anyc_ok (N := 3000) (call_does (fun v _ => v = .int .i64 (rulErr x.rule)) rfl rfl (by kernel_rfl) rfl (dk rfl) (fun G hG => checkRule_does hG.wf hb2)) (QOk_body _ _ _) rfl (by first | exact .inl rfl | exact .inr ⟨_, _, rfl, rfl⟩) ?_
   rintro _ ⟨_, G4, rfl, hn4, rfl⟩
   clear hn4
   simp only [go_sem, simprocAttr, q0, h5']
   refine ⟨fun _ => by omega, Wb_mk (fun h6 => ?_) (fun h6 => ?_)⟩
   ·have h7 : (!decide (rulErr x.rule = 0)) = false := by rw [h6]; rfl
    simp only [go_sem, simprocAttr, q0, h5', h6]
    refine take_elem 2 (m := i - 1) rfl tySlice24 tySize42 rfl rfl (dk rfl) hcast (by omega) ?_
    have hb3 : bktBad (prevO l i) x = !Op.bytesLess y.name.toList x.name.toList := by unfold bktBad; rw [h5, hp, h7]; simp [bktGe]
    simp only [go_sem, simprocAttr, q0, h5', h6]
    refine Wb_mk (fun h8 => ?_) (fun h8 => ?_)
    ·have hbad : bktBad (prevO l i) x = true := hb3.trans h8
     refine fin_ret (G := G0) Tryz.results71 ?_
     simp only [go_sem, simprocAttr]
     intro aa w' _ _
     unfold bktsB
     rw [chain_no hx hbad]
     rfl
    ·have hbad : bktBad (prevO l i) x = false := hb3.trans h8
     refine ⟨by omega, again_ok (i + 1) ⟨hlt, fun k z hk hz => ?_⟩ (by omega) (by simp only [go_sem, simprocAttr]; simp)⟩
     by_cases e : k = i
     ·subst e
      rw [hx] at hz
      cases hz
      exact hbad
     ·exact hno k z (by omega) hz
   ·have h7 : (!decide (rulErr x.rule = 0)) = true := by rw [h6]; rfl
    have hbad : bktBad (prevO l i) x = true := by unfold bktBad; rw [h5, h7]; rfl
    simp only [go_sem, simprocAttr, q0, h5', h6]
    refine fin_ret (G := G0) Tryz.results71 ?_
    simp only [go_sem, simprocAttr]
    intro aa w' _ _
    unfold bktsB
    rw [chain_no hx hbad]
    rfl
 ·have q : decide ((i : Int) < (l.length : Int)) = false := decide_eq_false (by omega)
  simp only [go_sem, simprocAttr, q]
  refine fin_ret (G := G0) Tryz.results71 ?_
  simp only [go_sem, simprocAttr]
  intro aa w' _ _
  unfold bktsB
  rw [chain_ok (fun k x hx => hno k x (by have := (List.getElem?_eq_some_iff.1 hx).1; omega) hx)]
  rfl
end Go.Proofs.YtohdfcnjcpjdcaaGreat
