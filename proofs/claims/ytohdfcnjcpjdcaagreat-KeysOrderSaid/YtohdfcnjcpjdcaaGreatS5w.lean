/- slices.Contains over ints; tiered, sound. Conditions: as each law states them. -/
import Derived.Test.YtohdfcnjcpjdcaaGreatS4w
namespace Go.Proofs.YtohdfcnjcpjdcaaGreat
open Go.RowKit
set_option linter.unusedSimpArgs false
set_option maxRecDepth 100000 in
set_option maxHeartbeats 4000000 in
theorem index_does {lv : Value} {l : List Int} {x : Int} {G0 : GW} (hW : G0.Wf) (h : IntsG G0 lv l) :
  Calls Tryz.prog 178 #[lv, .int .i64 x] G0.w (Ret G0 fun v _ => ∃ r : Int, v = .int .i64 r ∧ (0 ≤ r ↔ x ∈ l)) := by
 obtain ⟨A, c, rfl, hc1, hc2⟩ := Sq.form h
 have hml := max_le
 refine enterS (G := G0) (n := 19) 3000 hW Tryz.func178 rfl Tryz.ntmps178 (by simp) ?_
 simp only [go_sem, simprocAttr]
 refine loop_ok (N := 3000) (ι := Nat × GW) (fun i => match i with | (v, G) => ⟨[(0, .c (.v (.slice A l.length c))), (1, .c (.v (.int .i64 x))), (7, .c (.v (.int .i64 (l.length : Int)))), (8, .c (.v (.int .i64 (v : Int))))], [], [], [], [G], 0⟩)
  (fun i => match i with | (v, G) => v ≤ l.length ∧ IntsG G (.slice A l.length c) l ∧ ∀ j, j < v → l[j]? ≠ some x)
  (fun i => l.length - i.1) (QOk_body _ _ _) (0, G0) ⟨by omega, h, fun j hj => absurd hj (by omega)⟩ (by simp only [go_sem, simprocAttr]; simp) ?_
 rintro ⟨v, G1⟩ ⟨hv, hl1, hno⟩
 simp only
 by_cases hlt : v < l.length
 ·have q1 : decide ((v : Int) < (l.length : Int)) = true := decide_eq_true (by omega)
  obtain ⟨y, hy⟩ : ∃ y, l[v]? = some y := ⟨_, List.getElem?_eq_getElem hlt⟩
  simp only [go_sem, simprocAttr, q1]
  refine pk (elem_does (R := IntG) (l := l) (m := v) rfl tySlice28 tySize3 rfl rfl (dk rfl) rfl hy (fun G hG => hl1.mono (hG.le G1 (by simp)))) ?_
  rintro _ ⟨gw, ow, cs, G2, hcl, rfl, rfl⟩
  by_cases exy : x = y
  ·have q2 : decide (x = y) = true := decide_eq_true exy
   simp only [go_sem, simprocAttr, q2]
   refine fin_ret (G := G0) Tryz.results178 ?_
   simp only [go_sem, simprocAttr]
   intro aa w' _ _
   exact ⟨_, rfl, fun _ => exy ▸ List.mem_of_getElem? hy, fun _ => by omega⟩
  ·have q2 : decide (x = y) = false := decide_eq_false exy
   simp only [go_sem, simprocAttr, q2]
   exact ⟨by omega, again_ok (v + 1, G1) ⟨by omega, hl1, fun j hj e => by
    rcases Nat.lt_or_ge j v with q | q
    ·exact hno j q e
    ·have : j = v := by omega
     subst this
     rw [hy] at e
     exact exy (Option.some.inj e).symm⟩ (by simp only; omega) (by simp only [go_sem, simprocAttr]; simp)⟩
 ·have q1 : decide ((v : Int) < (l.length : Int)) = false := decide_eq_false (by omega)
  simp only [go_sem, simprocAttr, q1]
  refine fin_ret (G := G0) Tryz.results178 ?_
  simp only [go_sem, simprocAttr]
  intro aa w' _ _
  refine ⟨_, rfl, fun e => absurd e (by decide), fun e => ?_⟩
  obtain ⟨j, hj⟩ := List.mem_iff_getElem?.1 e
  have := (List.getElem?_eq_some_iff.1 hj).1
  exact absurd hj (hno j (by omega))
set_option maxRecDepth 100000 in
set_option maxHeartbeats 4000000 in
theorem contains_does {lv : Value} {l : List Int} {x : Int} {G0 : GW} (hW : G0.Wf) (h : IntsG G0 lv l) :
  Calls Tryz.prog 169 #[lv, .int .i64 x] G0.w (Ret G0 fun v _ => v = .bool (decide (x ∈ l))) := by
 obtain ⟨A, c, rfl, hc1, hc2⟩ := Sq.form h
 refine enterS (G := G0) (n := 9) 3000 hW Tryz.func169 rfl Tryz.ntmps169 (by simp) ?_
 simp only [go_sem, simprocAttr]
 refine pk (call_does (fun v _ => ∃ r : Int, v = .int .i64 r ∧ (0 ≤ r ↔ x ∈ l)) rfl rfl (by kernel_rfl) rfl (dk rfl) (fun G hG => index_does hG.wf (h.mono (hG.le G0 (by simp))))) ?_
 rintro _ ⟨_, G1, ⟨r, rfl, hr⟩, hn1, rfl⟩
 clear hn1
 have hq : decide (0 ≤ r) = decide (x ∈ l) := decide_eq_decide.2 hr
 simp only [go_sem, simprocAttr, hq]
 refine fin_ret (G := G0) Tryz.results169 ?_
 simp only [go_sem, simprocAttr]
 intro aa w' _ _
 rfl
/-! ### tiered, sound -/
def onTape (v : Ver) : Bool := ((decide (0 ≤ v.vol) && decide (v.vol < 8)) && decide (0 ≤ v.at_)) && decide (v.at_ ≤ 4000)
def taped (s : Sta) (v : Ver) : Bool := onTape v && !decide (v.vol ∈ s.gone)
def hotNone (v : Ver) : Bool := (decide (v.vol = 0) && decide (v.at_ = 0)) && decide (v.till = 0)
def tieredU (s : Sta) (v : Ver) (u : List Int) : Bool × List Int :=
 if v.tier = 1 then (if hotNone v = true then takeU u v.secs v.size else (false, u))
 else if v.tier = 2 then ((taped s v && decide (v.till = 0)) && decide ((v.secs.length : Int) = 0), u)
 else if v.tier = 3 then (if ((taped s v && decide (0 ≤ v.till)) && decide (v.till ≤ 1073742824)) = true then takeU u v.secs v.size else (false, u))
 else (false, u)
set_option maxRecDepth 100000 in
set_option maxHeartbeats 16000000 in
theorem tiered_does {g : Nat} {u : List Int} {s : Sta} {b x up q gv : Value} {v : Ver} {sv : Value} {G0 : GW} (hW : G0.Wf) (hh : HandsOk G0.w ⟨[], [usedR g u]⟩) (hM : ∀ k, Hands.A ⟨[], [usedR g u]⟩ k → G0.M k) (hg : IntsG G0 gv s.gone) (hs : IntsG G0 sv v.secs) (hu : u.Nodup) (hi : ∀ x ∈ u, i64 x) (h0 : 0 ≤ v.size) (h1 : v.size ≤ 1000000) :
  Calls Tryz.prog 140 #[.agg #[.int .i64 s.next, .int .i64 s.clock, b, x, up, q, gv], .agg (verV v sv).toArray, .map (some g)] G0.w (RetH G0 ⟨[], [usedR g u]⟩ fun r _ R _ => r = .bool (tieredU s v u).1 ∧ R = [usedR g (tieredU s v u).2]) := by
 obtain ⟨A, c, rfl, hc1, hc2⟩ := Sq.form hs
 have hml := max_le
 refine enterH (n := 94) 3000 ([.c (.v (.agg #[.int .i64 s.next, .int .i64 s.clock, b, x, up, q, gv])), .c (.v (.agg (verV v (.slice A v.secs.length c)).toArray)), .c (.v (.map (some g)))]) ([]) rfl hW hh hM Tryz.func140 rfl Tryz.ntmps140 (by simp) ?_
 simp only [go_sem, simprocAttr, verV]
 intro g1 g2
 refine Wb_mk (fun h2 => ?_) (fun h2 => ?_)
 ·simp only [go_sem, simprocAttr, h2]
  refine pk (call_does (fun r _ => r = .bool (decide (v.vol ∈ s.gone))) rfl rfl (by kernel_rfl) rfl (dk rfl) (fun G hG => contains_does hG.wf (IntsG.mono hg (hG.le G0 (by simp))))) ?_
  rintro _ ⟨_, G1, rfl, hn1, rfl⟩
  clear hn1
  have e7 : taped s v = !decide (v.vol ∈ s.gone) := by unfold taped; rw [show onTape v = true from h2]; rfl
  simp only [go_sem, simprocAttr, h2]
  by_cases k1 : v.tier = 1
  ·have q1 : decide (v.tier = 1) = true := decide_eq_true k1
   have k2 : True := trivial
   have k3 : True := trivial
   simp only [go_sem, simprocAttr, q1]
   refine Wb_mk (fun h4 => ?_) (fun h4 => ?_)
   ·have h5 : hotNone v = true := h4
    simp only [go_sem, simprocAttr, h4]
    refine pk (callH_does ([]) ([]) ([usedR g u]) ([]) (fun r _ R _ => r = .bool (takeU u v.secs v.size).1 ∧ R = [usedR g (takeU u v.secs v.size).2]) upV rfl rfl (by kernel_rfl) rfl (dk rfl) rfl rfl (by simp [ids, Diff]) (by simp) (fun G hG hh hM => take_does hG.wf hh hM (IntsG.mono hs (hG.le G0 (by simp))) hu hi h0 h1) (fun v css R G _ _ => upV_den css)) ?_
    rintro _ ⟨_, css, _, G3, ⟨rfl, rfl⟩, hcs, hle, rfl⟩
    simp only [go_sem, simprocAttr, h4]
    refine fin_retH (G := G0) Tryz.results140 ?_
    simp only [go_sem, simprocAttr]
    intro aa w' _ _
    unfold tieredU
    simp only [k1, k2, k3, e7, h5, if_true, if_false, Bool.false_eq_true, Bool.true_and, Bool.false_and, Bool.and_true, Bool.and_false, Int.reduceEq]
    first | exact ⟨rfl, rfl⟩ | exact ⟨rfl, trivial⟩ | exact ⟨trivial, rfl⟩ | trivial
   ·have h5 : hotNone v = false := h4
    simp only [go_sem, simprocAttr, h4]
    refine fin_retH (G := G0) Tryz.results140 ?_
    simp only [go_sem, simprocAttr]
    intro aa w' _ _
    unfold tieredU
    simp only [k1, k2, k3, e7, h5, if_true, if_false, Bool.false_eq_true, Bool.true_and, Bool.false_and, Bool.and_true, Bool.and_false, Int.reduceEq]
    first | exact ⟨rfl, rfl⟩ | exact ⟨rfl, trivial⟩ | exact ⟨trivial, rfl⟩ | trivial
  ·have q1 : decide (v.tier = 1) = false := decide_eq_false k1
   by_cases k2 : v.tier = 2
   ·have q2 : decide (v.tier = 2) = true := decide_eq_true k2
    have k3 : True := trivial
    have h5 : True := trivial
    simp only [go_sem, simprocAttr, q1, q2]
    refine fin_retH (G := G0) Tryz.results140 ?_
    simp only [go_sem, simprocAttr]
    intro aa w' _ _
    unfold tieredU
    simp only [k1, k2, k3, e7, h5, if_true, if_false, Bool.false_eq_true, Bool.true_and, Bool.false_and, Bool.and_true, Bool.and_false, Int.reduceEq]
    first | exact ⟨rfl, rfl⟩ | exact ⟨rfl, trivial⟩ | exact ⟨trivial, rfl⟩ | trivial
   ·have q2 : decide (v.tier = 2) = false := decide_eq_false k2
    by_cases k3 : v.tier = 3
    ·have q3 : decide (v.tier = 3) = true := decide_eq_true k3
     simp only [go_sem, simprocAttr, q1, q2, q3]
     refine Wb_mk (fun h4 => ?_) (fun h4 => ?_)
     ·have h5 : True := trivial
      simp only [go_sem, simprocAttr, h4]
      refine pk (callH_does ([]) ([]) ([usedR g u]) ([]) (fun r _ R _ => r = .bool (takeU u v.secs v.size).1 ∧ R = [usedR g (takeU u v.secs v.size).2]) upV rfl rfl (by kernel_rfl) rfl (dk rfl) rfl rfl (by simp [ids, Diff]) (by simp) (fun G hG hh hM => take_does hG.wf hh hM (IntsG.mono hs (hG.le G0 (by simp))) hu hi h0 h1) (fun v css R G _ _ => upV_den css)) ?_
      rintro _ ⟨_, css, _, G3, ⟨rfl, rfl⟩, hcs, hle, rfl⟩
      simp only [go_sem, simprocAttr, h4]
      rw [← e7] at h4
      refine fin_retH (G := G0) Tryz.results140 ?_
      simp only [go_sem, simprocAttr]
      intro aa w' _ _
      unfold tieredU
      rw [if_neg k1, if_neg k2, if_pos k3, if_pos h4]
      exact ⟨rfl, rfl⟩
     ·simp only [go_sem, simprocAttr, h4]
      rw [← e7] at h4
      refine fin_retH (G := G0) Tryz.results140 ?_
      simp only [go_sem, simprocAttr]
      intro aa w' _ _
      unfold tieredU
      rw [if_neg k1, if_neg k2, if_pos k3, if_neg (by rw [h4]; simp)]
      exact ⟨rfl, rfl⟩
    ·have q3 : decide (v.tier = 3) = false := decide_eq_false k3
     have h5 : True := trivial
     simp only [go_sem, simprocAttr, q1, q2, q3]
     refine fin_retH (G := G0) Tryz.results140 ?_
     simp only [go_sem, simprocAttr]
     intro aa w' _ _
     unfold tieredU
     simp only [k1, k2, k3, e7, h5, if_true, if_false, Bool.false_eq_true, Bool.true_and, Bool.false_and, Bool.and_true, Bool.and_false, Int.reduceEq]
     first | exact ⟨rfl, rfl⟩ | exact ⟨rfl, trivial⟩ | exact ⟨trivial, rfl⟩ | trivial
 ·have e7 : taped s v = false := by unfold taped; rw [show onTape v = false from h2]; rfl
  simp only [go_sem, simprocAttr, h2]
  by_cases k1 : v.tier = 1
  ·have q1 : decide (v.tier = 1) = true := decide_eq_true k1
   have k2 : True := trivial
   have k3 : True := trivial
   simp only [go_sem, simprocAttr, q1]
   refine Wb_mk (fun h4 => ?_) (fun h4 => ?_)
   ·have h5 : hotNone v = true := h4
    simp only [go_sem, simprocAttr, h4]
    refine pk (callH_does ([]) ([]) ([usedR g u]) ([]) (fun r _ R _ => r = .bool (takeU u v.secs v.size).1 ∧ R = [usedR g (takeU u v.secs v.size).2]) upV rfl rfl (by kernel_rfl) rfl (dk rfl) rfl rfl (by simp [ids, Diff]) (by simp) (fun G hG hh hM => take_does hG.wf hh hM (IntsG.mono hs (hG.le G0 (by simp))) hu hi h0 h1) (fun v css R G _ _ => upV_den css)) ?_
    rintro _ ⟨_, css, _, G3, ⟨rfl, rfl⟩, hcs, hle, rfl⟩
    simp only [go_sem, simprocAttr, h4]
    refine fin_retH (G := G0) Tryz.results140 ?_
    simp only [go_sem, simprocAttr]
    intro aa w' _ _
    unfold tieredU
    simp only [k1, k2, k3, e7, h5, if_true, if_false, Bool.false_eq_true, Bool.true_and, Bool.false_and, Bool.and_true, Bool.and_false, Int.reduceEq]
    first | exact ⟨rfl, rfl⟩ | exact ⟨rfl, trivial⟩ | exact ⟨trivial, rfl⟩ | trivial
   ·have h5 : hotNone v = false := h4
    simp only [go_sem, simprocAttr, h4]
    refine fin_retH (G := G0) Tryz.results140 ?_
    simp only [go_sem, simprocAttr]
    intro aa w' _ _
    unfold tieredU
    simp only [k1, k2, k3, e7, h5, if_true, if_false, Bool.false_eq_true, Bool.true_and, Bool.false_and, Bool.and_true, Bool.and_false, Int.reduceEq]
    first | exact ⟨rfl, rfl⟩ | exact ⟨rfl, trivial⟩ | exact ⟨trivial, rfl⟩ | trivial
  ·have q1 : decide (v.tier = 1) = false := decide_eq_false k1
   have h5 : True := trivial
   by_cases k2 : v.tier = 2
   ·have q2 : decide (v.tier = 2) = true := decide_eq_true k2
    have k3 : True := trivial
    simp only [go_sem, simprocAttr, q1, q2]
    refine fin_retH (G := G0) Tryz.results140 ?_
    simp only [go_sem, simprocAttr]
    intro aa w' _ _
    unfold tieredU
    simp only [k1, k2, k3, e7, h5, if_true, if_false, Bool.false_eq_true, Bool.true_and, Bool.false_and, Bool.and_true, Bool.and_false, Int.reduceEq]
    first | exact ⟨rfl, rfl⟩ | exact ⟨rfl, trivial⟩ | exact ⟨trivial, rfl⟩ | trivial
   ·have q2 : decide (v.tier = 2) = false := decide_eq_false k2
    by_cases k3 : v.tier = 3
    ·have q3 : decide (v.tier = 3) = true := decide_eq_true k3
     simp only [go_sem, simprocAttr, q1, q2, q3]
     refine fin_retH (G := G0) Tryz.results140 ?_
     simp only [go_sem, simprocAttr]
     intro aa w' _ _
     unfold tieredU
     simp only [k1, k2, k3, e7, h5, if_true, if_false, Bool.false_eq_true, Bool.true_and, Bool.false_and, Bool.and_true, Bool.and_false, Int.reduceEq]
     first | exact ⟨rfl, rfl⟩ | exact ⟨rfl, trivial⟩ | exact ⟨trivial, rfl⟩ | trivial
    ·have q3 : decide (v.tier = 3) = false := decide_eq_false k3
     simp only [go_sem, simprocAttr, q1, q2, q3]
     refine fin_retH (G := G0) Tryz.results140 ?_
     simp only [go_sem, simprocAttr]
     intro aa w' _ _
     unfold tieredU
     simp only [k1, k2, k3, e7, h5, if_true, if_false, Bool.false_eq_true, Bool.true_and, Bool.false_and, Bool.and_true, Bool.and_false, Int.reduceEq]
     first | exact ⟨rfl, rfl⟩ | exact ⟨rfl, trivial⟩ | exact ⟨trivial, rfl⟩ | trivial
end Go.Proofs.YtohdfcnjcpjdcaaGreat
