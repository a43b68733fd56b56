/- Check. Conditions: as each law states them. -/
import Derived.Test.YtohdfcnjcpjdcaaGreatS13w
namespace Go.Proofs.YtohdfcnjcpjdcaaGreat
open Go.RowKit
set_option linter.unusedSimpArgs false
def numsBad (s : Sta) : Bool := ((decide (s.next < 1) || decide (1048576 < s.next)) || decide (s.clock < 0)) || decide (1073741824 < s.clock)
def goneGe (p : Option Int) (v : Int) : Bool := match p with
 | none => false
 | some q => decide (v ≤ q)
def goneBad (p : Option Int) (v : Int) : Bool := (decide (v < 0) || decide (8 ≤ v)) || goneGe p v
def goneB (l : List Int) : Bool := chain goneBad none l
theorem versU_ok (s : Sta) : ∀ (l : List Ver) (p : Option Ver) (nl : List (ByteArray × ByteArray)) (u : List Int), UsedOk u → UsedOk (versU s p nl u l).2
 | [], _, _, _, h => h
 | v :: r, p, nl, u, h => by
  unfold versU
  have := soundU_ok s v u h
  repeat' split
  all_goals first | exact this | exact versU_ok s r _ _ _ this
theorem versB_ok (s : Sta) (u : List Int) (h : UsedOk u) : UsedOk (versB s u).2 := versU_ok s _ _ _ _ h
/-- may a state be? -/
def okSt (s : Sta) : Bool := ((((!numsBad s && goneB s.gone) && bktsB s.bkts) && (versB s []).1) && (uplsB s (versB s []).2).1) && queueB s
def errSt (s : Sta) : Int := if okSt s = true then 0 else 9
set_option maxRecDepth 100000 in
set_option maxHeartbeats 32000000 in
theorem check_does {s : Sta} {sv : Value} {G0 : GW} (hW : G0.Wf) (hs : StaG G0 sv s) :
  Calls Tryz.prog 26 #[sv] G0.w (Ret G0 fun r _ => r = .int .i64 (errSt s)) := by
 obtain ⟨A1, c1, A2, c2, A3, c3, A4, c4, A5, c5, rfl, hP⟩ := hs.form
 have hml := max_le
 have hgl : s.gone.length ≤ c5 ∧ c5 ≤ maxLen := by obtain ⟨_, _, e, q1, q2⟩ := Sq.form hP.gone; cases e; exact ⟨q1, q2⟩
 refine enterS (G := G0) (n := 75) 3000 hW Tryz.func26 rfl Tryz.ntmps26 (by simp) ?_
 simp only [go_sem, simprocAttr]
 intro g1
 refine Wb_mk (fun h1 => ?_) (fun h1 => ?_)
 ·refine fin_ret (G := G0) Tryz.results26 ?_
  simp only [go_sem, simprocAttr]
  intro aa w' _ _
  have : okSt s = false := by unfold okSt; rw [show numsBad s = true from h1]; rfl
  unfold errSt
  rw [this]
  rfl
 have k1 : numsBad s = false := h1
 refine loop_ok (N := 3000) (ι := Nat) (fun i => ⟨[(1, .c (.p 0 g1 0)), (25, .c (.v (.slice A5 s.gone.length c5))), (26, .c (.v (.int .i64 (s.gone.length : Int)))), (27, .c (.v (.int .i64 (i : Int))))],
   [⟨0, g1, 30, [.v (.int .i64 s.next), .v (.int .i64 s.clock), .v (.slice A1 s.bkts.length c1), .v (.slice A2 s.vers.length c2), .v (.slice A3 s.upls.length c3), .v (.slice A4 s.queue.length c4), .v (.slice A5 s.gone.length c5)]⟩], [], [], [G0], 1⟩)
  (fun i => i ≤ s.gone.length ∧ ∀ k x, k < i → s.gone[k]? = some x → goneBad (prevO s.gone k) x = false)
  (fun i => s.gone.length - i) (QOk_body _ _ _) 0 ⟨by omega, fun k a hk => absurd hk (by omega)⟩ (by simp only [go_sem, simprocAttr]; simp) ?_
 rintro i ⟨hi, hno⟩
 by_cases hlt : i < s.gone.length
 ·have q1 : decide ((i : Int) < (s.gone.length : Int)) = true := decide_eq_true (by omega)
  obtain ⟨v, hv⟩ : ∃ v, s.gone[i]? = some v := ⟨_, List.getElem?_eq_getElem hlt⟩
  simp only [go_sem, simprocAttr, q1]
  refine pk (elem_does (R := IntG) (l := s.gone) (m := i) rfl tySlice28 tySize3 rfl rfl (dk rfl) rfl hv (fun G hG => IntsG.mono hP.gone (hG.le G0 (by simp)))) ?_
  rintro _ ⟨g2, o', cs, G2, hcl, hcs, rfl⟩
  obtain rfl := hcs
  by_cases hi0 : i = 0
  ·have q0 : decide (0 < (i : Int)) = false := decide_eq_false (by omega)
   have hp : prevO s.gone i = none := by unfold prevO; rw [if_pos hi0]
   simp only [go_sem, simprocAttr, q0]
   refine Wb_mk (fun h2 => ?_) (fun h2 => ?_)
   ·have hbad : goneBad (prevO s.gone i) v = true := by unfold goneBad; rw [h2]; rfl
    refine fin_ret (G := G0) Tryz.results26 ?_
    simp only [go_sem, simprocAttr]
    intro aa w' _ _
    have : okSt s = false := by unfold okSt goneB; rw [chain_no (bad := goneBad) (p := none) hv hbad]; simp
    unfold errSt
    rw [this]
    rfl
   ·have hgood : goneBad (prevO s.gone i) v = false := by rw [hp]; unfold goneBad; rw [h2]; rfl
    refine ⟨by omega, ?_⟩
    refine again_ok (i + 1) ⟨hlt, fun k z hk hz => ?_⟩ (by omega) (by simp only [go_sem, simprocAttr]; simp)
    by_cases e : k = i
    ·subst e
     rw [hv] at hz; cases hz
     exact hgood
    ·exact hno k z (by omega) hz
  ·have q0 : decide (0 < (i : Int)) = true := decide_eq_true (by omega)
   obtain ⟨y, hy⟩ : ∃ y, s.gone[i - 1]? = some y := ⟨_, List.getElem?_eq_getElem (by omega)⟩
   have hp : prevO s.gone i = some y := by unfold prevO; rw [if_neg hi0, hy]
   have hcast : (i : Int) - 1 = ((i - 1 : Nat) : Int) := by omega
   simp only [go_sem, simprocAttr, q0]
   refine ⟨fun _ => by omega, Wb_mk (fun h2 => ?_) (fun h2 => ?_)⟩
   ·have h3 := nt h2
    simp only [go_sem, simprocAttr, q0, h3]
    refine pk (elem_does (R := IntG) (l := s.gone) (m := i - 1) rfl tySlice28 tySize3 rfl rfl (dk rfl) hcast hy (fun G hG => IntsG.mono hP.gone (hG.le G0 (by simp)))) ?_
    rintro _ ⟨g4, o4, cs4, G4, hcl4, hcs4, rfl⟩
    obtain rfl := hcs4
    simp only [go_sem, simprocAttr, q0, h3]
    refine Wb_mk (fun h4 => ?_) (fun h4 => ?_)
    ·have hbad : goneBad (prevO s.gone i) v = true := by rw [hp]; unfold goneBad; rw [h3]; exact h4
     refine fin_ret (G := G0) Tryz.results26 ?_
     simp only [go_sem, simprocAttr]
     intro aa w' _ _
     have : okSt s = false := by unfold okSt goneB; rw [chain_no (bad := goneBad) (p := none) hv hbad]; simp
     unfold errSt
     rw [this]
     rfl
    ·have hgood : goneBad (prevO s.gone i) v = false := by rw [hp]; unfold goneBad; rw [h3]; exact h4
     refine ⟨by omega, ?_⟩
     refine again_ok (i + 1) ⟨hlt, fun k z hk hz => ?_⟩ (by omega) (by simp only [go_sem, simprocAttr]; simp)
     by_cases e : k = i
     ·subst e
      rw [hv] at hz; cases hz
      exact hgood
     ·exact hno k z (by omega) hz
   ·have h3 := nf h2
    have hbad : goneBad (prevO s.gone i) v = true := by unfold goneBad; rw [h3]; rfl
    simp only [go_sem, simprocAttr, q0, h3]
    refine fin_ret (G := G0) Tryz.results26 ?_
    simp only [go_sem, simprocAttr]
    intro aa w' _ _
    have : okSt s = false := by unfold okSt goneB; rw [chain_no (bad := goneBad) (p := none) hv hbad]; simp
    unfold errSt
    rw [this]
    rfl
 ·have q1 : decide ((i : Int) < (s.gone.length : Int)) = false := decide_eq_false (by omega)
  have k2 : goneB s.gone = true := chain_ok fun k x hk => hno k x (by have := (List.getElem?_eq_some_iff.1 hk).1; omega) hk
  simp only [go_sem, simprocAttr, q1]
  refine pk (makeMap_does rfl (dk rfl)) ?_
  rintro _ ⟨g, G3, rfl⟩
  simp only [go_sem, simprocAttr]
  refine pk (call_does (fun r _ => r = .bool (bktsB s.bkts)) rfl rfl (by kernel_rfl) rfl (dk rfl) (fun G hG => buckets_does hG.wf (Sq.mono hP.bkts bktG_mono (hG.le G0 (by simp))))) ?_
  rintro _ ⟨_, G4, rfl, hn4, rfl⟩
  clear hn4
  simp only [go_sem, simprocAttr]
  refine Wb_mk (fun hb => ?_) (fun hb => ?_)
  ·have hbo := bkts_ordered hb
   have hbn : s.bkts.length ≤ 1000000 := by have := bkts_len hb; omega
   have hu0 : UsedOk [] := ⟨List.nodup_nil, fun x hx => by cases hx⟩
   simp only [go_sem, simprocAttr, hb]
   refine pk (callH_does ([]) ([]) ([usedR g []]) ([]) (fun r _ R _ => r = .bool (versB s []).1 ∧ R = [usedR g (versB s []).2]) upV rfl rfl (by kernel_rfl) rfl (dk rfl) rfl rfl (by simp [ids, Diff]) (by simp) (fun G hG hh hM => versions_does hG.wf hh hM (Sq.mono hP.bkts bktG_mono (hG.le G0 (by simp))) (Sq.mono hP.vers verG_mono (hG.le G0 (by simp))) (IntsG.mono hP.gone (hG.le G0 (by simp))) hbo hbn hu0) (fun v css R G _ _ => upV_den css)) ?_
   rintro _ ⟨_, css, _, G5, ⟨rfl, rfl⟩, hcs, hle, rfl⟩
   simp only [go_sem, simprocAttr, hb]
   refine Wb_mk (fun hv => ?_) (fun hv => ?_)
   ·have hu1 : UsedOk (versB s []).2 := versB_ok s [] hu0
    have hvo := vers_ordered hv
    have hvn : s.vers.length ≤ 1000000 := by have := vers_len hv; omega
    simp only [go_sem, simprocAttr, hb, hv]
    refine pk (callH_does ([]) ([]) ([usedR g (versB s []).2]) ([]) (fun r _ R _ => r = .bool (uplsB s (versB s []).2).1 ∧ R = [usedR g (uplsB s (versB s []).2).2]) upV rfl rfl (by kernel_rfl) rfl (dk rfl) rfl rfl (by simp [ids, Diff]) (by simp) (fun G hG hh hM => uploads_does hG.wf hh hM (Sq.mono hP.bkts bktG_mono (hG.le G0 (by simp))) (Sq.mono hP.upls uplG_mono (hG.le G0 (by simp))) hbo hbn hu1) (fun v css R G _ _ => upV_den css)) ?_
    rintro _ ⟨_, css6, _, G6, ⟨rfl, rfl⟩, hcs6, hle6, rfl⟩
    clear hcs hle hcs6 hle6
    simp only [go_sem, simprocAttr, hb, hv]
    refine Wb_mk (fun hx => ?_) (fun hx => ?_)
    ·simp only [go_sem, simprocAttr, hb, hv, hx]
     refine pk (call_does (fun r _ => r = .bool (queueB s)) rfl rfl (by kernel_rfl) rfl (dk rfl) (fun G hG => queue_does hG.wf (Sq.mono hP.vers verG_mono (hG.le G0 (by simp))) (Sq.mono hP.queue askG_mono (hG.le G0 (by simp))) hvo hvn)) ?_
     rintro _ ⟨_, G7, rfl, hn7, rfl⟩
     clear hn7
     simp only [go_sem, simprocAttr, hb, hv, hx]
     refine Wb_mk (fun hq => ?_) (fun hq => ?_)
     ·have hno9 := nt hq
      refine fin_ret (G := G0) Tryz.results26 ?_
      simp only [go_sem, simprocAttr]
      intro aa w' _ _
      have : okSt s = false := by unfold okSt; simp only [hno9, Bool.and_false, Bool.false_and]
      unfold errSt
      rw [this]
      rfl
     ·have hq' := nf hq
      refine fin_ret (G := G0) Tryz.results26 ?_
      simp only [go_sem, simprocAttr]
      intro aa w' _ _
      have : okSt s = true := by unfold okSt; simp only [k1, k2, hb, hv, hx, hq', Bool.not_false, Bool.and_self]
      unfold errSt
      rw [this]
      rfl
    ·have hno9 := hx
     simp only [go_sem, simprocAttr, hb, hv, hx]
     refine fin_ret (G := G0) Tryz.results26 ?_
     simp only [go_sem, simprocAttr]
     intro aa w' _ _
     have : okSt s = false := by unfold okSt; simp only [hno9, Bool.and_false, Bool.false_and]
     unfold errSt
     rw [this]
     rfl
   ·have hno9 := hv
    simp only [go_sem, simprocAttr, hb, hv]
    refine fin_ret (G := G0) Tryz.results26 ?_
    simp only [go_sem, simprocAttr]
    intro aa w' _ _
    have : okSt s = false := by unfold okSt; simp only [hno9, Bool.and_false, Bool.false_and]
    unfold errSt
    rw [this]
    rfl
  ·have hno9 := hb
   simp only [go_sem, simprocAttr, hb]
   refine fin_ret (G := G0) Tryz.results26 ?_
   simp only [go_sem, simprocAttr]
   intro aa w' _ _
   have : okSt s = false := by unfold okSt; simp only [hno9, Bool.and_false, Bool.false_and]
   unfold errSt
   rw [this]
   rfl
end Go.Proofs.YtohdfcnjcpjdcaaGreat
