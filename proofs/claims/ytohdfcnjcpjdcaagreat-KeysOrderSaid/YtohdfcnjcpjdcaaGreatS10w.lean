/- uploads. Conditions: as each law states them. -/
import Derived.Test.YtohdfcnjcpjdcaaGreatS9w
namespace Go.Proofs.YtohdfcnjcpjdcaaGreat
open Go.RowKit
set_option linter.unusedSimpArgs false
def uplOut0 (s : Sta) (x : Upl) : Bool := !bktIn s x.bucket
def uplOut (s : Sta) (x : Upl) : Bool := ((!bktIn s x.bucket || !decide (nameErr x.key 16 = 0)) || decide (x.id < 1)) || decide (s.next ≤ x.id)
def uplGe (p : Option Upl) (x : Upl) : Bool := match p with
 | none => false
 | some q => decide (x.id ≤ q.id)
def prtOut (p : Prt) : Bool := ((decide (p.n < 1) || decide (5 < p.n)) || decide (p.size < 0)) || decide (600 < p.size)
def prtGe (p : Option Prt) (x : Prt) : Bool := match p with
 | none => false
 | some q => decide (x.n ≤ q.n)
def prtsU : Option Prt → List Int → List Prt → Bool × List Int
 | _, u, [] => (true, u)
 | p, u, x :: r => if prtOut x = true then (false, u) else if (!(takeU u x.secs x.size).1 || prtGe p x) = true then (false, (takeU u x.secs x.size).2) else prtsU (some x) (takeU u x.secs x.size).2 r
def uplsU (s : Sta) : Option Upl → List Int → List Upl → Bool × List Int
 | _, u, [] => (true, u)
 | p, u, x :: r => if (uplOut s x || uplGe p x) = true then (false, u) else if (prtsU none u x.parts).1 = true then uplsU s (some x) (prtsU none u x.parts).2 r else (false, (prtsU none u x.parts).2)
def uplsB (s : Sta) (u : List Int) : Bool × List Int := ((uplsU s none u s.upls).1 && decide ((s.upls.length : Int) ≤ 4), (uplsU s none u s.upls).2)
set_option maxRecDepth 100000 in
set_option maxHeartbeats 32000000 in
theorem uploads_does {g : Nat} {u : List Int} {s : Sta} {b x up q gv : Value} {G0 : GW} (hW : G0.Wf) (hh : HandsOk G0.w ⟨[], [usedR g u]⟩) (hM : ∀ k, Hands.A ⟨[], [usedR g u]⟩ k → G0.M k) (hb : BktsG G0 b s.bkts) (hx : UplsG G0 up s.upls) (hbo : ∀ t, Ordered (ltBkt t) s.bkts) (hbn : s.bkts.length ≤ 1000000) (hu : UsedOk u) :
  Calls Tryz.prog 73 #[.agg #[.int .i64 s.next, .int .i64 s.clock, b, x, up, q, gv], .map (some g)] G0.w (RetH G0 ⟨[], [usedR g u]⟩ fun r _ R _ => r = .bool (uplsB s u).1 ∧ R = [usedR g (uplsB s u).2]) := by
 obtain ⟨A, c, rfl, hc1, hc2⟩ := Sq.form hx
 have hml := max_le
 refine enterH (n := 119) 3000 ([.c (.v (.agg #[.int .i64 s.next, .int .i64 s.clock, b, x, .slice A s.upls.length c, q, gv])), .c (.v (.map (some g)))]) ([]) rfl hW hh hM Tryz.func73 rfl Tryz.ntmps73 (by simp) ?_
 simp only [go_sem, simprocAttr]
 intro g1
 refine loop_ok (N := 3000) (ι := Nat × List Int) (fun i => match i with | (i, ui) => ⟨[(1, .c (.v (.map (some g)))), (2, .c (.p 0 g1 0)), (12, .c (.v (.slice A s.upls.length c))), (13, .c (.v (.int .i64 (s.upls.length : Int)))), (14, .c (.v (.int .i64 (i : Int))))],
   [⟨0, g1, 30, [.v (.int .i64 s.next), .v (.int .i64 s.clock), .v b, .v x, .v (.slice A s.upls.length c), .v q, .v gv]⟩], [usedR g ui], [], [G0], 1⟩)
  (fun i => match i with | (i, ui) => i ≤ s.upls.length ∧ uplsU s none u s.upls = uplsU s (prevO s.upls i) ui (s.upls.drop i) ∧ UsedOk ui)
  (fun i => s.upls.length - i.1) (QOk_body _ _ _) (0, u) ⟨by omega, by simp [prevO], hu⟩ (by simp only [go_sem, simprocAttr]; simp) ?_
 rintro ⟨i, ui⟩ ⟨hi, hT, hu1⟩
 simp only
 by_cases hlt : i < s.upls.length
 ·have q1 : decide ((i : Int) < (s.upls.length : Int)) = true := decide_eq_true (by omega)
  obtain ⟨v, hv⟩ : ∃ v, s.upls[i]? = some v := ⟨_, List.getElem?_eq_getElem hlt⟩
  rw [drop_cons hv] at hT
  simp only [go_sem, simprocAttr, q1]
  refine pk (elem_does (R := UplG) (l := s.upls) (m := i) rfl tySlice26 tySize89 rfl rfl (dk rfl) rfl hv (fun G hG => Sq.mono hx uplG_mono (hG.le G0 (by simp)))) ?_
  rintro _ ⟨g2, o', cs, G2, hcl, ⟨pv, rfl, hpv, hk1, hk2⟩, rfl⟩
  obtain ⟨Ap, cp, rfl, hcp, _⟩ := Sq.form hpv
  simp only [go_sem, simprocAttr]
  intro g3
  refine pk (call_does (fun r _ => r = .tuple #[.int .i64 (bktAt s v.bucket : Int), .bool (bktIn s v.bucket)]) rfl rfl (by kernel_rfl) rfl (dk rfl) (fun G hG => bucket_does hG.wf (Sq.mono hb bktG_mono (hG.le G0 (by simp))) (hbo _) hbn)) ?_
  rintro _ ⟨_, G3, rfl, hn3, rfl⟩
  clear hn3
  by_cases hi0 : i = 0
  ·have q0 : decide (0 < (i : Int)) = false := decide_eq_false (by omega)
   have hp : prevO s.upls i = none := by unfold prevO; rw [if_pos hi0]
   simp only [go_sem, simprocAttr, q0]
   refine draw_ok (N := 3000) (.take 0 (.take 1 (.take 2 (.take 3 (.take 4 (.alt 5 (.take 6 (.take 7 (.take 8 (.take 9 (.take 10 (.take 11 (.take 12 (.take 13 (.take 14 (.take 15 (.take 16 (.take 17 (.take 18 (.take 19 (.take 20 (.take 21 (.take 22 (.take 23 (.take 24 (.take 25 (.take 26 (.take 27 (.take 28 (.take 29 (.take 30 (.take 31 (.take 32 (.take 33 (.take 34 (.take 35 .done)))))))))))))))))))))))))))))) .last)))))) [] (QOk_body _ _ _) follows_mixed (by kernel_rfl) (by kernel_rfl) ?_
   simp only [go_sem, simprocAttr, q0]
   refine Wb_mk (fun hbi => ?_) (fun hbi => ?_)
   ·simp only [go_sem, simprocAttr, q0, hbi]
    refine anyc_ok (N := 3000) (call_does (fun r _ => r = .int .i64 (nameErr v.key 16)) rfl rfl (by kernel_rfl) rfl (dk rfl) (fun G hG => checkKey_does hG.wf hk2)) (QOk_body _ _ _) rfl (by first | exact .inl rfl | exact .inr ⟨_, _, rfl, rfl⟩) ?_
    rintro _ ⟨_, G4, rfl, hn4, rfl⟩
    clear hn4
    have e1 : uplOut s v = ((!decide (nameErr v.key 16 = 0) || decide (v.id < 1)) || decide (s.next ≤ v.id)) := by unfold uplOut; rw [hbi]; rfl
    simp only [go_sem, simprocAttr, q0, hbi]
    refine Wb_mk (fun h4 => ?_) (fun h4 => ?_)
    ·have hbad : (uplOut s v || uplGe (prevO s.upls i) v) = true := by rw [e1, h4]; rfl
     refine fin_retH (G := G0) Tryz.results73 ?_
     simp only [go_sem, simprocAttr]
     intro aa w' _ _
     unfold uplsB
     rw [hT]
     simp only [uplsU, hbad, if_true]
     first | exact ⟨rfl, rfl⟩ | exact ⟨rfl, trivial⟩ | trivial
    ·have hgood : (uplOut s v || uplGe (prevO s.upls i) v) = false := by rw [e1, h4, hp]; rfl
     refine loop_ok (N := 3000) (ι := Nat × List Int) (fun i2 => match i2 with | (k, uk) => ⟨[(1, .c (.v (.map (some g)))), (2, .c (.p 0 g1 0)), (6, .c (.p 2 g3 0)), (12, .c (.v (.slice A s.upls.length c))), (13, .c (.v (.int .i64 (s.upls.length : Int)))), (14, .c (.v (.int .i64 (i : Int)))), (63, .c (.v (.slice Ap v.parts.length cp))), (64, .c (.v (.int .i64 (v.parts.length : Int)))), (65, .c (.v (.int .i64 (k : Int))))],
       [⟨2, g3, 89, [.v (.int .i64 v.id), .v (.string v.bucket), .v (.string v.key), .v (.slice Ap v.parts.length cp)]⟩, ⟨0, g1, 30, [.v (.int .i64 s.next), .v (.int .i64 s.clock), .v b, .v x, .v (.slice A s.upls.length c), .v q, .v gv]⟩], [usedR g uk], [], [G2, G0], 10⟩)
      (fun i2 => match i2 with | (k, uk) => k ≤ v.parts.length ∧ prtsU none ui v.parts = prtsU (prevO v.parts k) uk (v.parts.drop k) ∧ UsedOk uk)
      (fun i2 => v.parts.length - i2.1) (QOk_body _ _ _) (0, ui) ⟨by omega, by simp [prevO], hu1⟩ (by simp only [go_sem, simprocAttr]; simp) ?_
     rintro ⟨k, uk⟩ ⟨hk, hT2, huk⟩
     simp only
     by_cases hlt2 : k < v.parts.length
     ·have q2 : decide ((k : Int) < (v.parts.length : Int)) = true := decide_eq_true (by omega)
      obtain ⟨w, hw⟩ : ∃ w, v.parts[k]? = some w := ⟨_, List.getElem?_eq_getElem hlt2⟩
      rw [drop_cons hw] at hT2
      simp only [go_sem, simprocAttr, q2]
      refine pk (elem_does (R := PrtG) (l := v.parts) (m := k) rfl tySlice87 tySize70 rfl rfl (dk rfl) rfl hw (fun G hG => Sq.mono hpv prtG_mono (hG.le G2 (by simp)))) ?_
      rintro _ ⟨g4, o4, cs4, G5, hcl4, ⟨spv, rfl, hspv⟩, rfl⟩
      obtain ⟨As, cas, rfl, _⟩ := Sq.form hspv
      simp only [go_sem, simprocAttr]
      intro g5
      obtain ⟨tb, ut, htk⟩ : ∃ tb ut, takeU uk w.secs w.size = (tb, ut) := ⟨_, _, rfl⟩
      have hut : UsedOk ut := by have := takeU_ok w.secs uk w.size huk; rw [htk] at this; exact this
      by_cases hk0 : k = 0
      ·have q3 : decide (0 < (k : Int)) = false := decide_eq_false (by omega)
       have hp2 : prevO v.parts k = none := by unfold prevO; rw [if_pos hk0]
       refine draw_ok (N := 3000) (.take 0 (.take 1 (.take 2 (.take 3 (.take 4 (.take 5 (.take 6 (.take 7 (.take 8 (.take 9 (.take 10 (.take 11 (.take 12 (.take 13 (.take 14 (.take 15 (.take 16 (.take 17 (.take 18 (.take 19 (.take 20 (.take 21 (.take 22 (.take 23 (.alt 24 (.take 25 (.take 26 (.take 27 (.take 28 (.take 29 (.take 30 (.take 31 (.take 32 (.take 33 (.take 34 (.take 35 (.take 36 (.take 37 (.take 38 (.take 39 (.take 40 (.take 41 (.take 42 .done)))))))))))))))))) .last))))))))))))))))))))))))) [] (QOk_body _ _ _) follows_mixed (by kernel_rfl) (by kernel_rfl) ?_
       simp only [go_sem, simprocAttr, q3]
       refine Wb_mk (fun h5 => ?_) (fun h5 => ?_)
       ·have h6 : prtOut w = false := nt h5
        have h6' := h6
        unfold prtOut at h6'
        have hsz : 0 ≤ w.size ∧ w.size ≤ 600 := by
         simp only [Bool.or_eq_false_iff, decide_eq_false_iff_not] at h6'
         omega
        simp only [go_sem, simprocAttr, q3, h6']
        refine anyH_ok (N := 3000) (callH_does [] [] [usedR g uk] [] (fun r _ R _ => r = .bool tb ∧ R = [usedR g ut]) upV rfl rfl (by kernel_rfl) rfl (dk rfl) rfl rfl (by simp [ids, Diff]) (by simp) (fun G hG hh hM => RetH.mono (take_does hG.wf hh hM (IntsG.mono hspv (hG.le G5 (by simp))) huk.1 huk.2 hsz.1 (by omega)) (fun v css R G' h => by rw [htk] at h; exact h)) (fun v css R G _ _ => upV_den css)) (QOk_body _ _ _) rfl (by first | exact .inl rfl | exact .inr ⟨_, _, rfl, rfl⟩) ?_
        rintro _ ⟨_, _, G6, ⟨rfl, rfl⟩, hle, rfl⟩
        clear hle
        simp only [go_sem, simprocAttr, q3, h6']
        refine Wb_mk (fun h7 => ?_) (fun h7 => ?_)
        ·have hP : prtsU none ui v.parts = (false, ut) := by rw [hT2]; simp only [prtsU, h6, htk, h7, Bool.true_or, Bool.false_eq_true, if_false, if_true]
         refine fin_retH (G := G0) Tryz.results73 ?_
         simp only [go_sem, simprocAttr]
         intro aa w' _ _
         unfold uplsB
         rw [hT]
         simp only [uplsU, hgood, hP, Bool.false_eq_true, if_false]
         first | exact ⟨rfl, rfl⟩ | exact ⟨rfl, trivial⟩ | trivial
        ·have hgood2 : (!tb || prtGe (prevO v.parts k) w) = false := by rw [h7, hp2]; rfl
         refine ⟨by omega, ?_⟩
         refine again_ok (k + 1, ut) ⟨hlt2, ?_, hut⟩ (by show v.parts.length - (k + 1) < v.parts.length - k; omega) (by simp only [go_sem, simprocAttr]; simp)
         rw [hT2, prevO_succ hw]
         simp only [prtsU, h6, htk, hgood2, Bool.false_eq_true, if_false]
       ·have h6 : prtOut w = true := nf h5
        have hP : prtsU none ui v.parts = (false, uk) := by rw [hT2]; simp only [prtsU, h6, if_true]
        have h6' := h6
        unfold prtOut at h6'
        simp only [go_sem, simprocAttr, q3, h6']
        refine fin_retH (G := G0) Tryz.results73 ?_
        simp only [go_sem, simprocAttr]
        intro aa w' _ _
        unfold uplsB
        rw [hT]
        simp only [uplsU, hgood, hP, Bool.false_eq_true, if_false]
        first | exact ⟨rfl, rfl⟩ | exact ⟨rfl, trivial⟩ | trivial
      ·have q3 : decide (0 < (k : Int)) = true := decide_eq_true (by omega)
       obtain ⟨y, hy⟩ : ∃ y, v.parts[k - 1]? = some y := ⟨_, List.getElem?_eq_getElem (by omega)⟩
       have hp2 : prevO v.parts k = some y := by unfold prevO; rw [if_neg hk0, hy]
       have hcast2 : (k : Int) - 1 = ((k - 1 : Nat) : Int) := by omega
       refine preview_ok (R := PrtG) (kc := 3) hy (fun G hG => (Sq.mono hpv prtG_mono (hG G2 (by simp))).sc) fun gy oy csy Gy hA hcly hcsy hley => ?_
       subst hA
       obtain ⟨svy, rfl, _⟩ := hcsy
       clear hley
       simp only [go_sem, simprocAttr]
       refine draw_ok (N := 3000) (.take 0 (.take 1 (.take 2 (.take 3 (.take 4 (.take 5 (.take 6 (.take 7 (.take 8 (.take 9 (.take 10 (.take 11 (.take 12 (.take 13 (.take 14 (.take 15 (.take 16 (.take 17 (.take 18 (.take 19 (.take 20 (.take 21 (.take 22 (.take 23 (.alt 24 (.take 25 (.take 26 (.take 27 (.take 28 (.take 29 (.take 30 (.take 31 (.take 32 (.take 33 (.take 34 (.take 35 (.take 36 (.take 37 (.take 38 (.take 39 (.take 40 (.take 41 (.take 42 .done)))))))))))))))))) .last))))))))))))))))))))))))) [] (QOk_body _ _ _) follows_mixed (by kernel_rfl) (by kernel_rfl) ?_
       simp only [go_sem, simprocAttr, q3]
       refine Wb_mk (fun h5 => ?_) (fun h5 => ?_)
       ·have h6 : prtOut w = false := nt h5
        have h6' := h6
        unfold prtOut at h6'
        have hsz : 0 ≤ w.size ∧ w.size ≤ 600 := by
         simp only [Bool.or_eq_false_iff, decide_eq_false_iff_not] at h6'
         omega
        simp only [go_sem, simprocAttr, q3, h6']
        refine anyH_ok (N := 3000) (callH_does [] [] [usedR g uk] [] (fun r _ R _ => r = .bool tb ∧ R = [usedR g ut]) upV rfl rfl (by kernel_rfl) rfl (dk rfl) rfl rfl (by simp [ids, Diff]) (by simp) (fun G hG hh hM => RetH.mono (take_does hG.wf hh hM (IntsG.mono hspv (hG.le G5 (by simp))) huk.1 huk.2 hsz.1 (by omega)) (fun v css R G' h => by rw [htk] at h; exact h)) (fun v css R G _ _ => upV_den css)) (QOk_body _ _ _) rfl (by first | exact .inl rfl | exact .inr ⟨_, _, rfl, rfl⟩) ?_
        rintro _ ⟨_, _, G6, ⟨rfl, rfl⟩, hle, rfl⟩
        clear hle
        simp only [go_sem, simprocAttr, q3, h6']
        refine ⟨fun _ => by omega, ?_⟩
        cases tb with
        | false =>
         simp only [go_sem, simprocAttr, q3]
         have hP : prtsU none ui v.parts = (false, ut) := by rw [hT2]; simp only [prtsU, h6, htk, Bool.not_false, Bool.true_or, Bool.false_eq_true, if_false, if_true]
         refine fin_retH (G := G0) Tryz.results73 ?_
         simp only [go_sem, simprocAttr]
         intro aa w' _ _
         unfold uplsB
         rw [hT]
         simp only [uplsU, hgood, hP, Bool.false_eq_true, if_false]
         first | exact ⟨rfl, rfl⟩ | exact ⟨rfl, trivial⟩ | trivial
        | true =>
         simp only [go_sem, simprocAttr, q3]
         refine take_elem 12 (m := k - 1) rfl tySlice87 tySize70 rfl rfl (dk rfl) hcast2 (by omega) ?_
         simp only [go_sem, simprocAttr, q3]
         refine Wb_mk (fun h7 => ?_) (fun h7 => ?_)
         ·have hP : prtsU none ui v.parts = (false, ut) := by
           have h8 : (!true || prtGe (prevO v.parts k) w) = true := by rw [hp2]; exact h7
           rw [hT2]
           simp only [prtsU, h6, htk, h8, Bool.false_eq_true, if_false, if_true]
          refine fin_retH (G := G0) Tryz.results73 ?_
          simp only [go_sem, simprocAttr]
          intro aa w' _ _
          unfold uplsB
          rw [hT]
          simp only [uplsU, hgood, hP, Bool.false_eq_true, if_false]
          first | exact ⟨rfl, rfl⟩ | exact ⟨rfl, trivial⟩ | trivial
         ·have hgood2 : (!true || prtGe (prevO v.parts k) w) = false := by rw [hp2]; exact h7
          refine ⟨by omega, ?_⟩
          refine again_ok (k + 1, ut) ⟨hlt2, ?_, hut⟩ (by show v.parts.length - (k + 1) < v.parts.length - k; omega) (by simp only [go_sem, simprocAttr]; simp)
          rw [hT2, prevO_succ hw]
          simp only [prtsU, h6, htk, hgood2, Bool.false_eq_true, if_false]
       ·have h6 : prtOut w = true := nf h5
        have hP : prtsU none ui v.parts = (false, uk) := by rw [hT2]; simp only [prtsU, h6, if_true]
        have h6' := h6
        unfold prtOut at h6'
        simp only [go_sem, simprocAttr, q3, h6']
        refine fin_retH (G := G0) Tryz.results73 ?_
        simp only [go_sem, simprocAttr]
        intro aa w' _ _
        unfold uplsB
        rw [hT]
        simp only [uplsU, hgood, hP, Bool.false_eq_true, if_false]
        first | exact ⟨rfl, rfl⟩ | exact ⟨rfl, trivial⟩ | trivial
     ·have q2 : decide ((k : Int) < (v.parts.length : Int)) = false := decide_eq_false (by omega)
      have e : v.parts.drop k = [] := List.drop_of_length_le (by omega)
      rw [e] at hT2
      have hP : prtsU none ui v.parts = (true, uk) := hT2
      simp only [go_sem, simprocAttr, q2]
      refine ⟨by omega, ?_⟩
      refine again_ok (i + 1, uk) ⟨hlt, ?_, huk⟩ (by show s.upls.length - (i + 1) < s.upls.length - i; omega) (by simp only [go_sem, simprocAttr]; simp)
      rw [hT, prevO_succ hv]
      simp only [uplsU, hgood, hP, Bool.false_eq_true, if_false, if_true]
   ·have hbad : (uplOut s v || uplGe (prevO s.upls i) v) = true := by unfold uplOut; rw [hbi]; rfl
    simp only [go_sem, simprocAttr, q0, hbi]
    refine fin_retH (G := G0) Tryz.results73 ?_
    simp only [go_sem, simprocAttr]
    intro aa w' _ _
    unfold uplsB
    rw [hT]
    simp only [uplsU, hbad, if_true]
    first | exact ⟨rfl, rfl⟩ | exact ⟨rfl, trivial⟩ | trivial
  ·have q0 : decide (0 < (i : Int)) = true := decide_eq_true (by omega)
   obtain ⟨y0, hy0⟩ : ∃ y, s.upls[i - 1]? = some y := ⟨_, List.getElem?_eq_getElem (by omega)⟩
   have hp : prevO s.upls i = some y0 := by unfold prevO; rw [if_neg hi0, hy0]
   have hcast : (i : Int) - 1 = ((i - 1 : Nat) : Int) := by omega
   simp only [go_sem, simprocAttr, q0]
   refine preview_ok (R := UplG) (kc := 4) hy0 (fun G hG => (Sq.mono hx uplG_mono (hG G0 (by simp))).sc) fun gz oz csz Gz hAz hclz hcsz hlez => ?_
   subst hAz
   obtain ⟨svz, rfl, _, _, _⟩ := hcsz
   clear hlez
   simp only [go_sem, simprocAttr]
   refine draw_ok (N := 3000) (.take 0 (.take 1 (.take 2 (.take 3 (.take 4 (.alt 5 (.take 6 (.take 7 (.take 8 (.take 9 (.take 10 (.take 11 (.take 12 (.take 13 (.take 14 (.take 15 (.take 16 (.take 17 (.take 18 (.take 19 (.take 20 (.take 21 (.take 22 (.take 23 (.take 24 (.take 25 (.take 26 (.take 27 (.take 28 (.take 29 (.take 30 (.take 31 (.take 32 (.take 33 (.take 34 (.take 35 .done)))))))))))))))))))))))))))))) .last)))))) [] (QOk_body _ _ _) follows_mixed (by kernel_rfl) (by kernel_rfl) ?_
   simp only [go_sem, simprocAttr, q0]
   refine Wb_mk (fun hbi => ?_) (fun hbi => ?_)
   ·simp only [go_sem, simprocAttr, q0, hbi]
    refine anyc_ok (N := 3000) (call_does (fun r _ => r = .int .i64 (nameErr v.key 16)) rfl rfl (by kernel_rfl) rfl (dk rfl) (fun G hG => checkKey_does hG.wf hk2)) (QOk_body _ _ _) rfl (by first | exact .inl rfl | exact .inr ⟨_, _, rfl, rfl⟩) ?_
    rintro _ ⟨_, G4, rfl, hn4, rfl⟩
    clear hn4
    have e1 : uplOut s v = ((!decide (nameErr v.key 16 = 0) || decide (v.id < 1)) || decide (s.next ≤ v.id)) := by unfold uplOut; rw [hbi]; rfl
    simp only [go_sem, simprocAttr, q0, hbi]
    refine ⟨fun _ => by omega, Wb_mk (fun h4 => ?_) (fun h4 => ?_)⟩
    ·have h4' := nt h4
     simp only [go_sem, simprocAttr, q0, hbi, h4']
     refine take_elem 3 (m := i - 1) rfl tySlice26 tySize89 rfl rfl (dk rfl) hcast (by omega) ?_
     simp only [go_sem, simprocAttr, q0, hbi, h4']
     refine Wb_mk (fun h9 => ?_) (fun h9 => ?_)
     ·have hbad : (uplOut s v || uplGe (prevO s.upls i) v) = true := by rw [e1, h4', hp]; exact h9
      refine fin_retH (G := G0) Tryz.results73 ?_
      simp only [go_sem, simprocAttr]
      intro aa w' _ _
      unfold uplsB
      rw [hT]
      simp only [uplsU, hbad, if_true]
      first | exact ⟨rfl, rfl⟩ | exact ⟨rfl, trivial⟩ | trivial
     ·have hgood : (uplOut s v || uplGe (prevO s.upls i) v) = false := by rw [e1, h4', hp]; exact h9
      refine loop_ok (N := 3000) (ι := Nat × List Int) (fun i2 => match i2 with | (k, uk) => ⟨[(1, .c (.v (.map (some g)))), (2, .c (.p 0 g1 0)), (6, .c (.p 2 g3 0)), (12, .c (.v (.slice (some ⟨gz, oz, none⟩) s.upls.length c))), (13, .c (.v (.int .i64 (s.upls.length : Int)))), (14, .c (.v (.int .i64 (i : Int)))), (63, .c (.v (.slice Ap v.parts.length cp))), (64, .c (.v (.int .i64 (v.parts.length : Int)))), (65, .c (.v (.int .i64 (k : Int))))],
        [⟨2, g3, 89, [.v (.int .i64 v.id), .v (.string v.bucket), .v (.string v.key), .v (.slice Ap v.parts.length cp)]⟩, ⟨0, g1, 30, [.v (.int .i64 s.next), .v (.int .i64 s.clock), .v b, .v x, .v (.slice (some ⟨gz, oz, none⟩) s.upls.length c), .v q, .v gv]⟩], [usedR g uk], [], [G2, G0], 10⟩)
       (fun i2 => match i2 with | (k, uk) => k ≤ v.parts.length ∧ prtsU none ui v.parts = prtsU (prevO v.parts k) uk (v.parts.drop k) ∧ UsedOk uk)
       (fun i2 => v.parts.length - i2.1) (QOk_body _ _ _) (0, ui) ⟨by omega, by simp [prevO], hu1⟩ (by simp only [go_sem, simprocAttr]; simp) ?_
      rintro ⟨k, uk⟩ ⟨hk, hT2, huk⟩
      simp only
      by_cases hlt2 : k < v.parts.length
      ·have q2 : decide ((k : Int) < (v.parts.length : Int)) = true := decide_eq_true (by omega)
       obtain ⟨w, hw⟩ : ∃ w, v.parts[k]? = some w := ⟨_, List.getElem?_eq_getElem hlt2⟩
       rw [drop_cons hw] at hT2
       simp only [go_sem, simprocAttr, q2]
       refine pk (elem_does (R := PrtG) (l := v.parts) (m := k) rfl tySlice87 tySize70 rfl rfl (dk rfl) rfl hw (fun G hG => Sq.mono hpv prtG_mono (hG.le G2 (by simp)))) ?_
       rintro _ ⟨g4, o4, cs4, G5, hcl4, ⟨spv, rfl, hspv⟩, rfl⟩
       obtain ⟨As, cas, rfl, _⟩ := Sq.form hspv
       simp only [go_sem, simprocAttr]
       intro g5
       obtain ⟨tb, ut, htk⟩ : ∃ tb ut, takeU uk w.secs w.size = (tb, ut) := ⟨_, _, rfl⟩
       have hut : UsedOk ut := by have := takeU_ok w.secs uk w.size huk; rw [htk] at this; exact this
       by_cases hk0 : k = 0
       ·have q3 : decide (0 < (k : Int)) = false := decide_eq_false (by omega)
        have hp2 : prevO v.parts k = none := by unfold prevO; rw [if_pos hk0]
        refine draw_ok (N := 3000) (.take 0 (.take 1 (.take 2 (.take 3 (.take 4 (.take 5 (.take 6 (.take 7 (.take 8 (.take 9 (.take 10 (.take 11 (.take 12 (.take 13 (.take 14 (.take 15 (.take 16 (.take 17 (.take 18 (.take 19 (.take 20 (.take 21 (.take 22 (.take 23 (.alt 24 (.take 25 (.take 26 (.take 27 (.take 28 (.take 29 (.take 30 (.take 31 (.take 32 (.take 33 (.take 34 (.take 35 (.take 36 (.take 37 (.take 38 (.take 39 (.take 40 (.take 41 (.take 42 .done)))))))))))))))))) .last))))))))))))))))))))))))) [] (QOk_body _ _ _) follows_mixed (by kernel_rfl) (by kernel_rfl) ?_
        simp only [go_sem, simprocAttr, q3]
        refine Wb_mk (fun h5 => ?_) (fun h5 => ?_)
        ·have h6 : prtOut w = false := nt h5
         have h6' := h6
         unfold prtOut at h6'
         have hsz : 0 ≤ w.size ∧ w.size ≤ 600 := by
          simp only [Bool.or_eq_false_iff, decide_eq_false_iff_not] at h6'
          omega
         simp only [go_sem, simprocAttr, q3, h6']
         refine anyH_ok (N := 3000) (callH_does [] [] [usedR g uk] [] (fun r _ R _ => r = .bool tb ∧ R = [usedR g ut]) upV rfl rfl (by kernel_rfl) rfl (dk rfl) rfl rfl (by simp [ids, Diff]) (by simp) (fun G hG hh hM => RetH.mono (take_does hG.wf hh hM (IntsG.mono hspv (hG.le G5 (by simp))) huk.1 huk.2 hsz.1 (by omega)) (fun v css R G' h => by rw [htk] at h; exact h)) (fun v css R G _ _ => upV_den css)) (QOk_body _ _ _) rfl (by first | exact .inl rfl | exact .inr ⟨_, _, rfl, rfl⟩) ?_
         rintro _ ⟨_, _, G6, ⟨rfl, rfl⟩, hle, rfl⟩
         clear hle
         simp only [go_sem, simprocAttr, q3, h6']
         refine Wb_mk (fun h7 => ?_) (fun h7 => ?_)
         ·have hP : prtsU none ui v.parts = (false, ut) := by rw [hT2]; simp only [prtsU, h6, htk, h7, Bool.true_or, Bool.false_eq_true, if_false, if_true]
          refine fin_retH (G := G0) Tryz.results73 ?_
          simp only [go_sem, simprocAttr]
          intro aa w' _ _
          unfold uplsB
          rw [hT]
          simp only [uplsU, hgood, hP, Bool.false_eq_true, if_false]
          first | exact ⟨rfl, rfl⟩ | exact ⟨rfl, trivial⟩ | trivial
         ·have hgood2 : (!tb || prtGe (prevO v.parts k) w) = false := by rw [h7, hp2]; rfl
          refine ⟨by omega, ?_⟩
          refine again_ok (k + 1, ut) ⟨hlt2, ?_, hut⟩ (by show v.parts.length - (k + 1) < v.parts.length - k; omega) (by simp only [go_sem, simprocAttr]; simp)
          rw [hT2, prevO_succ hw]
          simp only [prtsU, h6, htk, hgood2, Bool.false_eq_true, if_false]
        ·have h6 : prtOut w = true := nf h5
         have hP : prtsU none ui v.parts = (false, uk) := by rw [hT2]; simp only [prtsU, h6, if_true]
         have h6' := h6
         unfold prtOut at h6'
         simp only [go_sem, simprocAttr, q3, h6']
         refine fin_retH (G := G0) Tryz.results73 ?_
         simp only [go_sem, simprocAttr]
         intro aa w' _ _
         unfold uplsB
         rw [hT]
         simp only [uplsU, hgood, hP, Bool.false_eq_true, if_false]
         first | exact ⟨rfl, rfl⟩ | exact ⟨rfl, trivial⟩ | trivial
       ·have q3 : decide (0 < (k : Int)) = true := decide_eq_true (by omega)
        obtain ⟨y, hy⟩ : ∃ y, v.parts[k - 1]? = some y := ⟨_, List.getElem?_eq_getElem (by omega)⟩
        have hp2 : prevO v.parts k = some y := by unfold prevO; rw [if_neg hk0, hy]
        have hcast2 : (k : Int) - 1 = ((k - 1 : Nat) : Int) := by omega
        refine preview_ok (R := PrtG) (kc := 3) hy (fun G hG => (Sq.mono hpv prtG_mono (hG G2 (by simp))).sc) fun gy oy csy Gy hA hcly hcsy hley => ?_
        subst hA
        obtain ⟨svy, rfl, _⟩ := hcsy
        clear hley
        simp only [go_sem, simprocAttr]
        refine draw_ok (N := 3000) (.take 0 (.take 1 (.take 2 (.take 3 (.take 4 (.take 5 (.take 6 (.take 7 (.take 8 (.take 9 (.take 10 (.take 11 (.take 12 (.take 13 (.take 14 (.take 15 (.take 16 (.take 17 (.take 18 (.take 19 (.take 20 (.take 21 (.take 22 (.take 23 (.alt 24 (.take 25 (.take 26 (.take 27 (.take 28 (.take 29 (.take 30 (.take 31 (.take 32 (.take 33 (.take 34 (.take 35 (.take 36 (.take 37 (.take 38 (.take 39 (.take 40 (.take 41 (.take 42 .done)))))))))))))))))) .last))))))))))))))))))))))))) [] (QOk_body _ _ _) follows_mixed (by kernel_rfl) (by kernel_rfl) ?_
        simp only [go_sem, simprocAttr, q3]
        refine Wb_mk (fun h5 => ?_) (fun h5 => ?_)
        ·have h6 : prtOut w = false := nt h5
         have h6' := h6
         unfold prtOut at h6'
         have hsz : 0 ≤ w.size ∧ w.size ≤ 600 := by
          simp only [Bool.or_eq_false_iff, decide_eq_false_iff_not] at h6'
          omega
         simp only [go_sem, simprocAttr, q3, h6']
         refine anyH_ok (N := 3000) (callH_does [] [] [usedR g uk] [] (fun r _ R _ => r = .bool tb ∧ R = [usedR g ut]) upV rfl rfl (by kernel_rfl) rfl (dk rfl) rfl rfl (by simp [ids, Diff]) (by simp) (fun G hG hh hM => RetH.mono (take_does hG.wf hh hM (IntsG.mono hspv (hG.le G5 (by simp))) huk.1 huk.2 hsz.1 (by omega)) (fun v css R G' h => by rw [htk] at h; exact h)) (fun v css R G _ _ => upV_den css)) (QOk_body _ _ _) rfl (by first | exact .inl rfl | exact .inr ⟨_, _, rfl, rfl⟩) ?_
         rintro _ ⟨_, _, G6, ⟨rfl, rfl⟩, hle, rfl⟩
         clear hle
         simp only [go_sem, simprocAttr, q3, h6']
         refine ⟨fun _ => by omega, ?_⟩
         cases tb with
         | false =>
          simp only [go_sem, simprocAttr, q3]
          have hP : prtsU none ui v.parts = (false, ut) := by rw [hT2]; simp only [prtsU, h6, htk, Bool.not_false, Bool.true_or, Bool.false_eq_true, if_false, if_true]
          refine fin_retH (G := G0) Tryz.results73 ?_
          simp only [go_sem, simprocAttr]
          intro aa w' _ _
          unfold uplsB
          rw [hT]
          simp only [uplsU, hgood, hP, Bool.false_eq_true, if_false]
          first | exact ⟨rfl, rfl⟩ | exact ⟨rfl, trivial⟩ | trivial
         | true =>
          simp only [go_sem, simprocAttr, q3]
          refine take_elem 12 (m := k - 1) rfl tySlice87 tySize70 rfl rfl (dk rfl) hcast2 (by omega) ?_
          simp only [go_sem, simprocAttr, q3]
          refine Wb_mk (fun h7 => ?_) (fun h7 => ?_)
          ·have hP : prtsU none ui v.parts = (false, ut) := by
            have h8 : (!true || prtGe (prevO v.parts k) w) = true := by rw [hp2]; exact h7
            rw [hT2]
            simp only [prtsU, h6, htk, h8, Bool.false_eq_true, if_false, if_true]
           refine fin_retH (G := G0) Tryz.results73 ?_
           simp only [go_sem, simprocAttr]
           intro aa w' _ _
           unfold uplsB
           rw [hT]
           simp only [uplsU, hgood, hP, Bool.false_eq_true, if_false]
           first | exact ⟨rfl, rfl⟩ | exact ⟨rfl, trivial⟩ | trivial
          ·have hgood2 : (!true || prtGe (prevO v.parts k) w) = false := by rw [hp2]; exact h7
           refine ⟨by omega, ?_⟩
           refine again_ok (k + 1, ut) ⟨hlt2, ?_, hut⟩ (by show v.parts.length - (k + 1) < v.parts.length - k; omega) (by simp only [go_sem, simprocAttr]; simp)
           rw [hT2, prevO_succ hw]
           simp only [prtsU, h6, htk, hgood2, Bool.false_eq_true, if_false]
        ·have h6 : prtOut w = true := nf h5
         have hP : prtsU none ui v.parts = (false, uk) := by rw [hT2]; simp only [prtsU, h6, if_true]
         have h6' := h6
         unfold prtOut at h6'
         simp only [go_sem, simprocAttr, q3, h6']
         refine fin_retH (G := G0) Tryz.results73 ?_
         simp only [go_sem, simprocAttr]
         intro aa w' _ _
         unfold uplsB
         rw [hT]
         simp only [uplsU, hgood, hP, Bool.false_eq_true, if_false]
         first | exact ⟨rfl, rfl⟩ | exact ⟨rfl, trivial⟩ | trivial
      ·have q2 : decide ((k : Int) < (v.parts.length : Int)) = false := decide_eq_false (by omega)
       have e : v.parts.drop k = [] := List.drop_of_length_le (by omega)
       rw [e] at hT2
       have hP : prtsU none ui v.parts = (true, uk) := hT2
       simp only [go_sem, simprocAttr, q2]
       refine ⟨by omega, ?_⟩
       refine again_ok (i + 1, uk) ⟨hlt, ?_, huk⟩ (by show s.upls.length - (i + 1) < s.upls.length - i; omega) (by simp only [go_sem, simprocAttr]; simp)
       rw [hT, prevO_succ hv]
       simp only [uplsU, hgood, hP, Bool.false_eq_true, if_false, if_true]
    ·have h4' := nf h4
     have hbad : (uplOut s v || uplGe (prevO s.upls i) v) = true := by rw [e1, h4']; rfl
     simp only [go_sem, simprocAttr, q0, hbi, h4']
     refine fin_retH (G := G0) Tryz.results73 ?_
     simp only [go_sem, simprocAttr]
     intro aa w' _ _
     unfold uplsB
     rw [hT]
     simp only [uplsU, hbad, if_true]
     first | exact ⟨rfl, rfl⟩ | exact ⟨rfl, trivial⟩ | trivial
   ·have hbad : (uplOut s v || uplGe (prevO s.upls i) v) = true := by unfold uplOut; rw [hbi]; rfl
    simp only [go_sem, simprocAttr, q0, hbi]
    refine fin_retH (G := G0) Tryz.results73 ?_
    simp only [go_sem, simprocAttr]
    intro aa w' _ _
    unfold uplsB
    rw [hT]
    simp only [uplsU, hbad, if_true]
    first | exact ⟨rfl, rfl⟩ | exact ⟨rfl, trivial⟩ | trivial
 ·have q1 : decide ((i : Int) < (s.upls.length : Int)) = false := decide_eq_false (by omega)
  have e : s.upls.drop i = [] := List.drop_of_length_le (by omega)
  rw [e] at hT
  simp only [go_sem, simprocAttr, q1]
  refine fin_retH (G := G0) Tryz.results73 ?_
  simp only [go_sem, simprocAttr]
  intro aa w' _ _
  unfold uplsB
  rw [hT]
  exact ⟨rfl, rfl⟩
end Go.Proofs.YtohdfcnjcpjdcaaGreat
