/- queue. Conditions: as each law states them. -/
import Derived.Test.YtohdfcnjcpjdcaaGreatS11w
namespace Go.Proofs.YtohdfcnjcpjdcaaGreat
open Go.RowKit
set_option linter.unusedSimpArgs false
/-- none is bad where it stands -/
def allI {α : Type} (bad : Nat → α → Bool) (l : List α) : Bool := (List.range l.length).all fun i => match l[i]? with
 | some a => !bad i a
 | none => true
theorem allI_true {α : Type} {bad : Nat → α → Bool} {l : List α} (h : ∀ i a, l[i]? = some a → bad i a = false) : allI bad l = true := by
 unfold allI
 rw [List.all_eq_true]
 intro i _
 cases hi : l[i]? with
 | none => rfl
 | some a => simp [h i a hi]
theorem allI_at {α : Type} {bad : Nat → α → Bool} {l : List α} (h : allI bad l = true) {i : Nat} {a : α} (hi : l[i]? = some a) : bad i a = false := by
 unfold allI at h
 rw [List.all_eq_true] at h
 have := h i (by simp; exact (List.getElem?_eq_some_iff.1 hi).1)
 rw [hi] at this
 simpa using this
theorem allI_false {α : Type} {bad : Nat → α → Bool} {l : List α} {i : Nat} {a : α} (hi : l[i]? = some a) (hb : bad i a = true) : allI bad l = false := by
 cases h : allI bad l with
 | false => rfl
 | true => rw [allI_at h hi] at hb; cases hb
def tierO : Option Ver → Int
 | some v => v.tier
 | none => 0
def tierAt (s : Sta) (t : Int) : Int := tierO s.vers[verAt s t]?
def askOut (s : Sta) (a : Ask) : Bool := ((((!verIn s a.ver || !decide (tierAt s a.ver = 2)) || decide (a.days < 1)) || decide (1000 < a.days)) || decide (a.cls < 0)) || decide (2 < a.cls)
def askTwice (s : Sta) (i : Nat) (a : Ask) : Bool := (s.queue.take i).any fun b => decide (b.ver = a.ver)
def queueB (s : Sta) : Bool := allI (fun i a => askOut s a || askTwice s i a) s.queue && decide ((s.queue.length : Int) ≤ 10)
theorem hit_some {α : Type} {lt eq : α → Bool} {l : List α} (h : hit lt eq l = true) : ∃ x, l[ahead lt l]? = some x ∧ eq x = true := by
 unfold hit at h
 cases hx : l[ahead lt l]? with
 | none => rw [hx] at h; cases h
 | some x => rw [hx] at h; exact ⟨x, rfl, h⟩
set_option maxRecDepth 100000 in
set_option maxHeartbeats 4000000 in
theorem queue1_does {x a : Ask} {g : Nat} {G0 : GW} (hW : G0.Wf) (hb : BlkG G0 g [.int .i64 a.ver, .int .i64 a.days, .int .i64 a.cls]) :
  Calls Tryz.prog 114 #[.agg #[.int .i64 x.ver, .int .i64 x.days, .int .i64 x.cls], .pointer (some ⟨g, 0, none⟩)] G0.w (Ret G0 fun v _ => v = .bool (decide (x.ver = a.ver))) := by
 refine enterV (G := G0) (n := 9) 3000 [.c (.v (.agg #[.int .i64 x.ver, .int .i64 x.days, .int .i64 x.cls])), .c (.q 0 g 0 0)] [⟨0, g, 0, [.int .i64 a.ver, .int .i64 a.days, .int .i64 a.cls]⟩] hb.vw hW Tryz.func114 rfl Tryz.ntmps114 (by simp) ?_
 simp only [go_sem, simprocAttr]
 intro g1
 refine fin_ret (G := G0) Tryz.results114 ?_
 simp only [go_sem, simprocAttr]
 intro aa w' _ _
 rfl
set_option maxRecDepth 100000 in
set_option maxHeartbeats 16000000 in
theorem queue_does {s : Sta} {b x up q gv : Value} {G0 : GW} (hW : G0.Wf) (hx : VersG G0 x s.vers) (hq : AsksG G0 q s.queue) (hvo : ∀ t, Ordered (ltVer t) s.vers) (hvn : s.vers.length ≤ 1000000) :
  Calls Tryz.prog 74 #[.agg #[.int .i64 s.next, .int .i64 s.clock, b, x, up, q, gv]] G0.w (Ret G0 fun r _ => r = .bool (queueB s)) := by
 obtain ⟨A, c, rfl, hc1, hc2⟩ := Sq.form hq
 obtain ⟨Av, cv, rfl, hv1, hv2⟩ := Sq.form hx
 have hml := max_le
 refine enterS (G := G0) (n := 64) 3000 hW Tryz.func74 rfl Tryz.ntmps74 (by simp) ?_
 simp only [go_sem, simprocAttr]
 intro g1
 refine loop_ok (N := 3000) (ι := Nat) (fun i => ⟨[(1, .c (.p 0 g1 0)), (8, .c (.v (.slice A s.queue.length c))), (9, .c (.v (.int .i64 (s.queue.length : Int)))), (10, .c (.v (.int .i64 (i : Int))))],
   [⟨0, g1, 30, [.v (.int .i64 s.next), .v (.int .i64 s.clock), .v b, .v (.slice Av s.vers.length cv), .v up, .v (.slice A s.queue.length c), .v gv]⟩], [], [], [G0], 1⟩)
  (fun i => i ≤ s.queue.length ∧ ∀ k a, k < i → s.queue[k]? = some a → (askOut s a || askTwice s k a) = false)
  (fun i => s.queue.length - i) (QOk_body _ _ _) 0 ⟨by omega, fun k a hk => absurd hk (by omega)⟩ (by simp only [go_sem, simprocAttr]; simp) ?_
 rintro i ⟨hi, hno⟩
 by_cases hlt : i < s.queue.length
 ·have q1 : decide ((i : Int) < (s.queue.length : Int)) = true := decide_eq_true (by omega)
  obtain ⟨a, ha⟩ : ∃ a, s.queue[i]? = some a := ⟨_, List.getElem?_eq_getElem hlt⟩
  simp only [go_sem, simprocAttr, q1]
  refine pk (elem_does (R := AskG) (l := s.queue) (m := i) rfl tySlice27 tySize68 rfl rfl (dk rfl) rfl ha (fun G hG => Sq.mono hq askG_mono (hG.le G0 (by simp)))) ?_
  rintro _ ⟨g2, o', cs, G2, hcl, hcs, rfl⟩
  obtain rfl := hcs
  simp only [go_sem, simprocAttr]
  intro g3
  refine pk (call_does (fun r _ => r = .tuple #[.int .i64 (verAt s a.ver : Int), .bool (verIn s a.ver)]) rfl rfl (by kernel_rfl) rfl (dk rfl) (fun G hG => version_does hG.wf (Sq.mono hx verG_mono (hG.le G0 (by simp))) (hvo _) hvn)) ?_
  rintro _ ⟨_, G3, rfl, hn3, rfl⟩
  clear hn3
  simp only [go_sem, simprocAttr]
  refine Wb_mk (fun hin => ?_) (fun hin => ?_)
  ·obtain ⟨v, hv, _⟩ := hit_some hin
   have ht : tierAt s a.ver = v.tier := by unfold tierAt; rw [show s.vers[verAt s a.ver]? = some v from hv]; rfl
   simp only [go_sem, simprocAttr, hin]
   refine pk (elem_does (R := VerG) (l := s.vers) (m := verAt s a.ver) rfl tySlice25 tySize38 rfl rfl (dk rfl) rfl hv (fun G hG => Sq.mono hx verG_mono (hG.le G0 (by simp)))) ?_
   rintro _ ⟨g4, o4, cs4, G4, hcl4, ⟨sv, rfl, _⟩, rfl⟩
   have e1 : askOut s a = (((((!decide (v.tier = 2)) || decide (a.days < 1)) || decide (1000 < a.days)) || decide (a.cls < 0)) || decide (2 < a.cls)) := by unfold askOut; rw [hin, ht]; rfl
   simp only [go_sem, simprocAttr, verV, hin]
   refine Wb_mk (fun h4 => ?_) (fun h4 => ?_)
   ·have hbad : askOut s a = true := by rw [e1]; exact h4
    refine fin_ret (G := G0) Tryz.results74 ?_
    simp only [go_sem, simprocAttr]
    intro aa w' _ _
    unfold queueB
    rw [allI_false ha (by simp only [hbad, Bool.true_or])]
    rfl
   ·have hgood : askOut s a = false := by rw [e1]; exact h4
    refine pk (cutq_does (R := AskG) (l := s.queue) (m := i) rfl rfl tySlice27 tySize68 rfl ⟨_, _, rfl, by omega⟩ (dk rfl) hi hc1) ?_
    rintro _ ⟨A', hA', rfl⟩
    simp only [go_sem, simprocAttr, hin]
    refine pk (call_does (fun r _ => r = .bool (askTwice s i a)) rfl rfl (by kernel_rfl) rfl (dk rfl) (fun G hG => Ret.anyM (M' := (G.sub [g3]).M) (containsAsk_does (G0 := G.sub [g3]) (p := fun b => decide (b.ver = a.ver)) (hG.wf.sub [g3]) (hA' _ (Sq.mono hq askG_mono ((hG.le G0 (by simp)).trans (GW.le_sub _ _)))) (by kernel_rfl) (fun G' x hx hl hw => queue1_does hw ((hG.blkG (b := ⟨2, g3, 68, [.v (.int .i64 a.ver), .v (.int .i64 a.days), .v (.int .i64 a.cls)]⟩) (ks := [g3]) (by simp) (by simp)).mono hl))))) ?_
    rintro _ ⟨_, G5, rfl, hn5, rfl⟩
    clear hn5
    simp only [go_sem, simprocAttr, hin]
    refine Wb_mk (fun h6 => ?_) (fun h6 => ?_)
    ·refine fin_ret (G := G0) Tryz.results74 ?_
     simp only [go_sem, simprocAttr]
     intro aa w' _ _
     unfold queueB
     rw [allI_false ha (by simp only [h6, Bool.or_true])]
     rfl
    ·refine ⟨by omega, ?_⟩
     refine again_ok (i + 1) ⟨hlt, fun k y hk hy => ?_⟩ (by omega) (by simp only [go_sem, simprocAttr]; simp)
     by_cases e : k = i
     ·subst e
      rw [ha] at hy; cases hy
      rw [hgood, h6]; rfl
     ·exact hno k y (by omega) hy
  ·have hbad : askOut s a = true := by unfold askOut; rw [hin]; rfl
   simp only [go_sem, simprocAttr, hin]
   refine fin_ret (G := G0) Tryz.results74 ?_
   simp only [go_sem, simprocAttr]
   intro aa w' _ _
   unfold queueB
   rw [allI_false ha (by simp only [hbad, Bool.true_or])]
   rfl
 ·have q1 : decide ((i : Int) < (s.queue.length : Int)) = false := decide_eq_false (by omega)
  simp only [go_sem, simprocAttr, q1]
  refine fin_ret (G := G0) Tryz.results74 ?_
  simp only [go_sem, simprocAttr]
  intro aa w' _ _
  unfold queueB
  rw [allI_true fun k a hk => hno k a (by have := (List.getElem?_eq_some_iff.1 hk).1; omega) hk]
  rfl
end Go.Proofs.YtohdfcnjcpjdcaaGreat
