/- Do all numbers of a list fit; may texts and lists be written: fits, names. Conditions: as each law states them. -/
import Derived.Test.YtohdfcnjcpjdcaaDoorQ3q
namespace Go.Proofs.YtohdfcnjcpjdcaaDoor
open Go.RowKit
set_option linter.unusedSimpArgs false
def StrG (_ : GW) (x : ByteArray) (cs : List Value) : Prop := cs = [.string x]
theorem strG_mono : MonoR StrG := fun _ _ _ _ _ h => h
def StrsG (G : GW) (v : Value) (l : List ByteArray) : Prop := Sq StrG 9 1 G v l
theorem StrsG.of {G : GW} {v : Value} {l : List ByteArray} (h : Sl G 9 1 l.length v (l.map Value.string)) : StrsG G v l := by
  refine ⟨l.map fun x => [Value.string x], ⟨by simp, by simp, fun i cs x h1 h2 => ?_⟩, ?_⟩
  · rw [List.getElem?_map, h2] at h1
    cases h1
    rfl
  · have : (l.map fun x => [Value.string x]).flatten = l.map Value.string := by
      clear h
      induction l with
      | nil => rfl
      | cons a r ih => simp [ih]
    rw [this]
    exact h
section
variable {P : Program} {E : Env} {σ : St}
/-- a block of the call's own, as a slice that nobody writes for the time of a call -/
theorem Now.slG {G : GW} (hn : Now E σ G) {b : Bl} (hb : b ∈ σ.blks) {ks : List Nat} (hk : b.g ∈ ks) {m k : Nat} (hl : b.cs.length = m * k) (h : m ≤ maxLen) : Sl (G.sub ks) b.t k m (.slice (some ⟨b.g, 0, none⟩) m m) (b.cs.map SC.den) := by
  refine ⟨_, m, rfl, Nat.le_refl _, h, by simpa using hl, fun _ => ⟨b.g, 0, dens b.cs, (0, 0), rfl, fun q => q.2 hk, hn.blks b hb, fun j u hj => ?_⟩⟩
  rw [Nat.zero_add]
  simpa [dens] using hj
end
set_option maxRecDepth 100000 in
set_option maxHeartbeats 8000000 in
theorem indexI' {l : List Int} {lv : Value} {f : FuncId} {caps : Array Value} {p : Int → Bool} {G0 : GW} (hW : G0.Wf) (h : Sq IntG 3 1 G0 lv l) (hf : isFn Tryd.prog f = true) (hc : ∀ G x, x ∈ l → G0.Le G → G.Wf → Calls Tryd.prog f (#[.int .i64 x] ++ caps) G.w (Ret G fun v _ => v = .bool (p x))) :
    Calls Tryd.prog 37 #[lv, .func (.func f) #[] caps] G0.w (Ret G0 fun v _ => ∃ i : Int, v = .int .i64 i ∧ decide (0 ≤ i) = l.any p) := by
  obtain ⟨A, c, rfl, hc1, hc2⟩ := Sq.form h
  have hml := max_le
  refine enterS (G := G0) (n := 19) 3000 hW Tryd.func37 rfl Tryd.ntmps37 (by simp) ?_
  simp only [go_sem, simprocAttr]
  refine loop_ok (N := 3000) (ι := Nat) (fun i => ⟨[(0, .c (.v (.slice A l.length c))), (1, .c (.v (.func (.func f) #[] caps))), (7, .c (.v (.int .i64 (l.length : Int)))), (8, .c (.v (.int .i64 (i : Int))))], [], [], [], [G0], 0⟩)
    (fun i => i ≤ l.length ∧ ∀ k y, k < i → l[k]? = some y → p y = false)
    (fun i => l.length - i) (QOk_body _ _ _) 0 ⟨by omega, fun k y hk => absurd hk (by omega)⟩ (by simp only [go_sem, simprocAttr]; simp) ?_
  rintro i ⟨hi, hno⟩
  by_cases hlt : i < l.length
  · have q : decide ((i : Int) < (l.length : Int)) = true := decide_eq_true (by omega)
    obtain ⟨x, hx⟩ : ∃ x, l[i]? = some x := ⟨_, List.getElem?_eq_getElem hlt⟩
    simp only [go_sem, simprocAttr, q]
    refine plain_ok (N := 3000) (elem_does (R := IntG) (l := l) (m := i) rfl tySlice25 tySize3 rfl rfl (dk rfl) rfl hx (fun G hG => Sq.mono h intG_mono (hG.le G0 (by simp)))) (QOk_body _ _ _) (by first | exact .inl rfl | exact .inr ⟨_, _, rfl, rfl⟩) ?_
    rintro _ ⟨g2, o', cs, G2, hcl, hcs, rfl⟩
    obtain rfl := hcs
    simp only [go_sem, simprocAttr, q]
    refine plain_ok (N := 3000) (callD_does (fun r _ => r = .bool (p x)) rfl rfl rfl rfl hf rfl (dk rfl) (fun G hG => hc G x (List.mem_of_getElem? hx) (hG.le G0 (by simp)) hG.wf)) (QOk_body _ _ _) (by first | exact .inl rfl | exact .inr ⟨_, _, rfl, rfl⟩) ?_
    rintro _ ⟨_, G3, rfl, hn3, rfl⟩
    simp only [go_sem, simprocAttr]
    refine Wb_mk (fun h2 => ?_) (fun h2 => ?_)
    · refine fin_ret (G := G0) Tryd.results37 ?_
      simp only [go_sem, simprocAttr]
      intro aa w' _ _
      refine ⟨(i : Int), rfl, ?_⟩
      rw [List.any_eq_true.2 ⟨x, List.mem_of_getElem? hx, h2⟩]
      exact decide_eq_true (by omega)
    · refine ⟨by omega, ?_⟩
      refine again_ok (i + 1) ⟨hlt, fun k y hk hy => ?_⟩ (by omega) (by simp only [go_sem, simprocAttr]; simp)
      by_cases e : k = i
      · subst e
        rw [hx] at hy; cases hy; exact h2
      · exact hno k y (by omega) hy
  · have q : decide ((i : Int) < (l.length : Int)) = false := decide_eq_false (by omega)
    simp only [go_sem, simprocAttr, q]
    refine fin_ret (G := G0) Tryd.results37 ?_
    simp only [go_sem, simprocAttr]
    intro aa w' _ _
    refine ⟨-1, rfl, ?_⟩
    rw [show l.any p = false from List.any_eq_false.2 fun y hy => by
      obtain ⟨k, hk, rfl⟩ := List.getElem_of_mem hy
      rw [hno k _ (by omega) (List.getElem?_eq_getElem hk)]
      decide]
    rfl
set_option maxRecDepth 100000 in
set_option maxHeartbeats 8000000 in
theorem containsI' {l : List Int} {lv : Value} {f : FuncId} {caps : Array Value} {p : Int → Bool} {G0 : GW} (hW : G0.Wf) (h : Sq IntG 3 1 G0 lv l) (hf : isFn Tryd.prog f = true) (hc : ∀ G x, x ∈ l → G0.Le G → G.Wf → Calls Tryd.prog f (#[.int .i64 x] ++ caps) G.w (Ret G fun v _ => v = .bool (p x))) :
    Calls Tryd.prog 24 #[lv, .func (.func f) #[] caps] G0.w (Ret G0 fun v _ => v = .bool (l.any p)) := by
  obtain ⟨A, c, rfl, hc1, hc2⟩ := Sq.form h
  have hml := max_le
  refine enterS (G := G0) (n := 9) 3000 hW Tryd.func24 rfl Tryd.ntmps24 (by simp) ?_
  simp only [go_sem, simprocAttr]
  refine plain_ok (N := 3000) (call_does (fun v _ => ∃ i : Int, v = .int .i64 i ∧ decide (0 ≤ i) = l.any p) rfl rfl (by kernel_rfl) rfl (dk rfl) (fun G hG => indexI' hG.wf (Sq.mono h intG_mono (hG.le G0 (by simp))) hf (fun G' x hx hl hw => hc G' x hx ((hG.le G0 (by simp)).trans hl) hw))) (QOk_body _ _ _) (by first | exact .inl rfl | exact .inr ⟨_, _, rfl, rfl⟩) ?_
  rintro _ ⟨_, G3, ⟨i, rfl, hi⟩, hn3, rfl⟩
  clear hn3
  simp only [go_sem, simprocAttr, hi]
  refine fin_ret (G := G0) Tryd.results24 ?_
  simp only [go_sem, simprocAttr]
  intro aa w' _ _
  rfl
set_option maxRecDepth 100000 in
set_option maxHeartbeats 8000000 in
theorem indexS' {l : List ByteArray} {lv : Value} {f : FuncId} {caps : Array Value} {p : ByteArray → Bool} {G0 : GW} (hW : G0.Wf) (h : Sq StrG 9 1 G0 lv l) (hf : isFn Tryd.prog f = true) (hc : ∀ G x, x ∈ l → G0.Le G → G.Wf → Calls Tryd.prog f (#[.string x] ++ caps) G.w (Ret G fun v _ => v = .bool (p x))) :
    Calls Tryd.prog 38 #[lv, .func (.func f) #[] caps] G0.w (Ret G0 fun v _ => ∃ i : Int, v = .int .i64 i ∧ decide (0 ≤ i) = l.any p) := by
  obtain ⟨A, c, rfl, hc1, hc2⟩ := Sq.form h
  have hml := max_le
  refine enterS (G := G0) (n := 19) 3000 hW Tryd.func38 rfl Tryd.ntmps38 (by simp) ?_
  simp only [go_sem, simprocAttr]
  refine loop_ok (N := 3000) (ι := Nat) (fun i => ⟨[(0, .c (.v (.slice A l.length c))), (1, .c (.v (.func (.func f) #[] caps))), (7, .c (.v (.int .i64 (l.length : Int)))), (8, .c (.v (.int .i64 (i : Int))))], [], [], [], [G0], 0⟩)
    (fun i => i ≤ l.length ∧ ∀ k y, k < i → l[k]? = some y → p y = false)
    (fun i => l.length - i) (QOk_body _ _ _) 0 ⟨by omega, fun k y hk => absurd hk (by omega)⟩ (by simp only [go_sem, simprocAttr]; simp) ?_
  rintro i ⟨hi, hno⟩
  by_cases hlt : i < l.length
  · have q : decide ((i : Int) < (l.length : Int)) = true := decide_eq_true (by omega)
    obtain ⟨x, hx⟩ : ∃ x, l[i]? = some x := ⟨_, List.getElem?_eq_getElem hlt⟩
    simp only [go_sem, simprocAttr, q]
    refine plain_ok (N := 3000) (elem_does (R := StrG) (l := l) (m := i) rfl tySlice71 tySize9 rfl rfl (dk rfl) rfl hx (fun G hG => Sq.mono h strG_mono (hG.le G0 (by simp)))) (QOk_body _ _ _) (by first | exact .inl rfl | exact .inr ⟨_, _, rfl, rfl⟩) ?_
    rintro _ ⟨g2, o', cs, G2, hcl, hcs, rfl⟩
    obtain rfl := hcs
    simp only [go_sem, simprocAttr, q]
    refine plain_ok (N := 3000) (callD_does (fun r _ => r = .bool (p x)) rfl rfl rfl rfl hf rfl (dk rfl) (fun G hG => hc G x (List.mem_of_getElem? hx) (hG.le G0 (by simp)) hG.wf)) (QOk_body _ _ _) (by first | exact .inl rfl | exact .inr ⟨_, _, rfl, rfl⟩) ?_
    rintro _ ⟨_, G3, rfl, hn3, rfl⟩
    simp only [go_sem, simprocAttr]
    refine Wb_mk (fun h2 => ?_) (fun h2 => ?_)
    · refine fin_ret (G := G0) Tryd.results38 ?_
      simp only [go_sem, simprocAttr]
      intro aa w' _ _
      refine ⟨(i : Int), rfl, ?_⟩
      rw [List.any_eq_true.2 ⟨x, List.mem_of_getElem? hx, h2⟩]
      exact decide_eq_true (by omega)
    · refine ⟨by omega, ?_⟩
      refine again_ok (i + 1) ⟨hlt, fun k y hk hy => ?_⟩ (by omega) (by simp only [go_sem, simprocAttr]; simp)
      by_cases e : k = i
      · subst e
        rw [hx] at hy; cases hy; exact h2
      · exact hno k y (by omega) hy
  · have q : decide ((i : Int) < (l.length : Int)) = false := decide_eq_false (by omega)
    simp only [go_sem, simprocAttr, q]
    refine fin_ret (G := G0) Tryd.results38 ?_
    simp only [go_sem, simprocAttr]
    intro aa w' _ _
    refine ⟨-1, rfl, ?_⟩
    rw [show l.any p = false from List.any_eq_false.2 fun y hy => by
      obtain ⟨k, hk, rfl⟩ := List.getElem_of_mem hy
      rw [hno k _ (by omega) (List.getElem?_eq_getElem hk)]
      decide]
    rfl
set_option maxRecDepth 100000 in
set_option maxHeartbeats 8000000 in
theorem containsS' {l : List ByteArray} {lv : Value} {f : FuncId} {caps : Array Value} {p : ByteArray → Bool} {G0 : GW} (hW : G0.Wf) (h : Sq StrG 9 1 G0 lv l) (hf : isFn Tryd.prog f = true) (hc : ∀ G x, x ∈ l → G0.Le G → G.Wf → Calls Tryd.prog f (#[.string x] ++ caps) G.w (Ret G fun v _ => v = .bool (p x))) :
    Calls Tryd.prog 26 #[lv, .func (.func f) #[] caps] G0.w (Ret G0 fun v _ => v = .bool (l.any p)) := by
  obtain ⟨A, c, rfl, hc1, hc2⟩ := Sq.form h
  have hml := max_le
  refine enterS (G := G0) (n := 9) 3000 hW Tryd.func26 rfl Tryd.ntmps26 (by simp) ?_
  simp only [go_sem, simprocAttr]
  refine plain_ok (N := 3000) (call_does (fun v _ => ∃ i : Int, v = .int .i64 i ∧ decide (0 ≤ i) = l.any p) rfl rfl (by kernel_rfl) rfl (dk rfl) (fun G hG => indexS' hG.wf (Sq.mono h strG_mono (hG.le G0 (by simp))) hf (fun G' x hx hl hw => hc G' x hx ((hG.le G0 (by simp)).trans hl) hw))) (QOk_body _ _ _) (by first | exact .inl rfl | exact .inr ⟨_, _, rfl, rfl⟩) ?_
  rintro _ ⟨_, G3, ⟨i, rfl, hi⟩, hn3, rfl⟩
  clear hn3
  simp only [go_sem, simprocAttr, hi]
  refine fin_ret (G := G0) Tryd.results26 ?_
  simp only [go_sem, simprocAttr]
  intro aa w' _ _
  rfl
set_option maxRecDepth 100000 in
set_option maxHeartbeats 4000000 in
theorem fits1_does {n m : Int} {g : Nat} {G0 : GW} (hW : G0.Wf) (hb : BlkG G0 g [.int .i64 m]) :
    Calls Tryd.prog 25 #[.int .i64 n, .pointer (some ⟨g, 0, none⟩)] G0.w (Ret G0 fun v _ => v = .bool (decide (n < 0) || decide (m < n))) := by
  refine enterV (G := G0) (n := 11) 3000 [.c (.v (.int .i64 n)), .c (.q 0 g 0 0)] [⟨0, g, 0, [.int .i64 m]⟩] hb.vw hW Tryd.func25 rfl Tryd.ntmps25 (by simp) ?_
  simp only [go_sem, simprocAttr]
  refine fin_ret (G := G0) Tryd.results25 ?_
  simp only [go_sem, simprocAttr]
  intro aa w' _ _
  rfl
def fitsB (m : Int) (l : List Int) : Bool := !(l.any fun n => decide (n < 0) || decide (m < n))
set_option maxRecDepth 100000 in
set_option maxHeartbeats 8000000 in
theorem fits_does {m : Int} {l : List Int} {lv : Value} {G0 : GW} (hW : G0.Wf) (h : IntsG G0 lv l) :
    Calls Tryd.prog 11 #[.int .i64 m, lv] G0.w (Ret G0 fun v _ => v = .bool (fitsB m l)) := by
  obtain ⟨A, c, rfl, hc1, hc2⟩ := Sq.form h
  have hml := max_le
  refine enterS (G := G0) (n := 9) 3000 hW Tryd.func11 rfl Tryd.ntmps11 (by simp) ?_
  simp only [go_sem, simprocAttr]
  intro g1
  refine plain_ok (N := 3000) (call_does (fun r _ => r = .bool (l.any fun n => decide (n < 0) || decide (m < n))) rfl rfl (by kernel_rfl) rfl (dk rfl) (fun G hG => Ret.anyM (M' := (G.sub [g1]).M) (containsI' (G0 := G.sub [g1]) (hG.wf.sub [g1]) (h.mono ((hG.le G0 (by simp)).trans (GW.le_sub _ _))) (by kernel_rfl) (fun G' x hx hl hw => fits1_does hw ((hG.blkG (b := ⟨0, g1, 3, [.v (.int .i64 m)]⟩) (ks := [g1]) (by simp) (by simp)).mono hl))))) (QOk_body _ _ _) (by first | exact .inl rfl | exact .inr ⟨_, _, rfl, rfl⟩) ?_
  rintro _ ⟨_, G3, rfl, hn3, rfl⟩
  clear hn3
  simp only [go_sem, simprocAttr]
  refine fin_ret (G := G0) Tryd.results11 ?_
  simp only [go_sem, simprocAttr]
  intro aa w' _ _
  rfl
set_option maxRecDepth 100000 in
set_option maxHeartbeats 4000000 in
theorem names1_does {x : ByteArray} {G0 : GW} (hW : G0.Wf) :
    Calls Tryd.prog 27 #[.string x] G0.w (Ret G0 fun v _ => v = .bool (decide (255 < (x.size : Int)))) := by
  refine enterS (G := G0) (n := 6) 3000 hW Tryd.func27 rfl Tryd.ntmps27 (by simp) ?_
  simp only [go_sem, simprocAttr]
  refine fin_ret (G := G0) Tryd.results27 ?_
  simp only [go_sem, simprocAttr]
  intro aa w' _ _
  rfl
def namesB (secs : List Int) (l : List ByteArray) : Bool := (decide ((secs.length : Int) < 256) && fitsB 255 secs) && !(l.any fun x => decide (255 < (x.size : Int)))
set_option maxRecDepth 100000 in
set_option maxHeartbeats 8000000 in
theorem names_does {secs : List Int} {l : List ByteArray} {sv lv : Value} {G0 : GW} (hW : G0.Wf) (hs : IntsG G0 sv secs) (h : StrsG G0 lv l) :
    Calls Tryd.prog 12 #[sv, lv] G0.w (Ret G0 fun v _ => v = .bool (namesB secs l)) := by
  obtain ⟨A, c, rfl, hc1, hc2⟩ := Sq.form h
  obtain ⟨B, d, rfl, hd1, hd2⟩ := Sq.form hs
  have hml := max_le
  refine enterS (G := G0) (n := 17) 3000 hW Tryd.func12 rfl Tryd.ntmps12 (by simp) ?_
  by_cases h1 : secs.length < 256
  · have q1 : decide ((secs.length : Int) < 256) = true := decide_eq_true (by omega)
    simp only [go_sem, simprocAttr, q1]
    refine plain_ok (N := 3000) (call_does (fun v _ => v = .bool (fitsB 255 secs)) rfl rfl (by kernel_rfl) rfl (dk rfl) (fun G hG => fits_does hG.wf (hs.mono (hG.le G0 (by simp))))) (QOk_body _ _ _) (by first | exact .inl rfl | exact .inr ⟨_, _, rfl, rfl⟩) ?_
    rintro _ ⟨_, G3, rfl, hn3, rfl⟩
    clear hn3
    cases h2 : fitsB 255 secs with
    | true =>
      simp only [go_sem, simprocAttr]
      refine plain_ok (N := 3000) (call_does (fun v _ => v = .bool (l.any fun x => decide (255 < (x.size : Int)))) rfl rfl (by kernel_rfl) rfl (dk rfl) (fun G hG => containsS' (caps := #[]) hG.wf (Sq.mono h strG_mono (hG.le G0 (by simp))) (by kernel_rfl) (fun G' x hx hl hw => names1_does hw))) (QOk_body _ _ _) (by first | exact .inl rfl | exact .inr ⟨_, _, rfl, rfl⟩) ?_
      rintro _ ⟨_, G4, rfl, hn4, rfl⟩
      clear hn4
      simp only [go_sem, simprocAttr]
      refine fin_ret (G := G0) Tryd.results12 ?_
      simp only [go_sem, simprocAttr]
      intro aa w' _ _
      unfold namesB
      rw [q1, h2]
      rfl
    | false =>
      simp only [go_sem, simprocAttr]
      refine fin_ret (G := G0) Tryd.results12 ?_
      simp only [go_sem, simprocAttr]
      intro aa w' _ _
      unfold namesB
      rw [q1, h2]
      rfl
  · have q1 : decide ((secs.length : Int) < 256) = false := decide_eq_false (by omega)
    simp only [go_sem, simprocAttr, q1]
    refine fin_ret (G := G0) Tryd.results12 ?_
    simp only [go_sem, simprocAttr]
    intro aa w' _ _
    unfold namesB
    rw [q1]
    rfl
end Go.Proofs.YtohdfcnjcpjdcaaDoor
