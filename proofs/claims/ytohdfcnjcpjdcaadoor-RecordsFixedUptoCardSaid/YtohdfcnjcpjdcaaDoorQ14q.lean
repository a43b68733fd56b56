/- 'icehousekeep.RecordsFixed' returns true for every slice of bytes. Conditions: the slice has at most 1048576 bytes. -/
import Derived.Test.YtohdfcnjcpjdcaaDoorQ13q
import Derived.Test.YtohdfcnjcpjdcaaDoorW14q
namespace Go.Proofs.YtohdfcnjcpjdcaaDoor
open Go.RowKit
set_option linter.unusedSimpArgs false
theorem mn_okRc : ∀ (n : Nat) (a : List Rec) (s : RS), (mn stR n a s).2.f = 0 → (∀ r ∈ a, okRc r) → ∀ r ∈ (mn stR n a s).1, okRc r
  | 0, a, s, _, ha => ha
  | n + 1, a, s, hf, ha => by
    by_cases h0 : s.f = 0
    · rw [mn, if_pos h0] at hf ⊢
      have h1 := (fix_mn fix_rc (fun _ _ => rfl) n _ _ hf).1
      refine mn_okRc n _ _ hf fun r hr => ?_
      rcases List.mem_append.1 hr with hr | hr
      · exact ha r hr
      · rw [List.mem_singleton.1 hr]
        exact bd_rc h1
    · rw [mn, if_neg h0] at hf
      exact absurd hf h0
theorem encL_ok : ∀ (l : List Rec) (acc : List UInt8), (∀ r ∈ l, okRc r) → encL acc l = (acc ++ l.flatMap rcB, 0)
  | [], acc, _ => by rw [encL, List.flatMap_nil, List.append_nil]
  | r :: l, acc, h => by
    rw [encL, if_pos (chk_iff.2 (h r List.mem_cons_self)), encL_ok l _ (fun x hx => h x (List.mem_cons_of_mem _ hx)), List.flatMap_cons, List.append_assoc]
theorem en_f {s : RS} (h : (en s).f = 0) : s.f = 0 ∧ s.l = [] := by
  unfold en at h
  by_cases q : (decide (s.f = 0) && decide (0 < (s.l.length : Int))) = true
  · rw [if_pos q] at h
    exact absurd h (by show ¬ (4 : Int) = 0; decide)
  · rw [if_neg q] at h
    refine ⟨h, ?_⟩
    rw [decide_eq_true h, Bool.true_and, decide_eq_true_eq] at q
    exact List.eq_nil_of_length_eq_zero (by omega)
theorem dec_encR {l : List UInt8} (h : (decR l).2 = 0) : encR (decR l).1 = (l, 0) := by
  unfold decR at h ⊢
  by_cases he : (en (dcM l).2).f = 0
  · rw [if_pos he]
    obtain ⟨h1, h2⟩ := en_f he
    obtain ⟨h3, xs, e1, e2, e3⟩ := fix_mn fix_rc (st := stR) (fun _ _ => rfl) (tk 1 (⟨l, 0⟩ : RS)).1.toNat [] (tk 1 (⟨l, 0⟩ : RS)).2 h1
    obtain ⟨_, e4⟩ := fix_tk 1 (⟨l, 0⟩ : RS) h3
    have hb := tk1_bd (⟨l, 0⟩ : RS)
    have hok := mn_okRc (tk 1 (⟨l, 0⟩ : RS)).1.toNat [] (tk 1 (⟨l, 0⟩ : RS)).2 h1 (fun _ q => absurd q List.not_mem_nil)
    have e0 : (dcM l).1 = xs := by
      show (mn stR (tk 1 (⟨l, 0⟩ : RS)).1.toNat [] (tk 1 (⟨l, 0⟩ : RS)).2).1 = xs
      rw [e1, List.nil_append]
    have e5 : (dcM l).2.l = [] := h2
    show encR (dcM l).1 = (l, 0)
    have hok' : ∀ r ∈ xs, okRc r := by rw [e1, List.nil_append] at hok; exact hok
    have e6 : (mn stR (tk 1 (⟨l, 0⟩ : RS)).1.toNat [] (tk 1 (⟨l, 0⟩ : RS)).2).2.l = [] := h2
    rw [e6, List.append_nil] at e3
    have e7 : (xs.length : Int) = (tk 1 (⟨l, 0⟩ : RS)).1 := by omega
    rw [e0]
    unfold encR
    rw [if_neg (by omega), encL_ok xs _ hok', e7, ← e3]
    exact congrArg (fun z => (z, (0 : Int))) e4.symm
  · rw [if_neg he] at h
    exact absurd h he
theorem dec_zeroR {l : List UInt8} (h : ¬ (decR l).2 = 0) : (decR l).1 = [] := by
  unfold decR at h ⊢
  by_cases he : (en (dcM l).2).f = 0
  · rw [if_pos he] at h
    exact absurd rfl h
  · rw [if_neg he]
theorem decR_nil : (decR []).2 = 5 := rfl
set_option maxRecDepth 100000 in
set_option maxHeartbeats 8000000 in
theorem recordsFixed_ret {w : World} (v0 : Value) (l0 : List UInt8) (h0 : Sc ⟨Non, w⟩ 1 l0.length v0 (l0.map enc8)) (hl0 : l0.length ≤ 1048576) (hK : KindsG ⟨Non, w⟩) :
    Calls Tryd.prog 4 #[v0] w (Ret ⟨Non, w⟩ fun v _ => v = .bool true) := by
  have hml := max_le
  obtain ⟨A0, c0, rfl, hc1, hc2, _⟩ := id h0
  refine enterS (G := ⟨Non, w⟩) (n := 42) 3000 (fun _ h => h.elim) Tryd.func4 rfl Tryd.ntmps4 (by simp) ?_
  simp only [go_sem, simprocAttr]
  refine row_ok 5 1 ?_
  refine plain_ok (N := 3000) (appendNil_does (R1 := []) (R2 := []) (m := l0.length) (news := l0.map enc8) rfl tySlice37 tyApp5 rfl rfl rfl (dk rfl) (by unfold maxLen; omega) (by omega) (fun G hG => h0.mono (hG.le ⟨Non, w⟩ (by simp [St.rowsTo])))) (QOk_body _ _ _) (by first | exact .inl rfl | exact .inr ⟨_, _, rfl, rfl⟩) ?_
  rintro _ ⟨Ac, cc, rfl⟩
  simp only [go_sem, simprocAttr]
  refine read_ok (R1 := []) rfl (fun GB hleB hslB => ?_) (fun _ _ q => q) (by show (1 : Nat) ≠ 0; decide)
  simp only [St.seen, St.rowsTo, List.nil_append]
  have hb : ByG GB (.slice Ac l0.length cc) l0 := by
    have h9 : Sl GB 5 1 l0.length (.slice Ac l0.length cc) (l0.map enc8) := hslB
    exact h9
  refine plain_ok (N := 3000) (call_does (fun y G => ∃ ov, y = .tuple #[ov, .int .i64 (decR l0).2] ∧ RxsG G ov (decR l0).1) rfl rfl (by kernel_rfl) rfl (dk rfl) (fun G hG => dec_does hG.wf (hb.mono (hG.le GB (by simp))) (by omega) (BlkG.mono hK (hG.le ⟨Non, w⟩ (by simp))))) (QOk_body _ _ _) (by first | exact .inl rfl | exact .inr ⟨_, _, rfl, rfl⟩) ?_
  rintro _ ⟨_, G1, ⟨ov, rfl, hs⟩, hn1, rfl⟩
  clear hn1
  have hdz := dec_zeroR (l := l0)
  have hde := dec_encR (l := l0)
  obtain ⟨D, hD⟩ : ∃ D, D = decR l0 := ⟨_, rfl⟩
  rw [← hD] at hs hdz hde ⊢
  clear hD
  by_cases he : D.2 = 0
  · have q : decide (D.2 = 0) = true := decide_eq_true he
    have hen := hde he
    obtain ⟨A1, c1, rfl, _, _⟩ := Sq.form hs
    simp only [go_sem, simprocAttr, q, Bool.not_true]
    refine plain_ok (N := 3000) (call_does (fun y G => ∃ bv, y = .tuple #[bv, .int .i64 (encR D.1).2] ∧ ByG G bv (encR D.1).1) rfl rfl (by kernel_rfl) rfl (dk rfl) (fun G hG => enc_does hG.wf (Sq.mono hs rxCs_mono (hG.le G1 (by simp))) (BlkG.mono hK (hG.le ⟨Non, w⟩ (by simp))))) (QOk_body _ _ _) (by first | exact .inl rfl | exact .inr ⟨_, _, rfl, rfl⟩) ?_
    rintro _ ⟨_, G2, ⟨bv, rfl, hbv⟩, hn2, rfl⟩
    clear hn2
    rw [hen] at hbv ⊢
    obtain ⟨Ab, cb, rfl, _, _⟩ := hbv.form
    simp only [go_sem, simprocAttr]
    refine plain_ok (N := 3000) (textS_does (bs := l0) rfl (by kernel_rfl) tySlice37 (by kernel_rfl) rfl rfl (dk rfl) (fun G hG => h0.mono (hG.le ⟨Non, w⟩ (by simp)))) (QOk_body _ _ _) (by first | exact .inl rfl | exact .inr ⟨_, _, rfl, rfl⟩) ?_
    rintro _ rfl
    simp only [go_sem, simprocAttr]
    refine plain_ok (N := 3000) (textG_does (bs := l0) rfl (by kernel_rfl) tySlice37 (by kernel_rfl) rfl rfl (dk rfl) (fun G hG => hbv.mono (hG.le G2 (by simp)))) (QOk_body _ _ _) (by first | exact .inl rfl | exact .inr ⟨_, _, rfl, rfl⟩) ?_
    rintro _ rfl
    simp only [go_sem, simprocAttr]
    refine fin_ret (G := ⟨Non, w⟩) Tryd.results4 ?_
    simp only [go_sem, simprocAttr]
    intro aa w' _ hle
    rfl
  · have q : decide (D.2 = 0) = false := decide_eq_false he
    have hz := hdz he
    rw [hz] at hs
    obtain ⟨A1, c1, rfl, _, _⟩ := Sq.form hs
    simp only [go_sem, simprocAttr, q, Bool.not_false]
    refine plain_ok (N := 3000) (call_does (fun y G => ∃ ov, y = .tuple #[ov, .int .i64 (decR []).2] ∧ RxsG G ov (decR []).1) rfl rfl (by kernel_rfl) rfl (dk rfl) (fun G hG => dec_does (l := []) hG.wf (ByG.nil _) (by show 0 ≤ _; omega) (BlkG.mono hK (hG.le ⟨Non, w⟩ (by simp))))) (QOk_body _ _ _) (by first | exact .inl rfl | exact .inr ⟨_, _, rfl, rfl⟩) ?_
    rintro _ ⟨_, G2, ⟨ov2, rfl, hs2⟩, hn2, rfl⟩
    clear hn2
    obtain ⟨A2, c2, rfl, _, _⟩ := Sq.form hs2
    rw [decR_nil]
    simp only [go_sem, simprocAttr]
    refine fin_ret (G := ⟨Non, w⟩) Tryd.results4 ?_
    simp only [go_sem, simprocAttr]
    intro aa w' _ hle
    rfl
theorem recordsFixed_walk {w : World} (v0 : Value) (l0 : List UInt8) (h0 : Sc ⟨Non, w⟩ 1 l0.length v0 (l0.map enc8)) (hl0 : l0.length ≤ 1048576) (hK : KindsG ⟨Non, w⟩) : Calls Tryd.prog 4 #[v0] w fun e w' => e = .returned (.bool true) ∧ Below w.heap.size w w' :=
  (recordsFixed_ret v0 l0 h0 hl0 hK).mono fun e w' ⟨v, he, hv, hc⟩ => ⟨by rw [he, hv], hc.below⟩
end Go.Proofs.YtohdfcnjcpjdcaaDoor
