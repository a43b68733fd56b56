/- The reader of a record. Conditions: as each law states them. -/
import Derived.Test.YtohdfcnjcpjdcaaDoorQ9q
namespace Go.Proofs.YtohdfcnjcpjdcaaDoor
open Go.RowKit
set_option linter.unusedSimpArgs false
theorem intsQ_nil (G : GW) : IntsG G (.slice none 0 0) [] := IntsG.of (l := []) (Sl.nil _ _ _)
theorem rc_good {s : RS} (hf : (tk 1 s).2.f = 0) (hk : 1 ≤ (tk 1 s).1 ∧ (tk 1 s).1 ≤ 14) : rc s = rcT (tk 1 s).1 (tk 1 s).2 := by
  have h : rcK (tk 1 s) = (tk 1 s).2 := by unfold rcK; rw [if_neg (by omega)]
  unfold rc
  rw [h, if_pos hf]
theorem rc_dead {s : RS} (hf : (tk 1 s).2.f ≠ 0) : rc s = (rec0 0, (tk 1 s).2) := by
  have h : rcK (tk 1 s) = (tk 1 s).2 := by unfold rcK; rw [if_neg (fun q => hf q.1)]
  unfold rc
  rw [h, if_neg hf]
theorem rc_kind {s : RS} (hf : (tk 1 s).2.f = 0) (hk : (tk 1 s).1 < 1 ∨ 14 < (tk 1 s).1) : rc s = (rec0 0, ⟨(tk 1 s).2.l, 3⟩) := by
  have h : rcK (tk 1 s) = ⟨(tk 1 s).2.l, 3⟩ := by unfold rcK; rw [if_pos ⟨hf, hk⟩]
  unfold rc
  rw [h, if_neg (by show ¬ (3 : Int) = 0; decide)]
theorem rcT_1 (b : RS) : rcT 1 b = ({ rec0 1 with name := (tx b).1 }, (tx b).2) := by
  have h0 : (kd 1).id = false := rfl
  have h1 : (kd 1).n = false := rfl
  have h2 : (kd 1).name = true := rfl
  have h3 : (kd 1).key = false := rfl
  have h4 : (kd 1).rule = false := rfl
  have h5 : (kd 1).ver = false := rfl
  have h6 : (kd 1).ask = false := rfl
  have h7 : (kd 1).part = false := rfl
  have h8 : (kd 1).secs = false := rfl
  have h9 : (kd 1).vol = false := rfl
  have h10 : (kd 1).at_ = false := rfl
  simp only [rcT, rc1, rc2, rc3, rc4, rc5, rc6, rc7, rc8, rc9, rc10, rc11, opR, h0, h1, h2, h3, h4, h5, h6, h7, h8, h9, h10, Bool.false_eq_true, if_true, if_false]
  rfl
theorem rcT_2 (b : RS) : rcT 2 b = ({ rec0 2 with name := (tx b).1, n := (tk 4 (tx b).2).1 }, (tk 4 (tx b).2).2) := by
  have h0 : (kd 2).id = false := rfl
  have h1 : (kd 2).n = true := rfl
  have h2 : (kd 2).name = true := rfl
  have h3 : (kd 2).key = false := rfl
  have h4 : (kd 2).rule = false := rfl
  have h5 : (kd 2).ver = false := rfl
  have h6 : (kd 2).ask = false := rfl
  have h7 : (kd 2).part = false := rfl
  have h8 : (kd 2).secs = false := rfl
  have h9 : (kd 2).vol = false := rfl
  have h10 : (kd 2).at_ = false := rfl
  simp only [rcT, rc1, rc2, rc3, rc4, rc5, rc6, rc7, rc8, rc9, rc10, rc11, opR, h0, h1, h2, h3, h4, h5, h6, h7, h8, h9, h10, Bool.false_eq_true, if_true, if_false]
  rfl
theorem rcT_3 (b : RS) : rcT 3 b = ({ rec0 3 with name := (tx b).1, rule := (rl (tx b).2).1 }, (rl (tx b).2).2) := by
  have h0 : (kd 3).id = false := rfl
  have h1 : (kd 3).n = false := rfl
  have h2 : (kd 3).name = true := rfl
  have h3 : (kd 3).key = false := rfl
  have h4 : (kd 3).rule = true := rfl
  have h5 : (kd 3).ver = false := rfl
  have h6 : (kd 3).ask = false := rfl
  have h7 : (kd 3).part = false := rfl
  have h8 : (kd 3).secs = false := rfl
  have h9 : (kd 3).vol = false := rfl
  have h10 : (kd 3).at_ = false := rfl
  simp only [rcT, rc1, rc2, rc3, rc4, rc5, rc6, rc7, rc8, rc9, rc10, rc11, opR, h0, h1, h2, h3, h4, h5, h6, h7, h8, h9, h10, Bool.false_eq_true, if_true, if_false]
  rfl
theorem rcT_4 (b : RS) : rcT 4 b = ({ rec0 4 with ver := (vr b).1 }, (vr b).2) := by
  have h0 : (kd 4).id = false := rfl
  have h1 : (kd 4).n = false := rfl
  have h2 : (kd 4).name = false := rfl
  have h3 : (kd 4).key = false := rfl
  have h4 : (kd 4).rule = false := rfl
  have h5 : (kd 4).ver = true := rfl
  have h6 : (kd 4).ask = false := rfl
  have h7 : (kd 4).part = false := rfl
  have h8 : (kd 4).secs = false := rfl
  have h9 : (kd 4).vol = false := rfl
  have h10 : (kd 4).at_ = false := rfl
  simp only [rcT, rc1, rc2, rc3, rc4, rc5, rc6, rc7, rc8, rc9, rc10, rc11, opR, h0, h1, h2, h3, h4, h5, h6, h7, h8, h9, h10, Bool.false_eq_true, if_true, if_false]
  rfl
theorem rcT_5 (b : RS) : rcT 5 b = ({ rec0 5 with id := (tk 3 b).1 }, (tk 3 b).2) := by
  have h0 : (kd 5).id = true := rfl
  have h1 : (kd 5).n = false := rfl
  have h2 : (kd 5).name = false := rfl
  have h3 : (kd 5).key = false := rfl
  have h4 : (kd 5).rule = false := rfl
  have h5 : (kd 5).ver = false := rfl
  have h6 : (kd 5).ask = false := rfl
  have h7 : (kd 5).part = false := rfl
  have h8 : (kd 5).secs = false := rfl
  have h9 : (kd 5).vol = false := rfl
  have h10 : (kd 5).at_ = false := rfl
  simp only [rcT, rc1, rc2, rc3, rc4, rc5, rc6, rc7, rc8, rc9, rc10, rc11, opR, h0, h1, h2, h3, h4, h5, h6, h7, h8, h9, h10, Bool.false_eq_true, if_true, if_false]
  rfl
theorem rcT_6 (b : RS) : rcT 6 b = ({ rec0 6 with id := (tk 3 b).1, vol := (tk 1 (tk 3 b).2).1, at_ := (tk 2 (tk 1 (tk 3 b).2).2).1 }, (tk 2 (tk 1 (tk 3 b).2).2).2) := by
  have h0 : (kd 6).id = true := rfl
  have h1 : (kd 6).n = false := rfl
  have h2 : (kd 6).name = false := rfl
  have h3 : (kd 6).key = false := rfl
  have h4 : (kd 6).rule = false := rfl
  have h5 : (kd 6).ver = false := rfl
  have h6 : (kd 6).ask = false := rfl
  have h7 : (kd 6).part = false := rfl
  have h8 : (kd 6).secs = false := rfl
  have h9 : (kd 6).vol = true := rfl
  have h10 : (kd 6).at_ = true := rfl
  simp only [rcT, rc1, rc2, rc3, rc4, rc5, rc6, rc7, rc8, rc9, rc10, rc11, opR, h0, h1, h2, h3, h4, h5, h6, h7, h8, h9, h10, Bool.false_eq_true, if_true, if_false]
  rfl
theorem rcT_7 (b : RS) : rcT 7 b = ({ rec0 7 with ask := (ak b).1 }, (ak b).2) := by
  have h0 : (kd 7).id = false := rfl
  have h1 : (kd 7).n = false := rfl
  have h2 : (kd 7).name = false := rfl
  have h3 : (kd 7).key = false := rfl
  have h4 : (kd 7).rule = false := rfl
  have h5 : (kd 7).ver = false := rfl
  have h6 : (kd 7).ask = true := rfl
  have h7 : (kd 7).part = false := rfl
  have h8 : (kd 7).secs = false := rfl
  have h9 : (kd 7).vol = false := rfl
  have h10 : (kd 7).at_ = false := rfl
  simp only [rcT, rc1, rc2, rc3, rc4, rc5, rc6, rc7, rc8, rc9, rc10, rc11, opR, h0, h1, h2, h3, h4, h5, h6, h7, h8, h9, h10, Bool.false_eq_true, if_true, if_false]
  rfl
theorem rcT_8 (b : RS) : rcT 8 b = ({ rec0 8 with id := (tk 3 b).1, n := (tk 4 (tk 3 b).2).1, secs := (its (tk 4 (tk 3 b).2).2).1 }, (its (tk 4 (tk 3 b).2).2).2) := by
  have h0 : (kd 8).id = true := rfl
  have h1 : (kd 8).n = true := rfl
  have h2 : (kd 8).name = false := rfl
  have h3 : (kd 8).key = false := rfl
  have h4 : (kd 8).rule = false := rfl
  have h5 : (kd 8).ver = false := rfl
  have h6 : (kd 8).ask = false := rfl
  have h7 : (kd 8).part = false := rfl
  have h8 : (kd 8).secs = true := rfl
  have h9 : (kd 8).vol = false := rfl
  have h10 : (kd 8).at_ = false := rfl
  simp only [rcT, rc1, rc2, rc3, rc4, rc5, rc6, rc7, rc8, rc9, rc10, rc11, opR, h0, h1, h2, h3, h4, h5, h6, h7, h8, h9, h10, Bool.false_eq_true, if_true, if_false]
  rfl
theorem rcT_9 (b : RS) : rcT 9 b = ({ rec0 9 with id := (tk 3 b).1 }, (tk 3 b).2) := by
  have h0 : (kd 9).id = true := rfl
  have h1 : (kd 9).n = false := rfl
  have h2 : (kd 9).name = false := rfl
  have h3 : (kd 9).key = false := rfl
  have h4 : (kd 9).rule = false := rfl
  have h5 : (kd 9).ver = false := rfl
  have h6 : (kd 9).ask = false := rfl
  have h7 : (kd 9).part = false := rfl
  have h8 : (kd 9).secs = false := rfl
  have h9 : (kd 9).vol = false := rfl
  have h10 : (kd 9).at_ = false := rfl
  simp only [rcT, rc1, rc2, rc3, rc4, rc5, rc6, rc7, rc8, rc9, rc10, rc11, opR, h0, h1, h2, h3, h4, h5, h6, h7, h8, h9, h10, Bool.false_eq_true, if_true, if_false]
  rfl
theorem rcT_10 (b : RS) : rcT 10 b = ({ rec0 10 with id := (tk 3 b).1, name := (tx (tk 3 b).2).1, key := (tx (tx (tk 3 b).2).2).1 }, (tx (tx (tk 3 b).2).2).2) := by
  have h0 : (kd 10).id = true := rfl
  have h1 : (kd 10).n = false := rfl
  have h2 : (kd 10).name = true := rfl
  have h3 : (kd 10).key = true := rfl
  have h4 : (kd 10).rule = false := rfl
  have h5 : (kd 10).ver = false := rfl
  have h6 : (kd 10).ask = false := rfl
  have h7 : (kd 10).part = false := rfl
  have h8 : (kd 10).secs = false := rfl
  have h9 : (kd 10).vol = false := rfl
  have h10 : (kd 10).at_ = false := rfl
  simp only [rcT, rc1, rc2, rc3, rc4, rc5, rc6, rc7, rc8, rc9, rc10, rc11, opR, h0, h1, h2, h3, h4, h5, h6, h7, h8, h9, h10, Bool.false_eq_true, if_true, if_false]
  rfl
theorem rcT_11 (b : RS) : rcT 11 b = ({ rec0 11 with id := (tk 3 b).1, part := (pt (tk 3 b).2).1 }, (pt (tk 3 b).2).2) := by
  have h0 : (kd 11).id = true := rfl
  have h1 : (kd 11).n = false := rfl
  have h2 : (kd 11).name = false := rfl
  have h3 : (kd 11).key = false := rfl
  have h4 : (kd 11).rule = false := rfl
  have h5 : (kd 11).ver = false := rfl
  have h6 : (kd 11).ask = false := rfl
  have h7 : (kd 11).part = true := rfl
  have h8 : (kd 11).secs = false := rfl
  have h9 : (kd 11).vol = false := rfl
  have h10 : (kd 11).at_ = false := rfl
  simp only [rcT, rc1, rc2, rc3, rc4, rc5, rc6, rc7, rc8, rc9, rc10, rc11, opR, h0, h1, h2, h3, h4, h5, h6, h7, h8, h9, h10, Bool.false_eq_true, if_true, if_false]
  rfl
theorem rcT_12 (b : RS) : rcT 12 b = ({ rec0 12 with id := (tk 3 b).1 }, (tk 3 b).2) := by
  have h0 : (kd 12).id = true := rfl
  have h1 : (kd 12).n = false := rfl
  have h2 : (kd 12).name = false := rfl
  have h3 : (kd 12).key = false := rfl
  have h4 : (kd 12).rule = false := rfl
  have h5 : (kd 12).ver = false := rfl
  have h6 : (kd 12).ask = false := rfl
  have h7 : (kd 12).part = false := rfl
  have h8 : (kd 12).secs = false := rfl
  have h9 : (kd 12).vol = false := rfl
  have h10 : (kd 12).at_ = false := rfl
  simp only [rcT, rc1, rc2, rc3, rc4, rc5, rc6, rc7, rc8, rc9, rc10, rc11, opR, h0, h1, h2, h3, h4, h5, h6, h7, h8, h9, h10, Bool.false_eq_true, if_true, if_false]
  rfl
theorem rcT_13 (b : RS) : rcT 13 b = ({ rec0 13 with n := (tk 4 b).1 }, (tk 4 b).2) := by
  have h0 : (kd 13).id = false := rfl
  have h1 : (kd 13).n = true := rfl
  have h2 : (kd 13).name = false := rfl
  have h3 : (kd 13).key = false := rfl
  have h4 : (kd 13).rule = false := rfl
  have h5 : (kd 13).ver = false := rfl
  have h6 : (kd 13).ask = false := rfl
  have h7 : (kd 13).part = false := rfl
  have h8 : (kd 13).secs = false := rfl
  have h9 : (kd 13).vol = false := rfl
  have h10 : (kd 13).at_ = false := rfl
  simp only [rcT, rc1, rc2, rc3, rc4, rc5, rc6, rc7, rc8, rc9, rc10, rc11, opR, h0, h1, h2, h3, h4, h5, h6, h7, h8, h9, h10, Bool.false_eq_true, if_true, if_false]
  rfl
theorem rcT_14 (b : RS) : rcT 14 b = ({ rec0 14 with vol := (tk 1 b).1 }, (tk 1 b).2) := by
  have h0 : (kd 14).id = false := rfl
  have h1 : (kd 14).n = false := rfl
  have h2 : (kd 14).name = false := rfl
  have h3 : (kd 14).key = false := rfl
  have h4 : (kd 14).rule = false := rfl
  have h5 : (kd 14).ver = false := rfl
  have h6 : (kd 14).ask = false := rfl
  have h7 : (kd 14).part = false := rfl
  have h8 : (kd 14).secs = false := rfl
  have h9 : (kd 14).vol = true := rfl
  have h10 : (kd 14).at_ = false := rfl
  simp only [rcT, rc1, rc2, rc3, rc4, rc5, rc6, rc7, rc8, rc9, rc10, rc11, opR, h0, h1, h2, h3, h4, h5, h6, h7, h8, h9, h10, Bool.false_eq_true, if_true, if_false]
  rfl
set_option maxRecDepth 100000 in
set_option maxHeartbeats 64000000 in
theorem rrecord_does {g : Nat} {rv : Value} {s : RS} {G0 : GW} (hW : G0.Wf) (hh : HandsOk G0.w ⟨[⟨g, 56, [rv, .int .i64 s.f]⟩], []⟩) (hM : ∀ k, Hands.A ⟨[⟨g, 56, [rv, .int .i64 s.f]⟩], []⟩ k → G0.M k) (hb : ByG G0 rv s.l) (hK : KindsG G0) :
    Calls Tryd.prog 16 #[.pointer (some ⟨g, 0, none⟩)] G0.w (RetH G0 ⟨[⟨g, 56, [rv, .int .i64 s.f]⟩], []⟩ fun y css R G => R = [] ∧ (∃ vs ps ss, y = .agg (recV (rc s).1 vs ps ss).toArray ∧ RxG G (rc s).1 vs ps ss) ∧ ∃ rv', css = [[rv', .int .i64 (rc s).2.f]] ∧ ByG G rv' (rc s).2.l) := by
  obtain ⟨A, c, rfl, hc1, hc2⟩ := hb.form
  have hml := max_le
  refine enterH (n := 92) 3000 ([.c (.p 0 g 0)]) ([⟨0, g, 56, [.v (.slice A s.l.length c), .v (.int .i64 s.f)]⟩]) rfl hW hh hM Tryd.func16 rfl Tryd.ntmps16 (by simp) ?_
  simp only [go_sem, simprocAttr]
  intro gr
  refine plain_ok (N := 3000) (callH_does ([0]) ([]) ([]) ([]) (fun y css R G => R = [] ∧ y = .int .i64 (tk 1 s).1 ∧ ∃ rv', css = [[rv', .int .i64 (tk 1 s).2.f]] ∧ ByG G rv' (tk 1 s).2.l) upV rfl rfl (by kernel_rfl) rfl (dk rfl) rfl rfl (by simp [ids, Diff]) (by simp) (fun G hG hh hM => take_does' (k := 1) (s := s) hG.wf hh hM (hb.mono (hG.le G0 (by simp))) (.inl (by omega)) (by omega)) (fun v css R G _ _ => upV_den css)) (QOk_body _ _ _) (by first | exact .inl rfl | exact .inr ⟨_, _, rfl, rfl⟩) ?_
  rintro _ ⟨_, css, _, G1, ⟨rfl, rfl, rv1, rfl, hb1⟩, hcs, hle, rfl⟩
  clear hcs hle
  obtain ⟨A1, c1, rfl, hc11, hc12⟩ := hb1.form
  obtain ⟨X1, hX1⟩ : ∃ X, X = (tk 1 s) := ⟨_, rfl⟩
  rw [← hX1] at hb1 hc11 ⊢
  simp only [go_sem, simprocAttr]
  intro gx
  have hN : ∀ G : GW, RxG G (rec0 0) (.slice none 0 0) (.slice none 0 0) (.slice none 0 0) := fun G => ⟨intsQ_nil G, intsQ_nil G, intsQ_nil G⟩
  by_cases hf : X1.2.f = 0
  case neg =>
    have q1 : decide (X1.2.f = 0) = false := decide_eq_false hf
    have e : rc s = (rec0 0, X1.2) := by rw [hX1] at hf ⊢; exact rc_dead hf
    rw [e]
    simp only [go_sem, simprocAttr, q1, Bool.not_false]
    refine fin_retH (G := G0) Tryd.results16 ?_
    simp only [go_sem, simprocAttr]
    intro aa w' _ _
    exact ⟨⟨_, _, _, rfl, hN _⟩, _, rfl, hb1.mono (by apply_assumption <;> simp)⟩
  have q1 : decide (X1.2.f = 0) = true := decide_eq_true hf
  by_cases hk : 1 ≤ X1.1 ∧ X1.1 ≤ 14
  case neg =>
    have e : rc s = (rec0 0, ⟨X1.2.l, 3⟩) := by rw [hX1] at hf hk ⊢; exact rc_kind hf (by omega)
    have q2 : (decide (X1.1 < 1) || decide (14 < X1.1)) = true := by rw [Bool.or_eq_true, decide_eq_true_eq, decide_eq_true_eq]; omega
    rw [e]
    simp only [go_sem, simprocAttr, q1, q2, Bool.not_false]
    refine fin_retH (G := G0) Tryd.results16 ?_
    simp only [go_sem, simprocAttr]
    intro aa w' _ _
    exact ⟨⟨_, _, _, rfl, hN _⟩, _, rfl, hb1.mono (by apply_assumption <;> simp)⟩
  have q2 : decide (X1.1 < 1) = false := decide_eq_false (by omega)
  have q3 : decide (14 < X1.1) = false := decide_eq_false (by omega)
  have hrc : rc s = rcT X1.1 X1.2 := by rw [hX1] at hf hk ⊢; exact rc_good hf hk
  obtain ⟨m, hm⟩ : ∃ m : Nat, X1.1 = (m : Int) := ⟨X1.1.toNat, by omega⟩
  rw [hm] at q2 q3
  rw [hm]
  simp only [go_sem, simprocAttr, q1, q2, q3, Bool.not_true]
  refine plain_ok (N := 3000) (globElem_does (m := m) (cs := kdC (kd (m : Int))) rfl Tryd.underlying62 tySize61 rfl (dk rfl) rfl (by omega) (by decide) (fun G hG => kinds_at (BlkG.mono hK (hG.le G0 (by simp))) (by omega))) (QOk_body _ _ _) (by first | exact .inl rfl | exact .inr ⟨_, _, rfl, rfl⟩) ?_
  rintro _ ⟨GK, rfl⟩
  have hm14 : m = 1 ∨ m = 2 ∨ m = 3 ∨ m = 4 ∨ m = 5 ∨ m = 6 ∨ m = 7 ∨ m = 8 ∨ m = 9 ∨ m = 10 ∨ m = 11 ∨ m = 12 ∨ m = 13 ∨ m = 14 := by omega
  clear q1 q2 q3 hk hf
  rcases hm14 with rfl | rfl | rfl | rfl | rfl | rfl | rfl | rfl | rfl | rfl | rfl | rfl | rfl | rfl
  · simp only [go_sem, simprocAttr, show kdC (kd (1 : Int)) = [.bool false, .bool false, .bool true, .bool false, .bool false, .bool false, .bool false, .bool false, .bool false, .bool false, .bool false] from rfl]
    intro g2
    refine plain_ok (N := 3000) (callH_does ([0]) ([]) ([]) ([]) (fun y css R G => R = [] ∧ y = .string (tx X1.2).1 ∧ ∃ rv', css = [[rv', .int .i64 (tx X1.2).2.f]] ∧ ByG G rv' (tx X1.2).2.l) upV rfl rfl (by kernel_rfl) rfl (dk rfl) rfl rfl (by simp [ids, Diff]) (by simp) (fun G hG hh hM => rtext_does (s := X1.2) hG.wf hh hM (hb1.mono (hG.le G1 (by simp)))) (fun v css R G _ _ => upV_den css)) (QOk_body _ _ _) (by first | exact .inl rfl | exact .inr ⟨_, _, rfl, rfl⟩) ?_
    rintro _ ⟨_, css, _, G2, ⟨rfl, rfl, rv2, rfl, hb2⟩, hcs, hle, rfl⟩
    clear hcs hle
    obtain ⟨A2, c2, rfl, hc21, hc22⟩ := hb2.form
    obtain ⟨X2, hX2⟩ : ∃ X, X = (tx X1.2) := ⟨_, rfl⟩
    rw [← hX2] at hb2 hc21 ⊢
    simp only [go_sem, simprocAttr, verV]
    have e : rc s = ({ rec0 1 with name := X2.1 }, X2.2) := by
      rw [hrc, hm]
      show rcT 1 X1.2 = _
      rw [rcT_1]
      subst hX2
      rfl
    rw [e]
    refine fin_retH (G := G0) Tryd.results16 ?_
    simp only [go_sem, simprocAttr]
    intro aa w' _ _
    exact ⟨⟨_, _, _, rfl, ⟨intsQ_nil _, intsQ_nil _, intsQ_nil _⟩⟩, _, rfl, hb2.mono (by apply_assumption <;> simp)⟩
  · simp only [go_sem, simprocAttr, show kdC (kd (2 : Int)) = [.bool false, .bool true, .bool true, .bool false, .bool false, .bool false, .bool false, .bool false, .bool false, .bool false, .bool false] from rfl]
    intro g2
    refine plain_ok (N := 3000) (callH_does ([0]) ([]) ([]) ([]) (fun y css R G => R = [] ∧ y = .string (tx X1.2).1 ∧ ∃ rv', css = [[rv', .int .i64 (tx X1.2).2.f]] ∧ ByG G rv' (tx X1.2).2.l) upV rfl rfl (by kernel_rfl) rfl (dk rfl) rfl rfl (by simp [ids, Diff]) (by simp) (fun G hG hh hM => rtext_does (s := X1.2) hG.wf hh hM (hb1.mono (hG.le G1 (by simp)))) (fun v css R G _ _ => upV_den css)) (QOk_body _ _ _) (by first | exact .inl rfl | exact .inr ⟨_, _, rfl, rfl⟩) ?_
    rintro _ ⟨_, css, _, G2, ⟨rfl, rfl, rv2, rfl, hb2⟩, hcs, hle, rfl⟩
    clear hcs hle
    obtain ⟨A2, c2, rfl, hc21, hc22⟩ := hb2.form
    obtain ⟨X2, hX2⟩ : ∃ X, X = (tx X1.2) := ⟨_, rfl⟩
    rw [← hX2] at hb2 hc21 ⊢
    simp only [go_sem, simprocAttr, verV]
    refine plain_ok (N := 3000) (callH_does ([0]) ([]) ([]) ([]) (fun y css R G => R = [] ∧ y = .int .i64 (tk 4 X2.2).1 ∧ ∃ rv', css = [[rv', .int .i64 (tk 4 X2.2).2.f]] ∧ ByG G rv' (tk 4 X2.2).2.l) upV rfl rfl (by kernel_rfl) rfl (dk rfl) rfl rfl (by simp [ids, Diff]) (by simp) (fun G hG hh hM => take_does' (k := 4) (s := X2.2) hG.wf hh hM (hb2.mono (hG.le G2 (by simp))) (.inl (by omega)) (by omega)) (fun v css R G _ _ => upV_den css)) (QOk_body _ _ _) (by first | exact .inl rfl | exact .inr ⟨_, _, rfl, rfl⟩) ?_
    rintro _ ⟨_, css, _, G3, ⟨rfl, rfl, rv3, rfl, hb3⟩, hcs, hle, rfl⟩
    clear hcs hle
    obtain ⟨A3, c3, rfl, hc31, hc32⟩ := hb3.form
    obtain ⟨X3, hX3⟩ : ∃ X, X = (tk 4 X2.2) := ⟨_, rfl⟩
    rw [← hX3] at hb3 hc31 ⊢
    simp only [go_sem, simprocAttr, verV]
    have e : rc s = ({ rec0 2 with name := X2.1, n := X3.1 }, X3.2) := by
      rw [hrc, hm]
      show rcT 2 X1.2 = _
      rw [rcT_2]
      subst hX3
      subst hX2
      rfl
    rw [e]
    refine fin_retH (G := G0) Tryd.results16 ?_
    simp only [go_sem, simprocAttr]
    intro aa w' _ _
    exact ⟨⟨_, _, _, rfl, ⟨intsQ_nil _, intsQ_nil _, intsQ_nil _⟩⟩, _, rfl, hb3.mono (by apply_assumption <;> simp)⟩
  · simp only [go_sem, simprocAttr, show kdC (kd (3 : Int)) = [.bool false, .bool false, .bool true, .bool false, .bool true, .bool false, .bool false, .bool false, .bool false, .bool false, .bool false] from rfl]
    intro g2
    refine plain_ok (N := 3000) (callH_does ([0]) ([]) ([]) ([]) (fun y css R G => R = [] ∧ y = .string (tx X1.2).1 ∧ ∃ rv', css = [[rv', .int .i64 (tx X1.2).2.f]] ∧ ByG G rv' (tx X1.2).2.l) upV rfl rfl (by kernel_rfl) rfl (dk rfl) rfl rfl (by simp [ids, Diff]) (by simp) (fun G hG hh hM => rtext_does (s := X1.2) hG.wf hh hM (hb1.mono (hG.le G1 (by simp)))) (fun v css R G _ _ => upV_den css)) (QOk_body _ _ _) (by first | exact .inl rfl | exact .inr ⟨_, _, rfl, rfl⟩) ?_
    rintro _ ⟨_, css, _, G2, ⟨rfl, rfl, rv2, rfl, hb2⟩, hcs, hle, rfl⟩
    clear hcs hle
    obtain ⟨A2, c2, rfl, hc21, hc22⟩ := hb2.form
    obtain ⟨X2, hX2⟩ : ∃ X, X = (tx X1.2) := ⟨_, rfl⟩
    rw [← hX2] at hb2 hc21 ⊢
    simp only [go_sem, simprocAttr, verV]
    refine plain_ok (N := 3000) (callH_does ([0]) ([]) ([]) ([]) (fun y css R G => R = [] ∧ y = .agg #[.string (rl X2.2).1.pre, .int .i64 (rl X2.2).1.freeze, .int .i64 (rl X2.2).1.drop] ∧ ∃ rv', css = [[rv', .int .i64 (rl X2.2).2.f]] ∧ ByG G rv' (rl X2.2).2.l) upV rfl rfl (by kernel_rfl) rfl (dk rfl) rfl rfl (by simp [ids, Diff]) (by simp) (fun G hG hh hM => rule_does (s := X2.2) hG.wf hh hM (hb2.mono (hG.le G2 (by simp)))) (fun v css R G _ _ => upV_den css)) (QOk_body _ _ _) (by first | exact .inl rfl | exact .inr ⟨_, _, rfl, rfl⟩) ?_
    rintro _ ⟨_, css, _, G3, ⟨rfl, rfl, rv3, rfl, hb3⟩, hcs, hle, rfl⟩
    clear hcs hle
    obtain ⟨A3, c3, rfl, hc31, hc32⟩ := hb3.form
    obtain ⟨X3, hX3⟩ : ∃ X, X = (rl X2.2) := ⟨_, rfl⟩
    rw [← hX3] at hb3 hc31 ⊢
    simp only [go_sem, simprocAttr, verV]
    have e : rc s = ({ rec0 3 with name := X2.1, rule := X3.1 }, X3.2) := by
      rw [hrc, hm]
      show rcT 3 X1.2 = _
      rw [rcT_3]
      subst hX3
      subst hX2
      rfl
    rw [e]
    refine fin_retH (G := G0) Tryd.results16 ?_
    simp only [go_sem, simprocAttr]
    intro aa w' _ _
    exact ⟨⟨_, _, _, rfl, ⟨intsQ_nil _, intsQ_nil _, intsQ_nil _⟩⟩, _, rfl, hb3.mono (by apply_assumption <;> simp)⟩
  · simp only [go_sem, simprocAttr, show kdC (kd (4 : Int)) = [.bool false, .bool false, .bool false, .bool false, .bool false, .bool true, .bool false, .bool false, .bool false, .bool false, .bool false] from rfl]
    intro g2
    refine plain_ok (N := 3000) (callH_does ([0]) ([]) ([]) ([]) (fun y css R G => R = [] ∧ (∃ sv, y = .agg (verV (vr X1.2).1 sv).toArray ∧ IntsG G sv (vr X1.2).1.secs) ∧ ∃ rv', css = [[rv', .int .i64 (vr X1.2).2.f]] ∧ ByG G rv' (vr X1.2).2.l) upV rfl rfl (by kernel_rfl) rfl (dk rfl) rfl rfl (by simp [ids, Diff]) (by simp) (fun G hG hh hM => rversion_does (s := X1.2) hG.wf hh hM (hb1.mono (hG.le G1 (by simp)))) (fun v css R G _ _ => upV_den css)) (QOk_body _ _ _) (by first | exact .inl rfl | exact .inr ⟨_, _, rfl, rfl⟩) ?_
    rintro _ ⟨_, css, _, G2, ⟨rfl, ⟨sv, rfl, hiv⟩, rv2, rfl, hb2⟩, hcs, hle, rfl⟩
    clear hcs hle
    obtain ⟨A2, c2, rfl, hc21, hc22⟩ := hb2.form
    obtain ⟨X2, hX2⟩ : ∃ X, X = (vr X1.2) := ⟨_, rfl⟩
    rw [← hX2] at hb2 hc21 hiv ⊢
    obtain ⟨AI, ci, rfl, _⟩ := Sq.form hiv
    simp only [go_sem, simprocAttr, verV]
    have e : rc s = ({ rec0 4 with ver := X2.1 }, X2.2) := by
      rw [hrc, hm]
      show rcT 4 X1.2 = _
      rw [rcT_4]
      subst hX2
      rfl
    rw [e]
    refine fin_retH (G := G0) Tryd.results16 ?_
    simp only [go_sem, simprocAttr]
    intro aa w' _ _
    exact ⟨⟨_, _, _, rfl, ⟨hiv.mono (by apply_assumption <;> simp), intsQ_nil _, intsQ_nil _⟩⟩, _, rfl, hb2.mono (by apply_assumption <;> simp)⟩
  · simp only [go_sem, simprocAttr, show kdC (kd (5 : Int)) = [.bool true, .bool false, .bool false, .bool false, .bool false, .bool false, .bool false, .bool false, .bool false, .bool false, .bool false] from rfl]
    intro g2
    refine plain_ok (N := 3000) (callH_does ([0]) ([]) ([]) ([]) (fun y css R G => R = [] ∧ y = .int .i64 (tk 3 X1.2).1 ∧ ∃ rv', css = [[rv', .int .i64 (tk 3 X1.2).2.f]] ∧ ByG G rv' (tk 3 X1.2).2.l) upV rfl rfl (by kernel_rfl) rfl (dk rfl) rfl rfl (by simp [ids, Diff]) (by simp) (fun G hG hh hM => take_does' (k := 3) (s := X1.2) hG.wf hh hM (hb1.mono (hG.le G1 (by simp))) (.inl (by omega)) (by omega)) (fun v css R G _ _ => upV_den css)) (QOk_body _ _ _) (by first | exact .inl rfl | exact .inr ⟨_, _, rfl, rfl⟩) ?_
    rintro _ ⟨_, css, _, G2, ⟨rfl, rfl, rv2, rfl, hb2⟩, hcs, hle, rfl⟩
    clear hcs hle
    obtain ⟨A2, c2, rfl, hc21, hc22⟩ := hb2.form
    obtain ⟨X2, hX2⟩ : ∃ X, X = (tk 3 X1.2) := ⟨_, rfl⟩
    rw [← hX2] at hb2 hc21 ⊢
    simp only [go_sem, simprocAttr, verV]
    have e : rc s = ({ rec0 5 with id := X2.1 }, X2.2) := by
      rw [hrc, hm]
      show rcT 5 X1.2 = _
      rw [rcT_5]
      subst hX2
      rfl
    rw [e]
    refine fin_retH (G := G0) Tryd.results16 ?_
    simp only [go_sem, simprocAttr]
    intro aa w' _ _
    exact ⟨⟨_, _, _, rfl, ⟨intsQ_nil _, intsQ_nil _, intsQ_nil _⟩⟩, _, rfl, hb2.mono (by apply_assumption <;> simp)⟩
  · simp only [go_sem, simprocAttr, show kdC (kd (6 : Int)) = [.bool true, .bool false, .bool false, .bool false, .bool false, .bool false, .bool false, .bool false, .bool false, .bool true, .bool true] from rfl]
    intro g2
    refine plain_ok (N := 3000) (callH_does ([0]) ([]) ([]) ([]) (fun y css R G => R = [] ∧ y = .int .i64 (tk 3 X1.2).1 ∧ ∃ rv', css = [[rv', .int .i64 (tk 3 X1.2).2.f]] ∧ ByG G rv' (tk 3 X1.2).2.l) upV rfl rfl (by kernel_rfl) rfl (dk rfl) rfl rfl (by simp [ids, Diff]) (by simp) (fun G hG hh hM => take_does' (k := 3) (s := X1.2) hG.wf hh hM (hb1.mono (hG.le G1 (by simp))) (.inl (by omega)) (by omega)) (fun v css R G _ _ => upV_den css)) (QOk_body _ _ _) (by first | exact .inl rfl | exact .inr ⟨_, _, rfl, rfl⟩) ?_
    rintro _ ⟨_, css, _, G2, ⟨rfl, rfl, rv2, rfl, hb2⟩, hcs, hle, rfl⟩
    clear hcs hle
    obtain ⟨A2, c2, rfl, hc21, hc22⟩ := hb2.form
    obtain ⟨X2, hX2⟩ : ∃ X, X = (tk 3 X1.2) := ⟨_, rfl⟩
    rw [← hX2] at hb2 hc21 ⊢
    simp only [go_sem, simprocAttr, verV]
    refine plain_ok (N := 3000) (callH_does ([0]) ([]) ([]) ([]) (fun y css R G => R = [] ∧ y = .int .i64 (tk 1 X2.2).1 ∧ ∃ rv', css = [[rv', .int .i64 (tk 1 X2.2).2.f]] ∧ ByG G rv' (tk 1 X2.2).2.l) upV rfl rfl (by kernel_rfl) rfl (dk rfl) rfl rfl (by simp [ids, Diff]) (by simp) (fun G hG hh hM => take_does' (k := 1) (s := X2.2) hG.wf hh hM (hb2.mono (hG.le G2 (by simp))) (.inl (by omega)) (by omega)) (fun v css R G _ _ => upV_den css)) (QOk_body _ _ _) (by first | exact .inl rfl | exact .inr ⟨_, _, rfl, rfl⟩) ?_
    rintro _ ⟨_, css, _, G3, ⟨rfl, rfl, rv3, rfl, hb3⟩, hcs, hle, rfl⟩
    clear hcs hle
    obtain ⟨A3, c3, rfl, hc31, hc32⟩ := hb3.form
    obtain ⟨X3, hX3⟩ : ∃ X, X = (tk 1 X2.2) := ⟨_, rfl⟩
    rw [← hX3] at hb3 hc31 ⊢
    simp only [go_sem, simprocAttr, verV]
    refine plain_ok (N := 3000) (callH_does ([0]) ([]) ([]) ([]) (fun y css R G => R = [] ∧ y = .int .i64 (tk 2 X3.2).1 ∧ ∃ rv', css = [[rv', .int .i64 (tk 2 X3.2).2.f]] ∧ ByG G rv' (tk 2 X3.2).2.l) upV rfl rfl (by kernel_rfl) rfl (dk rfl) rfl rfl (by simp [ids, Diff]) (by simp) (fun G hG hh hM => take_does' (k := 2) (s := X3.2) hG.wf hh hM (hb3.mono (hG.le G3 (by simp))) (.inl (by omega)) (by omega)) (fun v css R G _ _ => upV_den css)) (QOk_body _ _ _) (by first | exact .inl rfl | exact .inr ⟨_, _, rfl, rfl⟩) ?_
    rintro _ ⟨_, css, _, G4, ⟨rfl, rfl, rv4, rfl, hb4⟩, hcs, hle, rfl⟩
    clear hcs hle
    obtain ⟨A4, c4, rfl, hc41, hc42⟩ := hb4.form
    obtain ⟨X4, hX4⟩ : ∃ X, X = (tk 2 X3.2) := ⟨_, rfl⟩
    rw [← hX4] at hb4 hc41 ⊢
    simp only [go_sem, simprocAttr, verV]
    have e : rc s = ({ rec0 6 with id := X2.1, vol := X3.1, at_ := X4.1 }, X4.2) := by
      rw [hrc, hm]
      show rcT 6 X1.2 = _
      rw [rcT_6]
      subst hX4
      subst hX3
      subst hX2
      rfl
    rw [e]
    refine fin_retH (G := G0) Tryd.results16 ?_
    simp only [go_sem, simprocAttr]
    intro aa w' _ _
    exact ⟨⟨_, _, _, rfl, ⟨intsQ_nil _, intsQ_nil _, intsQ_nil _⟩⟩, _, rfl, hb4.mono (by apply_assumption <;> simp)⟩
  · simp only [go_sem, simprocAttr, show kdC (kd (7 : Int)) = [.bool false, .bool false, .bool false, .bool false, .bool false, .bool false, .bool true, .bool false, .bool false, .bool false, .bool false] from rfl]
    intro g2
    refine plain_ok (N := 3000) (callH_does ([0]) ([]) ([]) ([]) (fun y css R G => R = [] ∧ y = .agg #[.int .i64 (ak X1.2).1.ver, .int .i64 (ak X1.2).1.days, .int .i64 (ak X1.2).1.cls] ∧ ∃ rv', css = [[rv', .int .i64 (ak X1.2).2.f]] ∧ ByG G rv' (ak X1.2).2.l) upV rfl rfl (by kernel_rfl) rfl (dk rfl) rfl rfl (by simp [ids, Diff]) (by simp) (fun G hG hh hM => ask_does' (s := X1.2) hG.wf hh hM (hb1.mono (hG.le G1 (by simp)))) (fun v css R G _ _ => upV_den css)) (QOk_body _ _ _) (by first | exact .inl rfl | exact .inr ⟨_, _, rfl, rfl⟩) ?_
    rintro _ ⟨_, css, _, G2, ⟨rfl, rfl, rv2, rfl, hb2⟩, hcs, hle, rfl⟩
    clear hcs hle
    obtain ⟨A2, c2, rfl, hc21, hc22⟩ := hb2.form
    obtain ⟨X2, hX2⟩ : ∃ X, X = (ak X1.2) := ⟨_, rfl⟩
    rw [← hX2] at hb2 hc21 ⊢
    simp only [go_sem, simprocAttr, verV]
    have e : rc s = ({ rec0 7 with ask := X2.1 }, X2.2) := by
      rw [hrc, hm]
      show rcT 7 X1.2 = _
      rw [rcT_7]
      subst hX2
      rfl
    rw [e]
    refine fin_retH (G := G0) Tryd.results16 ?_
    simp only [go_sem, simprocAttr]
    intro aa w' _ _
    exact ⟨⟨_, _, _, rfl, ⟨intsQ_nil _, intsQ_nil _, intsQ_nil _⟩⟩, _, rfl, hb2.mono (by apply_assumption <;> simp)⟩
  · simp only [go_sem, simprocAttr, show kdC (kd (8 : Int)) = [.bool true, .bool true, .bool false, .bool false, .bool false, .bool false, .bool false, .bool false, .bool true, .bool false, .bool false] from rfl]
    intro g2
    refine plain_ok (N := 3000) (callH_does ([0]) ([]) ([]) ([]) (fun y css R G => R = [] ∧ y = .int .i64 (tk 3 X1.2).1 ∧ ∃ rv', css = [[rv', .int .i64 (tk 3 X1.2).2.f]] ∧ ByG G rv' (tk 3 X1.2).2.l) upV rfl rfl (by kernel_rfl) rfl (dk rfl) rfl rfl (by simp [ids, Diff]) (by simp) (fun G hG hh hM => take_does' (k := 3) (s := X1.2) hG.wf hh hM (hb1.mono (hG.le G1 (by simp))) (.inl (by omega)) (by omega)) (fun v css R G _ _ => upV_den css)) (QOk_body _ _ _) (by first | exact .inl rfl | exact .inr ⟨_, _, rfl, rfl⟩) ?_
    rintro _ ⟨_, css, _, G2, ⟨rfl, rfl, rv2, rfl, hb2⟩, hcs, hle, rfl⟩
    clear hcs hle
    obtain ⟨A2, c2, rfl, hc21, hc22⟩ := hb2.form
    obtain ⟨X2, hX2⟩ : ∃ X, X = (tk 3 X1.2) := ⟨_, rfl⟩
    rw [← hX2] at hb2 hc21 ⊢
    simp only [go_sem, simprocAttr, verV]
    refine plain_ok (N := 3000) (callH_does ([0]) ([]) ([]) ([]) (fun y css R G => R = [] ∧ y = .int .i64 (tk 4 X2.2).1 ∧ ∃ rv', css = [[rv', .int .i64 (tk 4 X2.2).2.f]] ∧ ByG G rv' (tk 4 X2.2).2.l) upV rfl rfl (by kernel_rfl) rfl (dk rfl) rfl rfl (by simp [ids, Diff]) (by simp) (fun G hG hh hM => take_does' (k := 4) (s := X2.2) hG.wf hh hM (hb2.mono (hG.le G2 (by simp))) (.inl (by omega)) (by omega)) (fun v css R G _ _ => upV_den css)) (QOk_body _ _ _) (by first | exact .inl rfl | exact .inr ⟨_, _, rfl, rfl⟩) ?_
    rintro _ ⟨_, css, _, G3, ⟨rfl, rfl, rv3, rfl, hb3⟩, hcs, hle, rfl⟩
    clear hcs hle
    obtain ⟨A3, c3, rfl, hc31, hc32⟩ := hb3.form
    obtain ⟨X3, hX3⟩ : ∃ X, X = (tk 4 X2.2) := ⟨_, rfl⟩
    rw [← hX3] at hb3 hc31 ⊢
    simp only [go_sem, simprocAttr, verV]
    refine plain_ok (N := 3000) (callH_does ([0]) ([]) ([]) ([]) (fun y css R G => R = [] ∧ IntsG G y (its X3.2).1 ∧ ∃ rv', css = [[rv', .int .i64 (its X3.2).2.f]] ∧ ByG G rv' (its X3.2).2.l) upV rfl rfl (by kernel_rfl) rfl (dk rfl) rfl rfl (by simp [ids, Diff]) (by simp) (fun G hG hh hM => ints_does (s := X3.2) hG.wf hh hM (hb3.mono (hG.le G3 (by simp)))) (fun v css R G _ _ => upV_den css)) (QOk_body _ _ _) (by first | exact .inl rfl | exact .inr ⟨_, _, rfl, rfl⟩) ?_
    rintro _ ⟨_, css, _, G4, ⟨rfl, hiv, rv4, rfl, hb4⟩, hcs, hle, rfl⟩
    clear hcs hle
    obtain ⟨A4, c4, rfl, hc41, hc42⟩ := hb4.form
    obtain ⟨X4, hX4⟩ : ∃ X, X = (its X3.2) := ⟨_, rfl⟩
    rw [← hX4] at hb4 hc41 hiv ⊢
    obtain ⟨AI, ci, rfl, _⟩ := Sq.form hiv
    simp only [go_sem, simprocAttr, verV]
    have e : rc s = ({ rec0 8 with id := X2.1, n := X3.1, secs := X4.1 }, X4.2) := by
      rw [hrc, hm]
      show rcT 8 X1.2 = _
      rw [rcT_8]
      subst hX4
      subst hX3
      subst hX2
      rfl
    rw [e]
    refine fin_retH (G := G0) Tryd.results16 ?_
    simp only [go_sem, simprocAttr]
    intro aa w' _ _
    exact ⟨⟨_, _, _, rfl, ⟨intsQ_nil _, intsQ_nil _, hiv.mono (by apply_assumption <;> simp)⟩⟩, _, rfl, hb4.mono (by apply_assumption <;> simp)⟩
  · simp only [go_sem, simprocAttr, show kdC (kd (9 : Int)) = [.bool true, .bool false, .bool false, .bool false, .bool false, .bool false, .bool false, .bool false, .bool false, .bool false, .bool false] from rfl]
    intro g2
    refine plain_ok (N := 3000) (callH_does ([0]) ([]) ([]) ([]) (fun y css R G => R = [] ∧ y = .int .i64 (tk 3 X1.2).1 ∧ ∃ rv', css = [[rv', .int .i64 (tk 3 X1.2).2.f]] ∧ ByG G rv' (tk 3 X1.2).2.l) upV rfl rfl (by kernel_rfl) rfl (dk rfl) rfl rfl (by simp [ids, Diff]) (by simp) (fun G hG hh hM => take_does' (k := 3) (s := X1.2) hG.wf hh hM (hb1.mono (hG.le G1 (by simp))) (.inl (by omega)) (by omega)) (fun v css R G _ _ => upV_den css)) (QOk_body _ _ _) (by first | exact .inl rfl | exact .inr ⟨_, _, rfl, rfl⟩) ?_
    rintro _ ⟨_, css, _, G2, ⟨rfl, rfl, rv2, rfl, hb2⟩, hcs, hle, rfl⟩
    clear hcs hle
    obtain ⟨A2, c2, rfl, hc21, hc22⟩ := hb2.form
    obtain ⟨X2, hX2⟩ : ∃ X, X = (tk 3 X1.2) := ⟨_, rfl⟩
    rw [← hX2] at hb2 hc21 ⊢
    simp only [go_sem, simprocAttr, verV]
    have e : rc s = ({ rec0 9 with id := X2.1 }, X2.2) := by
      rw [hrc, hm]
      show rcT 9 X1.2 = _
      rw [rcT_9]
      subst hX2
      rfl
    rw [e]
    refine fin_retH (G := G0) Tryd.results16 ?_
    simp only [go_sem, simprocAttr]
    intro aa w' _ _
    exact ⟨⟨_, _, _, rfl, ⟨intsQ_nil _, intsQ_nil _, intsQ_nil _⟩⟩, _, rfl, hb2.mono (by apply_assumption <;> simp)⟩
  · simp only [go_sem, simprocAttr, show kdC (kd (10 : Int)) = [.bool true, .bool false, .bool true, .bool true, .bool false, .bool false, .bool false, .bool false, .bool false, .bool false, .bool false] from rfl]
    intro g2
    refine plain_ok (N := 3000) (callH_does ([0]) ([]) ([]) ([]) (fun y css R G => R = [] ∧ y = .int .i64 (tk 3 X1.2).1 ∧ ∃ rv', css = [[rv', .int .i64 (tk 3 X1.2).2.f]] ∧ ByG G rv' (tk 3 X1.2).2.l) upV rfl rfl (by kernel_rfl) rfl (dk rfl) rfl rfl (by simp [ids, Diff]) (by simp) (fun G hG hh hM => take_does' (k := 3) (s := X1.2) hG.wf hh hM (hb1.mono (hG.le G1 (by simp))) (.inl (by omega)) (by omega)) (fun v css R G _ _ => upV_den css)) (QOk_body _ _ _) (by first | exact .inl rfl | exact .inr ⟨_, _, rfl, rfl⟩) ?_
    rintro _ ⟨_, css, _, G2, ⟨rfl, rfl, rv2, rfl, hb2⟩, hcs, hle, rfl⟩
    clear hcs hle
    obtain ⟨A2, c2, rfl, hc21, hc22⟩ := hb2.form
    obtain ⟨X2, hX2⟩ : ∃ X, X = (tk 3 X1.2) := ⟨_, rfl⟩
    rw [← hX2] at hb2 hc21 ⊢
    simp only [go_sem, simprocAttr, verV]
    refine plain_ok (N := 3000) (callH_does ([0]) ([]) ([]) ([]) (fun y css R G => R = [] ∧ y = .string (tx X2.2).1 ∧ ∃ rv', css = [[rv', .int .i64 (tx X2.2).2.f]] ∧ ByG G rv' (tx X2.2).2.l) upV rfl rfl (by kernel_rfl) rfl (dk rfl) rfl rfl (by simp [ids, Diff]) (by simp) (fun G hG hh hM => rtext_does (s := X2.2) hG.wf hh hM (hb2.mono (hG.le G2 (by simp)))) (fun v css R G _ _ => upV_den css)) (QOk_body _ _ _) (by first | exact .inl rfl | exact .inr ⟨_, _, rfl, rfl⟩) ?_
    rintro _ ⟨_, css, _, G3, ⟨rfl, rfl, rv3, rfl, hb3⟩, hcs, hle, rfl⟩
    clear hcs hle
    obtain ⟨A3, c3, rfl, hc31, hc32⟩ := hb3.form
    obtain ⟨X3, hX3⟩ : ∃ X, X = (tx X2.2) := ⟨_, rfl⟩
    rw [← hX3] at hb3 hc31 ⊢
    simp only [go_sem, simprocAttr, verV]
    refine plain_ok (N := 3000) (callH_does ([0]) ([]) ([]) ([]) (fun y css R G => R = [] ∧ y = .string (tx X3.2).1 ∧ ∃ rv', css = [[rv', .int .i64 (tx X3.2).2.f]] ∧ ByG G rv' (tx X3.2).2.l) upV rfl rfl (by kernel_rfl) rfl (dk rfl) rfl rfl (by simp [ids, Diff]) (by simp) (fun G hG hh hM => rtext_does (s := X3.2) hG.wf hh hM (hb3.mono (hG.le G3 (by simp)))) (fun v css R G _ _ => upV_den css)) (QOk_body _ _ _) (by first | exact .inl rfl | exact .inr ⟨_, _, rfl, rfl⟩) ?_
    rintro _ ⟨_, css, _, G4, ⟨rfl, rfl, rv4, rfl, hb4⟩, hcs, hle, rfl⟩
    clear hcs hle
    obtain ⟨A4, c4, rfl, hc41, hc42⟩ := hb4.form
    obtain ⟨X4, hX4⟩ : ∃ X, X = (tx X3.2) := ⟨_, rfl⟩
    rw [← hX4] at hb4 hc41 ⊢
    simp only [go_sem, simprocAttr, verV]
    have e : rc s = ({ rec0 10 with id := X2.1, name := X3.1, key := X4.1 }, X4.2) := by
      rw [hrc, hm]
      show rcT 10 X1.2 = _
      rw [rcT_10]
      subst hX4
      subst hX3
      subst hX2
      rfl
    rw [e]
    refine fin_retH (G := G0) Tryd.results16 ?_
    simp only [go_sem, simprocAttr]
    intro aa w' _ _
    exact ⟨⟨_, _, _, rfl, ⟨intsQ_nil _, intsQ_nil _, intsQ_nil _⟩⟩, _, rfl, hb4.mono (by apply_assumption <;> simp)⟩
  · simp only [go_sem, simprocAttr, show kdC (kd (11 : Int)) = [.bool true, .bool false, .bool false, .bool false, .bool false, .bool false, .bool false, .bool true, .bool false, .bool false, .bool false] from rfl]
    intro g2
    refine plain_ok (N := 3000) (callH_does ([0]) ([]) ([]) ([]) (fun y css R G => R = [] ∧ y = .int .i64 (tk 3 X1.2).1 ∧ ∃ rv', css = [[rv', .int .i64 (tk 3 X1.2).2.f]] ∧ ByG G rv' (tk 3 X1.2).2.l) upV rfl rfl (by kernel_rfl) rfl (dk rfl) rfl rfl (by simp [ids, Diff]) (by simp) (fun G hG hh hM => take_does' (k := 3) (s := X1.2) hG.wf hh hM (hb1.mono (hG.le G1 (by simp))) (.inl (by omega)) (by omega)) (fun v css R G _ _ => upV_den css)) (QOk_body _ _ _) (by first | exact .inl rfl | exact .inr ⟨_, _, rfl, rfl⟩) ?_
    rintro _ ⟨_, css, _, G2, ⟨rfl, rfl, rv2, rfl, hb2⟩, hcs, hle, rfl⟩
    clear hcs hle
    obtain ⟨A2, c2, rfl, hc21, hc22⟩ := hb2.form
    obtain ⟨X2, hX2⟩ : ∃ X, X = (tk 3 X1.2) := ⟨_, rfl⟩
    rw [← hX2] at hb2 hc21 ⊢
    simp only [go_sem, simprocAttr, verV]
    refine plain_ok (N := 3000) (callH_does ([0]) ([]) ([]) ([]) (fun y css R G => R = [] ∧ (∃ sv, y = .agg #[.int .i64 (pt X2.2).1.n, .int .i64 (pt X2.2).1.size, sv] ∧ IntsG G sv (pt X2.2).1.secs) ∧ ∃ rv', css = [[rv', .int .i64 (pt X2.2).2.f]] ∧ ByG G rv' (pt X2.2).2.l) upV rfl rfl (by kernel_rfl) rfl (dk rfl) rfl rfl (by simp [ids, Diff]) (by simp) (fun G hG hh hM => part_does (s := X2.2) hG.wf hh hM (hb2.mono (hG.le G2 (by simp)))) (fun v css R G _ _ => upV_den css)) (QOk_body _ _ _) (by first | exact .inl rfl | exact .inr ⟨_, _, rfl, rfl⟩) ?_
    rintro _ ⟨_, css, _, G3, ⟨rfl, ⟨sv, rfl, hiv⟩, rv3, rfl, hb3⟩, hcs, hle, rfl⟩
    clear hcs hle
    obtain ⟨A3, c3, rfl, hc31, hc32⟩ := hb3.form
    obtain ⟨X3, hX3⟩ : ∃ X, X = (pt X2.2) := ⟨_, rfl⟩
    rw [← hX3] at hb3 hc31 hiv ⊢
    obtain ⟨AI, ci, rfl, _⟩ := Sq.form hiv
    simp only [go_sem, simprocAttr, verV]
    have e : rc s = ({ rec0 11 with id := X2.1, part := X3.1 }, X3.2) := by
      rw [hrc, hm]
      show rcT 11 X1.2 = _
      rw [rcT_11]
      subst hX3
      subst hX2
      rfl
    rw [e]
    refine fin_retH (G := G0) Tryd.results16 ?_
    simp only [go_sem, simprocAttr]
    intro aa w' _ _
    exact ⟨⟨_, _, _, rfl, ⟨intsQ_nil _, hiv.mono (by apply_assumption <;> simp), intsQ_nil _⟩⟩, _, rfl, hb3.mono (by apply_assumption <;> simp)⟩
  · simp only [go_sem, simprocAttr, show kdC (kd (12 : Int)) = [.bool true, .bool false, .bool false, .bool false, .bool false, .bool false, .bool false, .bool false, .bool false, .bool false, .bool false] from rfl]
    intro g2
    refine plain_ok (N := 3000) (callH_does ([0]) ([]) ([]) ([]) (fun y css R G => R = [] ∧ y = .int .i64 (tk 3 X1.2).1 ∧ ∃ rv', css = [[rv', .int .i64 (tk 3 X1.2).2.f]] ∧ ByG G rv' (tk 3 X1.2).2.l) upV rfl rfl (by kernel_rfl) rfl (dk rfl) rfl rfl (by simp [ids, Diff]) (by simp) (fun G hG hh hM => take_does' (k := 3) (s := X1.2) hG.wf hh hM (hb1.mono (hG.le G1 (by simp))) (.inl (by omega)) (by omega)) (fun v css R G _ _ => upV_den css)) (QOk_body _ _ _) (by first | exact .inl rfl | exact .inr ⟨_, _, rfl, rfl⟩) ?_
    rintro _ ⟨_, css, _, G2, ⟨rfl, rfl, rv2, rfl, hb2⟩, hcs, hle, rfl⟩
    clear hcs hle
    obtain ⟨A2, c2, rfl, hc21, hc22⟩ := hb2.form
    obtain ⟨X2, hX2⟩ : ∃ X, X = (tk 3 X1.2) := ⟨_, rfl⟩
    rw [← hX2] at hb2 hc21 ⊢
    simp only [go_sem, simprocAttr, verV]
    have e : rc s = ({ rec0 12 with id := X2.1 }, X2.2) := by
      rw [hrc, hm]
      show rcT 12 X1.2 = _
      rw [rcT_12]
      subst hX2
      rfl
    rw [e]
    refine fin_retH (G := G0) Tryd.results16 ?_
    simp only [go_sem, simprocAttr]
    intro aa w' _ _
    exact ⟨⟨_, _, _, rfl, ⟨intsQ_nil _, intsQ_nil _, intsQ_nil _⟩⟩, _, rfl, hb2.mono (by apply_assumption <;> simp)⟩
  · simp only [go_sem, simprocAttr, show kdC (kd (13 : Int)) = [.bool false, .bool true, .bool false, .bool false, .bool false, .bool false, .bool false, .bool false, .bool false, .bool false, .bool false] from rfl]
    intro g2
    refine plain_ok (N := 3000) (callH_does ([0]) ([]) ([]) ([]) (fun y css R G => R = [] ∧ y = .int .i64 (tk 4 X1.2).1 ∧ ∃ rv', css = [[rv', .int .i64 (tk 4 X1.2).2.f]] ∧ ByG G rv' (tk 4 X1.2).2.l) upV rfl rfl (by kernel_rfl) rfl (dk rfl) rfl rfl (by simp [ids, Diff]) (by simp) (fun G hG hh hM => take_does' (k := 4) (s := X1.2) hG.wf hh hM (hb1.mono (hG.le G1 (by simp))) (.inl (by omega)) (by omega)) (fun v css R G _ _ => upV_den css)) (QOk_body _ _ _) (by first | exact .inl rfl | exact .inr ⟨_, _, rfl, rfl⟩) ?_
    rintro _ ⟨_, css, _, G2, ⟨rfl, rfl, rv2, rfl, hb2⟩, hcs, hle, rfl⟩
    clear hcs hle
    obtain ⟨A2, c2, rfl, hc21, hc22⟩ := hb2.form
    obtain ⟨X2, hX2⟩ : ∃ X, X = (tk 4 X1.2) := ⟨_, rfl⟩
    rw [← hX2] at hb2 hc21 ⊢
    simp only [go_sem, simprocAttr, verV]
    have e : rc s = ({ rec0 13 with n := X2.1 }, X2.2) := by
      rw [hrc, hm]
      show rcT 13 X1.2 = _
      rw [rcT_13]
      subst hX2
      rfl
    rw [e]
    refine fin_retH (G := G0) Tryd.results16 ?_
    simp only [go_sem, simprocAttr]
    intro aa w' _ _
    exact ⟨⟨_, _, _, rfl, ⟨intsQ_nil _, intsQ_nil _, intsQ_nil _⟩⟩, _, rfl, hb2.mono (by apply_assumption <;> simp)⟩
  · simp only [go_sem, simprocAttr, show kdC (kd (14 : Int)) = [.bool false, .bool false, .bool false, .bool false, .bool false, .bool false, .bool false, .bool false, .bool false, .bool true, .bool false] from rfl]
    intro g2
    refine plain_ok (N := 3000) (callH_does ([0]) ([]) ([]) ([]) (fun y css R G => R = [] ∧ y = .int .i64 (tk 1 X1.2).1 ∧ ∃ rv', css = [[rv', .int .i64 (tk 1 X1.2).2.f]] ∧ ByG G rv' (tk 1 X1.2).2.l) upV rfl rfl (by kernel_rfl) rfl (dk rfl) rfl rfl (by simp [ids, Diff]) (by simp) (fun G hG hh hM => take_does' (k := 1) (s := X1.2) hG.wf hh hM (hb1.mono (hG.le G1 (by simp))) (.inl (by omega)) (by omega)) (fun v css R G _ _ => upV_den css)) (QOk_body _ _ _) (by first | exact .inl rfl | exact .inr ⟨_, _, rfl, rfl⟩) ?_
    rintro _ ⟨_, css, _, G2, ⟨rfl, rfl, rv2, rfl, hb2⟩, hcs, hle, rfl⟩
    clear hcs hle
    obtain ⟨A2, c2, rfl, hc21, hc22⟩ := hb2.form
    obtain ⟨X2, hX2⟩ : ∃ X, X = (tk 1 X1.2) := ⟨_, rfl⟩
    rw [← hX2] at hb2 hc21 ⊢
    simp only [go_sem, simprocAttr, verV]
    have e : rc s = ({ rec0 14 with vol := X2.1 }, X2.2) := by
      rw [hrc, hm]
      show rcT 14 X1.2 = _
      rw [rcT_14]
      subst hX2
      rfl
    rw [e]
    refine fin_retH (G := G0) Tryd.results16 ?_
    simp only [go_sem, simprocAttr]
    intro aa w' _ _
    exact ⟨⟨_, _, _, rfl, ⟨intsQ_nil _, intsQ_nil _, intsQ_nil _⟩⟩, _, rfl, hb2.mono (by apply_assumption <;> simp)⟩
end Go.Proofs.YtohdfcnjcpjdcaaDoor
