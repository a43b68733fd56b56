/- The reader of bytes: ints, rule, version, part, ask. Conditions: as each law states them. -/
import Derived.Test.YtohdfcnjcpjdcaaDoorW2q
namespace Go.Proofs.YtohdfcnjcpjdcaaDoor
open Go.RowKit
set_option linter.unusedSimpArgs false
section
variable {E : Env} {σ : St}
/-- a row of the call's own that it does not write any more, where the blocks that it was handed are known -/
theorem read_own {Φ : Act → World → Prop} {R1 R2 : List Rw} {r : Rw} (hR : σ.rows = R1 ++ r :: R2) (hA : ∀ k, E.A k → ∃ b ∈ σ.blks, b.g = k) (hk : r.k ≠ 0) (h : ∀ G : GW, (∀ s ∈ σ.snaps, s.Le G) → Sl G r.t r.k r.n r.v r.xs → Ok E ((σ.rowsTo (R1 ++ R2)).seen G) Φ) : Ok E σ Φ := fun a w hr =>
  read_ok hR h (fun g hg q => let ⟨b, hb, e⟩ := hA g q; hr.apart r (by rw [hR]; simp) b hb (by rw [hg, e])) hk a w hr
end
theorem its_len (n : Nat) : ∀ (a : List Int) (s : RS), (mn itS n a s).1.length ≤ a.length + n := by
  induction n with
  | zero => intro a s; exact Nat.le_refl _
  | succ n ih =>
    intro a s
    unfold mn
    split
    · refine Nat.le_trans (ih _ _) ?_
      simp [itS]
      omega
    · show a.length ≤ _
      omega
set_option maxRecDepth 100000 in
set_option maxHeartbeats 8000000 in
theorem ints_does {g : Nat} {rv : Value} {s : RS} {G0 : GW} (hW : G0.Wf) (hh : HandsOk G0.w ⟨[⟨g, 56, [rv, .int .i64 s.f]⟩], []⟩) (hM : ∀ k, Hands.A ⟨[⟨g, 56, [rv, .int .i64 s.f]⟩], []⟩ k → G0.M k) (hb : ByG G0 rv s.l) :
    Calls Tryd.prog 35 #[.pointer (some ⟨g, 0, none⟩)] G0.w (RetH G0 ⟨[⟨g, 56, [rv, .int .i64 s.f]⟩], []⟩ fun y css R G => R = [] ∧ IntsG G y (its s).1 ∧ ∃ rv', css = [[rv', .int .i64 (its s).2.f]] ∧ ByG G rv' (its s).2.l) := by
  obtain ⟨A, c, rfl, hc1, hc2⟩ := hb.form
  have hml := max_le
  refine enterH (n := 24) 3000 ([.c (.p 0 g 0)]) ([⟨0, g, 56, [.v (.slice A s.l.length c), .v (.int .i64 s.f)]⟩]) rfl hW hh hM Tryd.func35 rfl Tryd.ntmps35 (by simp) ?_
  simp only [go_sem, simprocAttr]
  refine plain_ok (N := 3000) (callH_does ([0]) ([]) ([]) ([]) (fun y css R G => R = [] ∧ y = .int .i64 (tk 1 s).1 ∧ ∃ rv', css = [[rv', .int .i64 (tk 1 s).2.f]] ∧ ByG G rv' (tk 1 s).2.l) upV rfl rfl (by kernel_rfl) rfl (dk rfl) rfl rfl (by simp [ids, Diff]) (by simp) (fun G hG hh hM => take_does' (k := 1) (s := s) hG.wf hh hM (hb.mono (hG.le G0 (by simp))) (.inl (by omega)) (by omega)) (fun v css R G _ _ => upV_den css)) (QOk_body _ _ _) (by first | exact .inl rfl | exact .inr ⟨_, _, rfl, rfl⟩) ?_
  
  rintro _ ⟨_, css, _, G1, ⟨rfl, rfl, rv1, rfl, hb1⟩, hcs, hle, rfl⟩
  clear hcs hle
  obtain ⟨A1, c1, rfl, hc11, hc12⟩ := hb1.form
  obtain ⟨n, hn, hn2⟩ := tk1_nat s
  obtain ⟨s1, hs1⟩ : ∃ s1, s1 = (tk 1 s).2 := ⟨_, rfl⟩
  have ht : its s = mn itS n [] s1 := by
    unfold its mny
    rw [← hs1, hn, Int.toNat_natCast]
  rw [ht, hn, ← hs1]
  rw [← hs1] at hb1 hc11
  clear ht
  simp only [go_sem, simprocAttr]
  refine row_ok 3 1 ?_
  refine loop_ok (N := 3000) (ι := Nat × List Int × Option Addr × Nat × Option Addr × Nat × RS × GW) (fun i => match i with | (m, a, A, c, B, d, s', G) => ⟨[(0, .c (.p 0 g 0)), (3, .c (.v (.slice A a.length c))), (4, .c (.v (.int .i64 (m : Int))))],
      [⟨0, g, 56, [.v (.slice B s'.l.length d), .v (.int .i64 s'.f)]⟩], [intRow (.slice A a.length c) a], [], [G, G0], 1⟩)
    (fun i => match i with | (m, a, A, c, B, d, s', G) => mn itS n [] s1 = mn itS m a s' ∧ a.length + m ≤ 256 ∧ ByG G (.slice B s'.l.length d) s'.l)
    (fun i => i.1) (QOk_body _ _ _) (n, [], none, 0, A1, c1, s1, G1) ⟨rfl, by simp; omega, hb1⟩ (by simp only [go_sem, simprocAttr]; simp [intRow]) ?_
  clear hb1 hc11 hc12
  rintro ⟨m, a, A2, c2, B, d, s2, G2⟩ ⟨hm, hal, hb2⟩
  simp only at hm hal hb2 ⊢
  cases m with
  | zero =>
    have q : decide (0 < ((0 : Nat) : Int)) = false := decide_eq_false (by omega)
    rw [mn] at hm
    simp only [go_sem, simprocAttr, q]
    refine read_own (R1 := []) rfl (fun k hk => by
      rcases hk with ⟨b, hb, rfl⟩ | ⟨r, hr, _⟩
      · exact ⟨_, List.mem_cons_self, by rw [List.mem_singleton.1 hb]⟩
      · cases hr) (by show (1 : Nat) ≠ 0; decide) (fun G8 hle8 hsl8 => ?_)
    have hO : IntsG G8 (.slice A2 a.length c2) a := ints_of hsl8
    refine fin_retH (G := G0) Tryd.results35 ?_
    simp only [go_sem, simprocAttr]
    intro aa w' _ hle
    rw [hm]
    exact ⟨hO.mono (hle G8 (by simp)), _, rfl, hb2.mono (hle G2 (by simp))⟩
  | succ m =>
    have q : decide (0 < ((m + 1 : Nat) : Int)) = true := decide_eq_true (by omega)
    by_cases hf : s2.f = 0
    · have qf : decide (s2.f = 0) = true := decide_eq_true hf
      rw [mn, if_pos hf] at hm
      simp only [go_sem, simprocAttr, q, qf]
      refine plain_ok (N := 3000) (callH_does ([0]) ([intRow (.slice A2 a.length c2) a]) ([]) ([]) (fun y css R G => R = [] ∧ y = .int .i64 (tk 1 s2).1 ∧ ∃ rv', css = [[rv', .int .i64 (tk 1 s2).2.f]] ∧ ByG G rv' (tk 1 s2).2.l) upV rfl rfl (by kernel_rfl) rfl (dk rfl) rfl rfl (by simp [ids, Diff]) (by simp) (fun G hG hh hM => take_does' (k := 1) (s := s2) hG.wf hh hM (hb2.mono (hG.le G2 (by simp))) (.inl (by omega)) (by omega)) (fun v css R G _ _ => upV_den css)) (QOk_body _ _ _) (by first | exact .inl rfl | exact .inr ⟨_, _, rfl, rfl⟩) ?_
      rintro _ ⟨_, css, _, G3, ⟨rfl, rfl, rv3, rfl, hb3⟩, hcs, hle, rfl⟩
      clear hcs hle
      obtain ⟨A3, c3, rfl, hc31, hc32⟩ := hb3.form
      simp only [go_sem, simprocAttr]
      intro g4
      refine plain_ok (N := 3000) (append_does (R1 := []) (R2 := []) (n := a.length) (v := .slice A2 a.length c2) (xs := a.flatMap intC) (news := [.int .i64 (tk 1 s2).1]) rfl tySlice25 tyApp3 rfl rfl rfl rfl (dk rfl) (fun u hu => by rw [List.mem_singleton.1 hu]; rfl) (by unfold maxLen; omega) (by omega) (fun G hG => tsl_blk hG (b := ⟨1, g4, 3, [.v (.int .i64 (tk 1 s2).1)]⟩) (by simp) rfl (by unfold maxLen; omega))) (QOk_body _ _ _) (by first | exact .inl rfl | exact .inr ⟨_, _, rfl, rfl⟩) ?_
      rintro _ ⟨A', c', rfl⟩
      have hl5 : (a ++ [(tk 1 s2).1]).length = a.length + 1 := by simp
      have e0 : ((m + 1 : Nat) : Int) - 1 = (m : Int) := by omega
      simp only [go_sem, simprocAttr]
      refine ⟨by omega, ?_⟩
      refine again_ok (m, a ++ [(tk 1 s2).1], A', c', A3, c3, (tk 1 s2).2, G3) ⟨hm, by show (a ++ [(tk 1 s2).1]).length + m ≤ 256; omega, hb3⟩ (by show m < m + 1; omega) (by rw [hl5, e0]; simp only [go_sem, simprocAttr]; simp [intRow, intC])
    · have qf : decide (s2.f = 0) = false := decide_eq_false hf
      rw [mn, if_neg hf] at hm
      simp only [go_sem, simprocAttr, q, qf]
      refine read_own (R1 := []) rfl (fun k hk => by
        rcases hk with ⟨b, hb, rfl⟩ | ⟨r, hr, _⟩
        · exact ⟨_, List.mem_cons_self, by rw [List.mem_singleton.1 hb]⟩
        · cases hr) (by show (1 : Nat) ≠ 0; decide) (fun G8 hle8 hsl8 => ?_)
      have hO : IntsG G8 (.slice A2 a.length c2) a := ints_of hsl8
      refine fin_retH (G := G0) Tryd.results35 ?_
      simp only [go_sem, simprocAttr]
      intro aa w' _ hle
      rw [hm]
      exact ⟨hO.mono (hle G8 (by simp)), _, rfl, hb2.mono (hle G2 (by simp))⟩
def rl (s : RS) : Rul × RS := (⟨(tx s).1, (tk 4 (tx s).2).1 - 1, (tk 4 (tk 4 (tx s).2).2).1 - 1⟩, (tk 4 (tk 4 (tx s).2).2).2)
set_option maxRecDepth 100000 in
set_option maxHeartbeats 8000000 in
theorem rule_does {g : Nat} {rv : Value} {s : RS} {G0 : GW} (hW : G0.Wf) (hh : HandsOk G0.w ⟨[⟨g, 56, [rv, .int .i64 s.f]⟩], []⟩) (hM : ∀ k, Hands.A ⟨[⟨g, 56, [rv, .int .i64 s.f]⟩], []⟩ k → G0.M k) (hb : ByG G0 rv s.l) :
    Calls Tryd.prog 31 #[.pointer (some ⟨g, 0, none⟩)] G0.w (RetH G0 ⟨[⟨g, 56, [rv, .int .i64 s.f]⟩], []⟩ fun y css R G => R = [] ∧ y = .agg #[.string (rl s).1.pre, .int .i64 (rl s).1.freeze, .int .i64 (rl s).1.drop] ∧ ∃ rv', css = [[rv', .int .i64 (rl s).2.f]] ∧ ByG G rv' (rl s).2.l) := by
  obtain ⟨A, c, rfl, hc1, hc2⟩ := hb.form
  have hml := max_le
  refine enterH (n := 16) 3000 ([.c (.p 0 g 0)]) ([⟨0, g, 56, [.v (.slice A s.l.length c), .v (.int .i64 s.f)]⟩]) rfl hW hh hM Tryd.func31 rfl Tryd.ntmps31 (by simp) ?_
  simp only [go_sem, simprocAttr]
  intro g1
  refine plain_ok (N := 3000) (callH_does ([0]) ([]) ([]) ([]) (fun y css R G => R = [] ∧ y = .string (tx s).1 ∧ ∃ rv', css = [[rv', .int .i64 (tx s).2.f]] ∧ ByG G rv' (tx s).2.l) upV rfl rfl (by kernel_rfl) rfl (dk rfl) rfl rfl (by simp [ids, Diff]) (by simp) (fun G hG hh hM => rtext_does (s := s) hG.wf hh hM (hb.mono (hG.le G0 (by simp)))) (fun v css R G _ _ => upV_den css)) (QOk_body _ _ _) (by first | exact .inl rfl | exact .inr ⟨_, _, rfl, rfl⟩) ?_
  rintro _ ⟨_, css, _, G1, ⟨rfl, rfl, rv1, rfl, hb1⟩, hcs, hle, rfl⟩
  clear hcs hle
  obtain ⟨A1, c1, rfl, hc11, hc12⟩ := hb1.form
  obtain ⟨X1, hX1⟩ : ∃ X, X = tx s := ⟨_, rfl⟩
  rw [← hX1] at hb1 hc11 ⊢
  simp only [go_sem, simprocAttr]
  refine plain_ok (N := 3000) (callH_does ([0]) ([]) ([]) ([]) (fun y css R G => R = [] ∧ y = .int .i64 (tk 4 X1.2).1 ∧ ∃ rv', css = [[rv', .int .i64 (tk 4 X1.2).2.f]] ∧ ByG G rv' (tk 4 X1.2).2.l) upV rfl rfl (by kernel_rfl) rfl (dk rfl) rfl rfl (by simp [ids, Diff]) (by simp) (fun G hG hh hM => take_does' (k := 4) (s := X1.2) hG.wf hh hM (hb1.mono (hG.le G1 (by simp))) (.inl (by omega)) (by omega)) (fun v css R G _ _ => upV_den css)) (QOk_body _ _ _) (by first | exact .inl rfl | exact .inr ⟨_, _, rfl, rfl⟩) ?_
  rintro _ ⟨_, css, _, G2, ⟨rfl, rfl, rv2, rfl, hb2⟩, hcs, hle, rfl⟩
  clear hcs hle
  obtain ⟨A2, c2, rfl, hc21, hc22⟩ := hb2.form
  have hbd2 := tk_bd (k := 4) X1.2 (by omega)
  obtain ⟨X2, hX2⟩ : ∃ X, X = tk 4 X1.2 := ⟨_, rfl⟩
  rw [← hX2] at hb2 hc21 hbd2 ⊢
  simp only [go_sem, simprocAttr]
  refine ⟨by omega, ?_⟩
  refine plain_ok (N := 3000) (callH_does ([0]) ([]) ([]) ([]) (fun y css R G => R = [] ∧ y = .int .i64 (tk 4 X2.2).1 ∧ ∃ rv', css = [[rv', .int .i64 (tk 4 X2.2).2.f]] ∧ ByG G rv' (tk 4 X2.2).2.l) upV rfl rfl (by kernel_rfl) rfl (dk rfl) rfl rfl (by simp [ids, Diff]) (by simp) (fun G hG hh hM => take_does' (k := 4) (s := X2.2) hG.wf hh hM (hb2.mono (hG.le G2 (by simp))) (.inl (by omega)) (by omega)) (fun v css R G _ _ => upV_den css)) (QOk_body _ _ _) (by first | exact .inl rfl | exact .inr ⟨_, _, rfl, rfl⟩) ?_
  rintro _ ⟨_, css, _, G3, ⟨rfl, rfl, rv3, rfl, hb3⟩, hcs, hle, rfl⟩
  clear hcs hle
  obtain ⟨A3, c3, rfl, hc31, hc32⟩ := hb3.form
  have hbd3 := tk_bd (k := 4) X2.2 (by omega)
  obtain ⟨X3, hX3⟩ : ∃ X, X = tk 4 X2.2 := ⟨_, rfl⟩
  rw [← hX3] at hb3 hc31 hbd3 ⊢
  simp only [go_sem, simprocAttr]
  refine ⟨by omega, ?_⟩
  have e : rl s = (⟨X1.1, X2.1 - 1, X3.1 - 1⟩, X3.2) := by
    subst hX3
    subst hX2
    subst hX1
    rfl
  rw [e]
  refine fin_retH (G := G0) Tryd.results31 ?_
  simp only [go_sem, simprocAttr]
  intro aa w' _ hle
  exact ⟨_, rfl, hb3.mono (hle G3 (by simp))⟩
def pt1 (s : RS) := tk 1 s
def pt2 (s : RS) := tk 2 (pt1 s).2
def pt3 (s : RS) := its (pt2 s).2
def pt (s : RS) : Prt × RS := (⟨(pt1 s).1, (pt2 s).1, (pt3 s).1⟩, (pt3 s).2)
def ak1 (s : RS) := tk 3 s
def ak2 (s : RS) := tk 2 (ak1 s).2
def ak3 (s : RS) := tk 1 (ak2 s).2
def ak (s : RS) : Ask × RS := (⟨(ak1 s).1, (ak2 s).1, (ak3 s).1⟩, (ak3 s).2)
def vr1 (s : RS) := tk 3 s
def vr2 (s : RS) := tx (vr1 s).2
def vr3 (s : RS) := tx (vr2 s).2
def vr4 (s : RS) := bt (vr3 s).2
def vr5 (s : RS) := bt (vr4 s).2
def vr6 (s : RS) := tk 2 (vr5 s).2
def vr7 (s : RS) := tk 4 (vr6 s).2
def vr8 (s : RS) := tk 1 (vr7 s).2
def vr9 (s : RS) := its (vr8 s).2
def vr10 (s : RS) := tk 1 (vr9 s).2
def vr11 (s : RS) := tk 2 (vr10 s).2
def vr12 (s : RS) := tk 4 (vr11 s).2
def vr (s : RS) : Ver × RS := (⟨(vr1 s).1, (vr2 s).1, (vr3 s).1, (vr4 s).1, (vr5 s).1, (vr6 s).1, (vr7 s).1, (vr8 s).1, (vr9 s).1, (vr10 s).1, (vr11 s).1, (vr12 s).1⟩, (vr12 s).2)
set_option maxRecDepth 100000 in
set_option maxHeartbeats 8000000 in
theorem part_does {g : Nat} {rv : Value} {s : RS} {G0 : GW} (hW : G0.Wf) (hh : HandsOk G0.w ⟨[⟨g, 56, [rv, .int .i64 s.f]⟩], []⟩) (hM : ∀ k, Hands.A ⟨[⟨g, 56, [rv, .int .i64 s.f]⟩], []⟩ k → G0.M k) (hb : ByG G0 rv s.l) :
    Calls Tryd.prog 34 #[.pointer (some ⟨g, 0, none⟩)] G0.w (RetH G0 ⟨[⟨g, 56, [rv, .int .i64 s.f]⟩], []⟩ fun y css R G => R = [] ∧ (∃ sv, y = .agg #[.int .i64 (pt s).1.n, .int .i64 (pt s).1.size, sv] ∧ IntsG G sv (pt s).1.secs) ∧ ∃ rv', css = [[rv', .int .i64 (pt s).2.f]] ∧ ByG G rv' (pt s).2.l) := by
  obtain ⟨A, c, rfl, hc1, hc2⟩ := hb.form
  have hml := max_le
  refine enterH (n := 14) 3000 ([.c (.p 0 g 0)]) ([⟨0, g, 56, [.v (.slice A s.l.length c), .v (.int .i64 s.f)]⟩]) rfl hW hh hM Tryd.func34 rfl Tryd.ntmps34 (by simp) ?_
  simp only [go_sem, simprocAttr]
  intro g1 g2
  refine plain_ok (N := 3000) (callH_does ([0]) ([]) ([]) ([]) (fun y css R G => R = [] ∧ y = .int .i64 (tk 1 s).1 ∧ ∃ rv', css = [[rv', .int .i64 (tk 1 s).2.f]] ∧ ByG G rv' (tk 1 s).2.l) upV rfl rfl (by kernel_rfl) rfl (dk rfl) rfl rfl (by simp [ids, Diff]) (by simp) (fun G hG hh hM => take_does' (k := 1) (s := s) hG.wf hh hM (hb.mono (hG.le G0 (by simp))) (.inl (by omega)) (by omega)) (fun v css R G _ _ => upV_den css)) (QOk_body _ _ _) (by first | exact .inl rfl | exact .inr ⟨_, _, rfl, rfl⟩) ?_
  rintro _ ⟨_, css, _, G1, ⟨rfl, rfl, rv1, rfl, hb1⟩, hcs, hle, rfl⟩
  clear hcs hle
  obtain ⟨A1, c1, rfl, hc11, hc12⟩ := hb1.form
  have hbd1 := tk_bd (k := 1) s (by omega)
  obtain ⟨X1, hX1⟩ : ∃ X, X = tk 1 s := ⟨_, rfl⟩
  rw [← hX1] at hb1 hc11 hbd1 ⊢
  simp only [go_sem, simprocAttr]
  refine plain_ok (N := 3000) (callH_does ([0]) ([]) ([]) ([]) (fun y css R G => R = [] ∧ y = .int .i64 (tk 2 X1.2).1 ∧ ∃ rv', css = [[rv', .int .i64 (tk 2 X1.2).2.f]] ∧ ByG G rv' (tk 2 X1.2).2.l) upV rfl rfl (by kernel_rfl) rfl (dk rfl) rfl rfl (by simp [ids, Diff]) (by simp) (fun G hG hh hM => take_does' (k := 2) (s := X1.2) hG.wf hh hM (hb1.mono (hG.le G1 (by simp))) (.inl (by omega)) (by omega)) (fun v css R G _ _ => upV_den css)) (QOk_body _ _ _) (by first | exact .inl rfl | exact .inr ⟨_, _, rfl, rfl⟩) ?_
  rintro _ ⟨_, css, _, G2, ⟨rfl, rfl, rv2, rfl, hb2⟩, hcs, hle, rfl⟩
  clear hcs hle
  obtain ⟨A2, c2, rfl, hc21, hc22⟩ := hb2.form
  have hbd2 := tk_bd (k := 2) X1.2 (by omega)
  obtain ⟨X2, hX2⟩ : ∃ X, X = tk 2 X1.2 := ⟨_, rfl⟩
  rw [← hX2] at hb2 hc21 hbd2 ⊢
  simp only [go_sem, simprocAttr]
  refine plain_ok (N := 3000) (callH_does ([0]) ([]) ([]) ([]) (fun y css R G => R = [] ∧ IntsG G y (its X2.2).1 ∧ ∃ rv', css = [[rv', .int .i64 (its X2.2).2.f]] ∧ ByG G rv' (its X2.2).2.l) upV rfl rfl (by kernel_rfl) rfl (dk rfl) rfl rfl (by simp [ids, Diff]) (by simp) (fun G hG hh hM => ints_does (s := X2.2) hG.wf hh hM (hb2.mono (hG.le G2 (by simp)))) (fun v css R G _ _ => upV_den css)) (QOk_body _ _ _) (by first | exact .inl rfl | exact .inr ⟨_, _, rfl, rfl⟩) ?_
  rintro _ ⟨_, css, _, G3, ⟨rfl, hiv3, rv3, rfl, hb3⟩, hcs, hle, rfl⟩
  clear hcs hle
  obtain ⟨A3, c3, rfl, hc31, hc32⟩ := hb3.form
  obtain ⟨X3, hX3⟩ : ∃ X, X = its X2.2 := ⟨_, rfl⟩
  rw [← hX3] at hb3 hc31 hiv3 ⊢
  obtain ⟨AI3, ci3, rfl, _⟩ := Sq.form hiv3
  simp only [go_sem, simprocAttr]
  have e : pt s = (⟨X1.1, X2.1, X3.1⟩, X3.2) := by
    subst hX3
    subst hX2
    subst hX1
    rfl
  rw [e]
  refine fin_retH (G := G0) Tryd.results34 ?_
  simp only [go_sem, simprocAttr]
  intro aa w' _ hle
  exact ⟨⟨_, rfl, hiv3.mono (hle G3 (by simp))⟩, _, rfl, hb3.mono (hle G3 (by simp))⟩
set_option maxRecDepth 100000 in
set_option maxHeartbeats 8000000 in
theorem ask_does' {g : Nat} {rv : Value} {s : RS} {G0 : GW} (hW : G0.Wf) (hh : HandsOk G0.w ⟨[⟨g, 56, [rv, .int .i64 s.f]⟩], []⟩) (hM : ∀ k, Hands.A ⟨[⟨g, 56, [rv, .int .i64 s.f]⟩], []⟩ k → G0.M k) (hb : ByG G0 rv s.l) :
    Calls Tryd.prog 33 #[.pointer (some ⟨g, 0, none⟩)] G0.w (RetH G0 ⟨[⟨g, 56, [rv, .int .i64 s.f]⟩], []⟩ fun y css R G => R = [] ∧ y = .agg #[.int .i64 (ak s).1.ver, .int .i64 (ak s).1.days, .int .i64 (ak s).1.cls] ∧ ∃ rv', css = [[rv', .int .i64 (ak s).2.f]] ∧ ByG G rv' (ak s).2.l) := by
  obtain ⟨A, c, rfl, hc1, hc2⟩ := hb.form
  have hml := max_le
  refine enterH (n := 14) 3000 ([.c (.p 0 g 0)]) ([⟨0, g, 56, [.v (.slice A s.l.length c), .v (.int .i64 s.f)]⟩]) rfl hW hh hM Tryd.func33 rfl Tryd.ntmps33 (by simp) ?_
  simp only [go_sem, simprocAttr]
  intro g1 g2
  refine plain_ok (N := 3000) (callH_does ([0]) ([]) ([]) ([]) (fun y css R G => R = [] ∧ y = .int .i64 (tk 3 s).1 ∧ ∃ rv', css = [[rv', .int .i64 (tk 3 s).2.f]] ∧ ByG G rv' (tk 3 s).2.l) upV rfl rfl (by kernel_rfl) rfl (dk rfl) rfl rfl (by simp [ids, Diff]) (by simp) (fun G hG hh hM => take_does' (k := 3) (s := s) hG.wf hh hM (hb.mono (hG.le G0 (by simp))) (.inl (by omega)) (by omega)) (fun v css R G _ _ => upV_den css)) (QOk_body _ _ _) (by first | exact .inl rfl | exact .inr ⟨_, _, rfl, rfl⟩) ?_
  rintro _ ⟨_, css, _, G1, ⟨rfl, rfl, rv1, rfl, hb1⟩, hcs, hle, rfl⟩
  clear hcs hle
  obtain ⟨A1, c1, rfl, hc11, hc12⟩ := hb1.form
  have hbd1 := tk_bd (k := 3) s (by omega)
  obtain ⟨X1, hX1⟩ : ∃ X, X = tk 3 s := ⟨_, rfl⟩
  rw [← hX1] at hb1 hc11 hbd1 ⊢
  simp only [go_sem, simprocAttr]
  refine plain_ok (N := 3000) (callH_does ([0]) ([]) ([]) ([]) (fun y css R G => R = [] ∧ y = .int .i64 (tk 2 X1.2).1 ∧ ∃ rv', css = [[rv', .int .i64 (tk 2 X1.2).2.f]] ∧ ByG G rv' (tk 2 X1.2).2.l) upV rfl rfl (by kernel_rfl) rfl (dk rfl) rfl rfl (by simp [ids, Diff]) (by simp) (fun G hG hh hM => take_does' (k := 2) (s := X1.2) hG.wf hh hM (hb1.mono (hG.le G1 (by simp))) (.inl (by omega)) (by omega)) (fun v css R G _ _ => upV_den css)) (QOk_body _ _ _) (by first | exact .inl rfl | exact .inr ⟨_, _, rfl, rfl⟩) ?_
  rintro _ ⟨_, css, _, G2, ⟨rfl, rfl, rv2, rfl, hb2⟩, hcs, hle, rfl⟩
  clear hcs hle
  obtain ⟨A2, c2, rfl, hc21, hc22⟩ := hb2.form
  have hbd2 := tk_bd (k := 2) X1.2 (by omega)
  obtain ⟨X2, hX2⟩ : ∃ X, X = tk 2 X1.2 := ⟨_, rfl⟩
  rw [← hX2] at hb2 hc21 hbd2 ⊢
  simp only [go_sem, simprocAttr]
  refine plain_ok (N := 3000) (callH_does ([0]) ([]) ([]) ([]) (fun y css R G => R = [] ∧ y = .int .i64 (tk 1 X2.2).1 ∧ ∃ rv', css = [[rv', .int .i64 (tk 1 X2.2).2.f]] ∧ ByG G rv' (tk 1 X2.2).2.l) upV rfl rfl (by kernel_rfl) rfl (dk rfl) rfl rfl (by simp [ids, Diff]) (by simp) (fun G hG hh hM => take_does' (k := 1) (s := X2.2) hG.wf hh hM (hb2.mono (hG.le G2 (by simp))) (.inl (by omega)) (by omega)) (fun v css R G _ _ => upV_den css)) (QOk_body _ _ _) (by first | exact .inl rfl | exact .inr ⟨_, _, rfl, rfl⟩) ?_
  rintro _ ⟨_, css, _, G3, ⟨rfl, rfl, rv3, rfl, hb3⟩, hcs, hle, rfl⟩
  clear hcs hle
  obtain ⟨A3, c3, rfl, hc31, hc32⟩ := hb3.form
  have hbd3 := tk_bd (k := 1) X2.2 (by omega)
  obtain ⟨X3, hX3⟩ : ∃ X, X = tk 1 X2.2 := ⟨_, rfl⟩
  rw [← hX3] at hb3 hc31 hbd3 ⊢
  simp only [go_sem, simprocAttr]
  have e : ak s = (⟨X1.1, X2.1, X3.1⟩, X3.2) := by
    subst hX3
    subst hX2
    subst hX1
    rfl
  rw [e]
  refine fin_retH (G := G0) Tryd.results33 ?_
  simp only [go_sem, simprocAttr]
  intro aa w' _ hle
  exact ⟨_, rfl, hb3.mono (hle G3 (by simp))⟩
set_option maxRecDepth 100000 in
set_option maxHeartbeats 8000000 in
theorem rversion_does {g : Nat} {rv : Value} {s : RS} {G0 : GW} (hW : G0.Wf) (hh : HandsOk G0.w ⟨[⟨g, 56, [rv, .int .i64 s.f]⟩], []⟩) (hM : ∀ k, Hands.A ⟨[⟨g, 56, [rv, .int .i64 s.f]⟩], []⟩ k → G0.M k) (hb : ByG G0 rv s.l) :
    Calls Tryd.prog 32 #[.pointer (some ⟨g, 0, none⟩)] G0.w (RetH G0 ⟨[⟨g, 56, [rv, .int .i64 s.f]⟩], []⟩ fun y css R G => R = [] ∧ (∃ sv, y = .agg (verV (vr s).1 sv).toArray ∧ IntsG G sv (vr s).1.secs) ∧ ∃ rv', css = [[rv', .int .i64 (vr s).2.f]] ∧ ByG G rv' (vr s).2.l) := by
  obtain ⟨A, c, rfl, hc1, hc2⟩ := hb.form
  have hml := max_le
  refine enterH (n := 41) 3000 ([.c (.p 0 g 0)]) ([⟨0, g, 56, [.v (.slice A s.l.length c), .v (.int .i64 s.f)]⟩]) rfl hW hh hM Tryd.func32 rfl Tryd.ntmps32 (by simp) ?_
  simp only [go_sem, simprocAttr]
  intro g1 g2
  refine plain_ok (N := 3000) (callH_does ([0]) ([]) ([]) ([]) (fun y css R G => R = [] ∧ y = .int .i64 (tk 3 s).1 ∧ ∃ rv', css = [[rv', .int .i64 (tk 3 s).2.f]] ∧ ByG G rv' (tk 3 s).2.l) upV rfl rfl (by kernel_rfl) rfl (dk rfl) rfl rfl (by simp [ids, Diff]) (by simp) (fun G hG hh hM => take_does' (k := 3) (s := s) hG.wf hh hM (hb.mono (hG.le G0 (by simp))) (.inl (by omega)) (by omega)) (fun v css R G _ _ => upV_den css)) (QOk_body _ _ _) (by first | exact .inl rfl | exact .inr ⟨_, _, rfl, rfl⟩) ?_
  rintro _ ⟨_, css, _, G1, ⟨rfl, rfl, rv1, rfl, hb1⟩, hcs, hle, rfl⟩
  clear hcs hle
  obtain ⟨A1, c1, rfl, hc11, hc12⟩ := hb1.form
  have hbd1 := tk_bd (k := 3) s (by omega)
  obtain ⟨X1, hX1⟩ : ∃ X, X = tk 3 s := ⟨_, rfl⟩
  rw [← hX1] at hb1 hc11 hbd1 ⊢
  simp only [go_sem, simprocAttr]
  refine plain_ok (N := 3000) (callH_does ([0]) ([]) ([]) ([]) (fun y css R G => R = [] ∧ y = .string (tx X1.2).1 ∧ ∃ rv', css = [[rv', .int .i64 (tx X1.2).2.f]] ∧ ByG G rv' (tx X1.2).2.l) upV rfl rfl (by kernel_rfl) rfl (dk rfl) rfl rfl (by simp [ids, Diff]) (by simp) (fun G hG hh hM => rtext_does (s := X1.2) hG.wf hh hM (hb1.mono (hG.le G1 (by simp)))) (fun v css R G _ _ => upV_den css)) (QOk_body _ _ _) (by first | exact .inl rfl | exact .inr ⟨_, _, rfl, rfl⟩) ?_
  rintro _ ⟨_, css, _, G2, ⟨rfl, rfl, rv2, rfl, hb2⟩, hcs, hle, rfl⟩
  clear hcs hle
  obtain ⟨A2, c2, rfl, hc21, hc22⟩ := hb2.form
  obtain ⟨X2, hX2⟩ : ∃ X, X = tx X1.2 := ⟨_, rfl⟩
  rw [← hX2] at hb2 hc21 ⊢
  simp only [go_sem, simprocAttr]
  refine plain_ok (N := 3000) (callH_does ([0]) ([]) ([]) ([]) (fun y css R G => R = [] ∧ y = .string (tx X2.2).1 ∧ ∃ rv', css = [[rv', .int .i64 (tx X2.2).2.f]] ∧ ByG G rv' (tx X2.2).2.l) upV rfl rfl (by kernel_rfl) rfl (dk rfl) rfl rfl (by simp [ids, Diff]) (by simp) (fun G hG hh hM => rtext_does (s := X2.2) hG.wf hh hM (hb2.mono (hG.le G2 (by simp)))) (fun v css R G _ _ => upV_den css)) (QOk_body _ _ _) (by first | exact .inl rfl | exact .inr ⟨_, _, rfl, rfl⟩) ?_
  rintro _ ⟨_, css, _, G3, ⟨rfl, rfl, rv3, rfl, hb3⟩, hcs, hle, rfl⟩
  clear hcs hle
  obtain ⟨A3, c3, rfl, hc31, hc32⟩ := hb3.form
  obtain ⟨X3, hX3⟩ : ∃ X, X = tx X2.2 := ⟨_, rfl⟩
  rw [← hX3] at hb3 hc31 ⊢
  simp only [go_sem, simprocAttr]
  refine plain_ok (N := 3000) (callH_does ([0]) ([]) ([]) ([]) (fun y css R G => R = [] ∧ y = .bool (bt X3.2).1 ∧ ∃ rv', css = [[rv', .int .i64 (bt X3.2).2.f]] ∧ ByG G rv' (bt X3.2).2.l) upV rfl rfl (by kernel_rfl) rfl (dk rfl) rfl rfl (by simp [ids, Diff]) (by simp) (fun G hG hh hM => bit_does (s := X3.2) hG.wf hh hM (hb3.mono (hG.le G3 (by simp)))) (fun v css R G _ _ => upV_den css)) (QOk_body _ _ _) (by first | exact .inl rfl | exact .inr ⟨_, _, rfl, rfl⟩) ?_
  rintro _ ⟨_, css, _, G4, ⟨rfl, rfl, rv4, rfl, hb4⟩, hcs, hle, rfl⟩
  clear hcs hle
  obtain ⟨A4, c4, rfl, hc41, hc42⟩ := hb4.form
  obtain ⟨X4, hX4⟩ : ∃ X, X = bt X3.2 := ⟨_, rfl⟩
  rw [← hX4] at hb4 hc41 ⊢
  simp only [go_sem, simprocAttr]
  refine plain_ok (N := 3000) (callH_does ([0]) ([]) ([]) ([]) (fun y css R G => R = [] ∧ y = .bool (bt X4.2).1 ∧ ∃ rv', css = [[rv', .int .i64 (bt X4.2).2.f]] ∧ ByG G rv' (bt X4.2).2.l) upV rfl rfl (by kernel_rfl) rfl (dk rfl) rfl rfl (by simp [ids, Diff]) (by simp) (fun G hG hh hM => bit_does (s := X4.2) hG.wf hh hM (hb4.mono (hG.le G4 (by simp)))) (fun v css R G _ _ => upV_den css)) (QOk_body _ _ _) (by first | exact .inl rfl | exact .inr ⟨_, _, rfl, rfl⟩) ?_
  rintro _ ⟨_, css, _, G5, ⟨rfl, rfl, rv5, rfl, hb5⟩, hcs, hle, rfl⟩
  clear hcs hle
  obtain ⟨A5, c5, rfl, hc51, hc52⟩ := hb5.form
  obtain ⟨X5, hX5⟩ : ∃ X, X = bt X4.2 := ⟨_, rfl⟩
  rw [← hX5] at hb5 hc51 ⊢
  simp only [go_sem, simprocAttr]
  refine plain_ok (N := 3000) (callH_does ([0]) ([]) ([]) ([]) (fun y css R G => R = [] ∧ y = .int .i64 (tk 2 X5.2).1 ∧ ∃ rv', css = [[rv', .int .i64 (tk 2 X5.2).2.f]] ∧ ByG G rv' (tk 2 X5.2).2.l) upV rfl rfl (by kernel_rfl) rfl (dk rfl) rfl rfl (by simp [ids, Diff]) (by simp) (fun G hG hh hM => take_does' (k := 2) (s := X5.2) hG.wf hh hM (hb5.mono (hG.le G5 (by simp))) (.inl (by omega)) (by omega)) (fun v css R G _ _ => upV_den css)) (QOk_body _ _ _) (by first | exact .inl rfl | exact .inr ⟨_, _, rfl, rfl⟩) ?_
  rintro _ ⟨_, css, _, G6, ⟨rfl, rfl, rv6, rfl, hb6⟩, hcs, hle, rfl⟩
  clear hcs hle
  obtain ⟨A6, c6, rfl, hc61, hc62⟩ := hb6.form
  have hbd6 := tk_bd (k := 2) X5.2 (by omega)
  obtain ⟨X6, hX6⟩ : ∃ X, X = tk 2 X5.2 := ⟨_, rfl⟩
  rw [← hX6] at hb6 hc61 hbd6 ⊢
  simp only [go_sem, simprocAttr]
  refine plain_ok (N := 3000) (callH_does ([0]) ([]) ([]) ([]) (fun y css R G => R = [] ∧ y = .int .i64 (tk 4 X6.2).1 ∧ ∃ rv', css = [[rv', .int .i64 (tk 4 X6.2).2.f]] ∧ ByG G rv' (tk 4 X6.2).2.l) upV rfl rfl (by kernel_rfl) rfl (dk rfl) rfl rfl (by simp [ids, Diff]) (by simp) (fun G hG hh hM => take_does' (k := 4) (s := X6.2) hG.wf hh hM (hb6.mono (hG.le G6 (by simp))) (.inl (by omega)) (by omega)) (fun v css R G _ _ => upV_den css)) (QOk_body _ _ _) (by first | exact .inl rfl | exact .inr ⟨_, _, rfl, rfl⟩) ?_
  rintro _ ⟨_, css, _, G7, ⟨rfl, rfl, rv7, rfl, hb7⟩, hcs, hle, rfl⟩
  clear hcs hle
  obtain ⟨A7, c7, rfl, hc71, hc72⟩ := hb7.form
  have hbd7 := tk_bd (k := 4) X6.2 (by omega)
  obtain ⟨X7, hX7⟩ : ∃ X, X = tk 4 X6.2 := ⟨_, rfl⟩
  rw [← hX7] at hb7 hc71 hbd7 ⊢
  simp only [go_sem, simprocAttr]
  refine plain_ok (N := 3000) (callH_does ([0]) ([]) ([]) ([]) (fun y css R G => R = [] ∧ y = .int .i64 (tk 1 X7.2).1 ∧ ∃ rv', css = [[rv', .int .i64 (tk 1 X7.2).2.f]] ∧ ByG G rv' (tk 1 X7.2).2.l) upV rfl rfl (by kernel_rfl) rfl (dk rfl) rfl rfl (by simp [ids, Diff]) (by simp) (fun G hG hh hM => take_does' (k := 1) (s := X7.2) hG.wf hh hM (hb7.mono (hG.le G7 (by simp))) (.inl (by omega)) (by omega)) (fun v css R G _ _ => upV_den css)) (QOk_body _ _ _) (by first | exact .inl rfl | exact .inr ⟨_, _, rfl, rfl⟩) ?_
  rintro _ ⟨_, css, _, G8, ⟨rfl, rfl, rv8, rfl, hb8⟩, hcs, hle, rfl⟩
  clear hcs hle
  obtain ⟨A8, c8, rfl, hc81, hc82⟩ := hb8.form
  have hbd8 := tk_bd (k := 1) X7.2 (by omega)
  obtain ⟨X8, hX8⟩ : ∃ X, X = tk 1 X7.2 := ⟨_, rfl⟩
  rw [← hX8] at hb8 hc81 hbd8 ⊢
  simp only [go_sem, simprocAttr]
  refine plain_ok (N := 3000) (callH_does ([0]) ([]) ([]) ([]) (fun y css R G => R = [] ∧ IntsG G y (its X8.2).1 ∧ ∃ rv', css = [[rv', .int .i64 (its X8.2).2.f]] ∧ ByG G rv' (its X8.2).2.l) upV rfl rfl (by kernel_rfl) rfl (dk rfl) rfl rfl (by simp [ids, Diff]) (by simp) (fun G hG hh hM => ints_does (s := X8.2) hG.wf hh hM (hb8.mono (hG.le G8 (by simp)))) (fun v css R G _ _ => upV_den css)) (QOk_body _ _ _) (by first | exact .inl rfl | exact .inr ⟨_, _, rfl, rfl⟩) ?_
  rintro _ ⟨_, css, _, G9, ⟨rfl, hiv9, rv9, rfl, hb9⟩, hcs, hle, rfl⟩
  clear hcs hle
  obtain ⟨A9, c9, rfl, hc91, hc92⟩ := hb9.form
  obtain ⟨X9, hX9⟩ : ∃ X, X = its X8.2 := ⟨_, rfl⟩
  rw [← hX9] at hb9 hc91 hiv9 ⊢
  obtain ⟨AI9, ci9, rfl, _⟩ := Sq.form hiv9
  simp only [go_sem, simprocAttr]
  refine plain_ok (N := 3000) (callH_does ([0]) ([]) ([]) ([]) (fun y css R G => R = [] ∧ y = .int .i64 (tk 1 X9.2).1 ∧ ∃ rv', css = [[rv', .int .i64 (tk 1 X9.2).2.f]] ∧ ByG G rv' (tk 1 X9.2).2.l) upV rfl rfl (by kernel_rfl) rfl (dk rfl) rfl rfl (by simp [ids, Diff]) (by simp) (fun G hG hh hM => take_does' (k := 1) (s := X9.2) hG.wf hh hM (hb9.mono (hG.le G9 (by simp))) (.inl (by omega)) (by omega)) (fun v css R G _ _ => upV_den css)) (QOk_body _ _ _) (by first | exact .inl rfl | exact .inr ⟨_, _, rfl, rfl⟩) ?_
  rintro _ ⟨_, css, _, G10, ⟨rfl, rfl, rv10, rfl, hb10⟩, hcs, hle, rfl⟩
  clear hcs hle
  obtain ⟨A10, c10, rfl, hc101, hc102⟩ := hb10.form
  have hbd10 := tk_bd (k := 1) X9.2 (by omega)
  obtain ⟨X10, hX10⟩ : ∃ X, X = tk 1 X9.2 := ⟨_, rfl⟩
  rw [← hX10] at hb10 hc101 hbd10 ⊢
  simp only [go_sem, simprocAttr]
  refine plain_ok (N := 3000) (callH_does ([0]) ([]) ([]) ([]) (fun y css R G => R = [] ∧ y = .int .i64 (tk 2 X10.2).1 ∧ ∃ rv', css = [[rv', .int .i64 (tk 2 X10.2).2.f]] ∧ ByG G rv' (tk 2 X10.2).2.l) upV rfl rfl (by kernel_rfl) rfl (dk rfl) rfl rfl (by simp [ids, Diff]) (by simp) (fun G hG hh hM => take_does' (k := 2) (s := X10.2) hG.wf hh hM (hb10.mono (hG.le G10 (by simp))) (.inl (by omega)) (by omega)) (fun v css R G _ _ => upV_den css)) (QOk_body _ _ _) (by first | exact .inl rfl | exact .inr ⟨_, _, rfl, rfl⟩) ?_
  rintro _ ⟨_, css, _, G11, ⟨rfl, rfl, rv11, rfl, hb11⟩, hcs, hle, rfl⟩
  clear hcs hle
  obtain ⟨A11, c11, rfl, hc111, hc112⟩ := hb11.form
  have hbd11 := tk_bd (k := 2) X10.2 (by omega)
  obtain ⟨X11, hX11⟩ : ∃ X, X = tk 2 X10.2 := ⟨_, rfl⟩
  rw [← hX11] at hb11 hc111 hbd11 ⊢
  simp only [go_sem, simprocAttr]
  refine plain_ok (N := 3000) (callH_does ([0]) ([]) ([]) ([]) (fun y css R G => R = [] ∧ y = .int .i64 (tk 4 X11.2).1 ∧ ∃ rv', css = [[rv', .int .i64 (tk 4 X11.2).2.f]] ∧ ByG G rv' (tk 4 X11.2).2.l) upV rfl rfl (by kernel_rfl) rfl (dk rfl) rfl rfl (by simp [ids, Diff]) (by simp) (fun G hG hh hM => take_does' (k := 4) (s := X11.2) hG.wf hh hM (hb11.mono (hG.le G11 (by simp))) (.inl (by omega)) (by omega)) (fun v css R G _ _ => upV_den css)) (QOk_body _ _ _) (by first | exact .inl rfl | exact .inr ⟨_, _, rfl, rfl⟩) ?_
  rintro _ ⟨_, css, _, G12, ⟨rfl, rfl, rv12, rfl, hb12⟩, hcs, hle, rfl⟩
  clear hcs hle
  obtain ⟨A12, c12, rfl, hc121, hc122⟩ := hb12.form
  have hbd12 := tk_bd (k := 4) X11.2 (by omega)
  obtain ⟨X12, hX12⟩ : ∃ X, X = tk 4 X11.2 := ⟨_, rfl⟩
  rw [← hX12] at hb12 hc121 hbd12 ⊢
  simp only [go_sem, simprocAttr]
  have e : vr s = (⟨X1.1, X2.1, X3.1, X4.1, X5.1, X6.1, X7.1, X8.1, X9.1, X10.1, X11.1, X12.1⟩, X12.2) := by
    subst hX12
    subst hX11
    subst hX10
    subst hX9
    subst hX8
    subst hX7
    subst hX6
    subst hX5
    subst hX4
    subst hX3
    subst hX2
    subst hX1
    rfl
  rw [e]
  refine fin_retH (G := G0) Tryd.results32 ?_
  simp only [go_sem, simprocAttr]
  intro aa w' _ hle
  exact ⟨⟨_, rfl, hiv9.mono (hle G9 (by simp))⟩, _, rfl, hb12.mono (hle G12 (by simp))⟩
end Go.Proofs.YtohdfcnjcpjdcaaDoor
