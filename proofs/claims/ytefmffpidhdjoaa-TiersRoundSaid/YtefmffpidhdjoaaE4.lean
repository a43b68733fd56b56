/- State: the driver of the laws of states. Conditions: as each law states them. -/
import Derived.Test.YtefmffpidhdjoaaE3
namespace Go.Proofs.Ytefmffpidhdjoaa
open Go.RowKit
set_option linter.unusedSimpArgs false
/-- a record with its slices' values -/
structure RX where
  r : Rec
  vs : Value
  ps : Value
  ss : Value
def recX (x : RX) : List Value := recV x.r x.vs x.ps x.ss
theorem recX_len (x : RX) : (recX x).length = 29 := rfl
structure RX.Ok (G : GW) (x : RX) : Prop where
  v : IntsG G x.vs x.r.ver.secs
  p : IntsG G x.ps x.r.part.secs
  s : IntsG G x.ss x.r.secs
  ok : RecOk x.r
theorem RX.Ok.mono {G G' : GW} {x : RX} (h : x.Ok G) (hl : G.Le G') : x.Ok G' := ⟨h.v.mono hl, h.p.mono hl, h.s.mono hl, h.ok⟩
def RecCs (G : GW) (r : Rec) (cs : List Value) : Prop := ∃ vs ps ss, cs = recV r vs ps ss ∧ IntsG G vs r.ver.secs ∧ IntsG G ps r.part.secs ∧ IntsG G ss r.secs ∧ RecOk r
theorem recCs_mono : MonoR RecCs := fun _ _ _ _ hl ⟨vs, ps, ss, e, h1, h2, h3, h4⟩ => ⟨vs, ps, ss, e, h1.mono hl, h2.mono hl, h3.mono hl, h4⟩
def RecsG (G : GW) (v : Value) (l : List Rec) : Prop := Sq RecCs 50 29 G v l
theorem recs_of {G : GW} {v : Value} {l : List RX} (h : Sl G 50 29 l.length v (l.flatMap recX)) (hk : ∀ x ∈ l, x.Ok G) : RecsG G v (l.map (·.r)) := by
  refine ⟨l.map recX, ⟨by simp, chunks_map recX_len l, fun i cs x h1 h2 => ?_⟩, by rw [List.length_map, ← List.flatMap_def]; exact h⟩
  rw [List.getElem?_map] at h1 h2
  cases hp : l[i]? with
  | none => rw [hp] at h2; cases h2
  | some p =>
    rw [hp] at h1 h2
    cases h1
    cases h2
    have hx := hk p (List.mem_of_getElem? hp)
    exact ⟨p.vs, p.ps, p.ss, rfl, hx.v, hx.p, hx.s, hx.ok⟩
theorem recV_one (r : Rec) (A B C : Option Addr) (n m k a b c : Nat) : ∀ u ∈ recV r (.slice A n a) (.slice B m b) (.slice C k c), u.oneCell' = true :=
  fun u hu => List.all_eq_true.1 (show (recV r (.slice A n a) (.slice B m b) (.slice C k c)).all (fun u => u.oneCell') = true from rfl) u hu
theorem applyS_ok {s : Sta} {r : Rec} (h : (applyS s r).2 = 0) : okSt (applyS s r).1 = true := by
  unfold applyS at h ⊢
  by_cases q : okSt s = true
  · rw [if_pos q] at h ⊢
    unfold applyC at h ⊢
    by_cases q1 : (changeS s r).1 = 0
    · rw [if_pos q1] at h ⊢
      by_cases q2 : okSt (changeS s r).2 = true
      · rw [if_pos q2] at h ⊢
        exact q2
      · rw [if_neg q2] at h
        cases h
    · rw [if_neg q1] at h
      exact absurd h q1
  · rw [if_neg q] at h
    cases h
theorem i64_0 : i64 0 := ⟨by decide, by decide⟩
theorem start_ok : okSt startS = true := by rfl
theorem rawsOf_len (l : List Raw) (most : Nat) : (rawsOf l most).length = 2 + min most l.length := by
  unfold rawsOf
  rw [List.length_cons, List.length_cons, List.length_take]
  omega
theorem rawsOf_low (l : List Raw) (most j : Nat) (h : j < 2) : (rawsOf l most)[j]? = some (rawA (j : Int)) := by
  obtain rfl | rfl : j = 0 ∨ j = 1 := by omega
  · rfl
  · rfl
theorem rawsOf_high (l : List Raw) (most j : Nat) (h : 2 ≤ j) (hm : j - 2 < most) : (rawsOf l most)[j]? = l[j - 2]? := by
  obtain ⟨k, rfl⟩ : ∃ k, j = k + 2 := ⟨j - 2, by omega⟩
  show (l.take most)[k]? = _
  rw [List.getElem?_take, if_pos (by omega), Nat.add_sub_cancel]
theorem fold_ok : ∀ (l : List Raw) (p : Sta × List Rec), okSt p.1 = true → okSt (l.foldl stepS p).1 = true
  | [], p, h => h
  | r :: l, p, h => by
    refine fold_ok l _ ?_
    unfold stepS stepA
    split
    · rename_i q
      exact applyS_ok q
    · exact h
theorem stateS_ok (l : List Raw) (most : Nat) : okSt (stateS l most).1 = true := fold_ok _ _ start_ok
set_option maxRecDepth 100000 in
set_option maxHeartbeats 32000000 in
theorem state_does {l : List Raw} {lv : Value} {most : Nat} {G0 : GW} (hW : G0.Wf) (hl : RawsG G0 lv l) (hm : most ≤ 1000) :
    Calls Try.prog 20 #[lv, .int .i64 (most : Int)] G0.w (Ret G0 fun v G => ∃ sv ov, v = .tuple #[sv, ov] ∧ StaG G sv (stateS l most).1 ∧ RecsG G ov (stateS l most).2) := by
  obtain ⟨A, c, rfl, hc1, hc2⟩ := ScR.form hl
  have hml := max_le
  have hrl := rawsOf_len l most
  refine enterS (G := G0) (n := 52) 3000 hW Try.func20 rfl Try.ntmps20 (by simp) ?_
  simp only [go_sem, simprocAttr]
  intro g1 g2
  refine row_ok 50 29 ?_
  refine loop_ok (N := 3000) (ι := Nat × Sta × ((Option Addr × Nat) × (Option Addr × Nat) × (Option Addr × Nat) × (Option Addr × Nat) × (Option Addr × Nat)) × List RX × (Option Addr × Nat) × GW)
    (fun i => match i with | (j, s, ((A1, c1), (A2, c2), (A3, c3), (A4, c4), (A5, c5)), rx, (B, d), G) => ⟨[(0, .c (.v (.slice A l.length c))), (1, .c (.v (.int .i64 (most : Int)))), (4, .c (.p 0 g1 0)), (6, .c (.p 1 g2 0)), (7, .c (.v (.slice B rx.length d))), (8, .c (.v (.int .i64 ((j : Int) - 2))))],
      [⟨1, g2, 29, [.v (.int .i64 s.next), .v (.int .i64 s.clock), .v (.slice A1 s.bkts.length c1), .v (.slice A2 s.vers.length c2), .v (.slice A3 s.upls.length c3), .v (.slice A4 s.queue.length c4), .v (.slice A5 s.gone.length c5)]⟩, ⟨0, g1, 29, [.v (.int .i64 0), .v (.int .i64 0), .v (.slice none 0 0), .v (.slice none 0 0), .v (.slice none 0 0), .v (.slice none 0 0), .v (.slice none 0 0)]⟩],
      [⟨.slice B rx.length d, 50, 29, rx.length, rx.flatMap recX⟩], [], [G, G0], 2⟩)
    (fun i => match i with | (j, s, ((A1, c1), (A2, c2), (A3, c3), (A4, c4), (A5, c5)), rx, (B, d), G) => j ≤ (rawsOf l most).length ∧ rx.length ≤ j ∧ stateS l most = ((rawsOf l most).drop j).foldl stepS (s, rx.map (·.r)) ∧ okSt s = true ∧ StaP G s A1 c1 A2 c2 A3 c3 A4 c4 A5 c5 ∧ ∀ x ∈ rx, x.Ok G)
    (fun i => (rawsOf l most).length - i.1) (QOk_body _ _ _) (0, startS, ((none, 0), (none, 0), (none, 0), (none, 0), (none, 0)), [], (none, 0), G0) ⟨by omega, by simp, by simp [stateS], start_ok, ⟨Sq.nil, Sq.nil, Sq.nil, Sq.nil, Sq.nil⟩, fun x hx => by cases hx⟩ (by simp only [go_sem, simprocAttr]; simp [startS]) ?_
  rintro ⟨j, s, ⟨⟨A1, c1⟩, ⟨A2, c2⟩, ⟨A3, c3⟩, ⟨A4, c4⟩, ⟨A5, c5⟩⟩, rx, ⟨B, d⟩, GA⟩ ⟨hj, hrx, hT, hok, hP, hx⟩
  simp only
  by_cases hlt : j < (rawsOf l most).length
  · have q1 : decide ((j : Int) - 2 < (l.length : Int)) = true := decide_eq_true (by omega)
    have q2 : decide ((j : Int) - 2 < (most : Int)) = true := decide_eq_true (by omega)
    have e22 : (j : Int) - 2 + 2 = (j : Int) := by omega
    obtain ⟨r, hr⟩ : ∃ r, (rawsOf l most)[j]? = some r := ⟨_, List.getElem?_eq_getElem hlt⟩
    rw [drop_at hr, List.foldl_cons] at hT
    have e21 : (j : Int) - 2 + 1 = ((j + 1 : Nat) : Int) - 2 := by omega
    simp only [go_sem, simprocAttr, q1, q2, e22]
    refine ⟨by omega, ?_⟩
    intro g3
    by_cases hj2 : j < 2
    · have q3 : decide (0 ≤ (j : Int) - 2) = false := decide_eq_false (by omega)
      rw [rawsOf_low l most j hj2] at hr
      cases hr
      have hrk : RawOk (rawA (j : Int)) := ⟨i64_0, ⟨by show (-9223372036854775808 : Int) ≤ j; omega, by show (j : Int) ≤ 9223372036854775807; omega⟩, i64_0, i64_0, i64_0⟩
      simp only [go_sem, simprocAttr, q3]
      refine plain_ok (N := 3000) (call_does (fun y G => RecG G y (recS s (rawA (j : Int)))) rfl rfl (by kernel_rfl) rfl (dk rfl) (fun G hG => record_does hG.wf (hP.mono (hG.le GA (by simp))).g hrk hok)) (QOk_body _ _ _) (by first | exact .inl rfl | exact .inr ⟨_, _, rfl, rfl⟩) ?_
      rintro _ ⟨_, H1, ⟨vs, ps, ss, rfl, hvs, hps, hss, hro⟩, hn1, rfl⟩
      clear hn1
      obtain ⟨Av, cv, rfl, _⟩ := Sq.form hvs
      obtain ⟨Ap, cp, rfl, _⟩ := Sq.form hps
      obtain ⟨As, cs, rfl, _⟩ := Sq.form hss
      simp only [go_sem, simprocAttr, recV]
      intro g5
      refine plain_ok (N := 3000) (call_does (fun y G => ∃ sv', y = .tuple #[sv', .int .i64 (applyS s (recS s (rawA (j : Int)))).2] ∧ StaG G sv' (applyS s (recS s (rawA (j : Int)))).1) rfl rfl (by kernel_rfl) rfl (dk rfl) (fun G hG => apply_does hG.wf (hP.mono (hG.le GA (by simp))).g ⟨_, _, _, rfl, hvs.mono (hG.le H1 (by simp)), hps.mono (hG.le H1 (by simp)), hss.mono (hG.le H1 (by simp)), hro⟩)) (QOk_body _ _ _) (by first | exact .inl rfl | exact .inr ⟨_, _, rfl, rfl⟩) ?_
      rintro _ ⟨_, H2, ⟨sv', rfl, hsv'⟩, hn2, rfl⟩
      have hl2 : GA.Le H2 := hn2.le GA (by simp)
      have hl1 : H1.Le H2 := hn2.le H1 (by simp)
      clear hn2
      obtain ⟨a, ha⟩ : ∃ a, a = applyS s (recS s (rawA (j : Int))) := ⟨_, rfl⟩
      have hst : stepS (s, rx.map (·.r)) (rawA (j : Int)) = stepA (s, rx.map (·.r)) (recS s (rawA (j : Int))) a := by rw [ha]; rfl
      rw [hst] at hT
      have hao : a.2 = 0 → okSt a.1 = true := by rw [ha]; exact applyS_ok
      rw [← ha] at hsv' ⊢
      clear ha hst
      obtain ⟨B1, f1, B2, f2, B3, f3, B4, f4, B5, f5, rfl, hP2⟩ := hsv'.form
      simp only [go_sem, simprocAttr]
      intro g6
      refine Wb_mk (fun he => ?_) (fun he => ?_)
      · have he' := of_decide_eq_true he
        unfold stepA at hT
        rw [if_pos he'] at hT
        intro g7
        refine plain_ok (N := 3000) (append_does (R1 := []) (R2 := []) (n := rx.length) (v := .slice B rx.length d) (xs := rx.flatMap recX) (m := 1) (news := recV (recS s (rawA (j : Int))) (.slice Av (recS s (rawA (j : Int))).ver.secs.length cv) (.slice Ap (recS s (rawA (j : Int))).part.secs.length cp) (.slice As (recS s (rawA (j : Int))).secs.length cs)) rfl tySlice37 tyApp50 rfl rfl rfl rfl (dk rfl) (recV_one _ _ _ _ _ _ _ _ _ _) (by unfold maxLen; omega) (by omega) (fun G hG => tsl_blk hG List.mem_cons_self rfl (by unfold maxLen; omega))) (QOk_body _ _ _) (by first | exact .inl rfl | exact .inr ⟨_, _, rfl, rfl⟩) ?_
        rintro _ ⟨A', c', rfl⟩
        simp only [go_sem, simprocAttr, e21]
        refine ⟨by omega, ?_⟩
        refine again_ok (j + 1, a.1, ((B1, f1), (B2, f2), (B3, f3), (B4, f4), (B5, f5)), rx ++ [⟨recS s (rawA (j : Int)), .slice Av (recS s (rawA (j : Int))).ver.secs.length cv, .slice Ap (recS s (rawA (j : Int))).part.secs.length cp, .slice As (recS s (rawA (j : Int))).secs.length cs⟩], (A', c'), H2) ⟨hlt, by simp; omega, by rw [List.map_append]; exact hT, hao he', hP2, fun x hx' => ?_⟩ (by show (rawsOf l most).length - (j + 1) < (rawsOf l most).length - j; omega) (by simp only [go_sem, simprocAttr]; simp [recX])
        rcases List.mem_append.1 hx' with hx' | hx'
        · exact (hx x hx').mono hl2
        · rw [List.mem_singleton.1 hx']
          exact ⟨hvs.mono hl1, hps.mono hl1, hss.mono hl1, hro⟩
      · have he' := of_decide_eq_false he
        unfold stepA at hT
        rw [if_neg he'] at hT
        simp only [go_sem, simprocAttr, e21]
        refine ⟨by omega, ?_⟩
        refine again_ok (j + 1, s, ((A1, c1), (A2, c2), (A3, c3), (A4, c4), (A5, c5)), rx, (B, d), GA) ⟨hlt, by show rx.length ≤ j + 1; omega, hT, hok, hP, hx⟩ (by show (rawsOf l most).length - (j + 1) < (rawsOf l most).length - j; omega) (by simp only [go_sem, simprocAttr]; simp)
    · have q3 : decide (0 ≤ (j : Int) - 2) = true := decide_eq_true (by omega)
      rw [rawsOf_high l most j (by omega) (by omega)] at hr
      have hjc : (j : Int) - 2 = ((j - 2 : Nat) : Int) := by omega
      simp only [go_sem, simprocAttr, q3]
      refine plain_ok (N := 3000) (elemC_does (R := RawG) (l := l) (m := j - 2) rfl tySlice36 tySize54 rfl rfl (dk rfl) hjc hr (fun G hG => ScR.mono hl rawG_mono (hG.le G0 (by simp)))) (QOk_body _ _ _) (by first | exact .inl rfl | exact .inr ⟨_, _, rfl, rfl⟩) ?_
      rintro _ ⟨g4, o', cs0, G2, hcl, ⟨rfl, hra, hrb, hrc, hrd, hre, hrf⟩, hn0, rfl⟩
      clear hn0
      have hrk : RawOk r := ⟨hra, hrb, hrc, hrd, hre⟩
      simp only [go_sem, simprocAttr]
      refine plain_ok (N := 3000) (call_does (fun y G => RecG G y (recS s r)) rfl rfl (by kernel_rfl) rfl (dk rfl) (fun G hG => record_does hG.wf (hP.mono (hG.le GA (by simp))).g hrk hok)) (QOk_body _ _ _) (by first | exact .inl rfl | exact .inr ⟨_, _, rfl, rfl⟩) ?_
      rintro _ ⟨_, H1, ⟨vs, ps, ss, rfl, hvs, hps, hss, hro⟩, hn1, rfl⟩
      clear hn1
      obtain ⟨Av, cv, rfl, _⟩ := Sq.form hvs
      obtain ⟨Ap, cp, rfl, _⟩ := Sq.form hps
      obtain ⟨As, cs, rfl, _⟩ := Sq.form hss
      simp only [go_sem, simprocAttr, recV]
      intro g5
      refine plain_ok (N := 3000) (call_does (fun y G => ∃ sv', y = .tuple #[sv', .int .i64 (applyS s (recS s r)).2] ∧ StaG G sv' (applyS s (recS s r)).1) rfl rfl (by kernel_rfl) rfl (dk rfl) (fun G hG => apply_does hG.wf (hP.mono (hG.le GA (by simp))).g ⟨_, _, _, rfl, hvs.mono (hG.le H1 (by simp)), hps.mono (hG.le H1 (by simp)), hss.mono (hG.le H1 (by simp)), hro⟩)) (QOk_body _ _ _) (by first | exact .inl rfl | exact .inr ⟨_, _, rfl, rfl⟩) ?_
      rintro _ ⟨_, H2, ⟨sv', rfl, hsv'⟩, hn2, rfl⟩
      have hl2 : GA.Le H2 := hn2.le GA (by simp)
      have hl1 : H1.Le H2 := hn2.le H1 (by simp)
      clear hn2
      obtain ⟨a, ha⟩ : ∃ a, a = applyS s (recS s r) := ⟨_, rfl⟩
      have hst : stepS (s, rx.map (·.r)) r = stepA (s, rx.map (·.r)) (recS s r) a := by rw [ha]; rfl
      rw [hst] at hT
      have hao : a.2 = 0 → okSt a.1 = true := by rw [ha]; exact applyS_ok
      rw [← ha] at hsv' ⊢
      clear ha hst
      obtain ⟨B1, f1, B2, f2, B3, f3, B4, f4, B5, f5, rfl, hP2⟩ := hsv'.form
      simp only [go_sem, simprocAttr]
      intro g6
      refine Wb_mk (fun he => ?_) (fun he => ?_)
      · have he' := of_decide_eq_true he
        unfold stepA at hT
        rw [if_pos he'] at hT
        intro g7
        refine plain_ok (N := 3000) (append_does (R1 := []) (R2 := []) (n := rx.length) (v := .slice B rx.length d) (xs := rx.flatMap recX) (m := 1) (news := recV (recS s r) (.slice Av (recS s r).ver.secs.length cv) (.slice Ap (recS s r).part.secs.length cp) (.slice As (recS s r).secs.length cs)) rfl tySlice37 tyApp50 rfl rfl rfl rfl (dk rfl) (recV_one _ _ _ _ _ _ _ _ _ _) (by unfold maxLen; omega) (by omega) (fun G hG => tsl_blk hG List.mem_cons_self rfl (by unfold maxLen; omega))) (QOk_body _ _ _) (by first | exact .inl rfl | exact .inr ⟨_, _, rfl, rfl⟩) ?_
        rintro _ ⟨A', c', rfl⟩
        simp only [go_sem, simprocAttr, e21]
        refine ⟨by omega, ?_⟩
        refine again_ok (j + 1, a.1, ((B1, f1), (B2, f2), (B3, f3), (B4, f4), (B5, f5)), rx ++ [⟨recS s r, .slice Av (recS s r).ver.secs.length cv, .slice Ap (recS s r).part.secs.length cp, .slice As (recS s r).secs.length cs⟩], (A', c'), H2) ⟨hlt, by simp; omega, by rw [List.map_append]; exact hT, hao he', hP2, fun x hx' => ?_⟩ (by show (rawsOf l most).length - (j + 1) < (rawsOf l most).length - j; omega) (by simp only [go_sem, simprocAttr]; simp [recX])
        rcases List.mem_append.1 hx' with hx' | hx'
        · exact (hx x hx').mono hl2
        · rw [List.mem_singleton.1 hx']
          exact ⟨hvs.mono hl1, hps.mono hl1, hss.mono hl1, hro⟩
      · have he' := of_decide_eq_false he
        unfold stepA at hT
        rw [if_neg he'] at hT
        simp only [go_sem, simprocAttr, e21]
        refine ⟨by omega, ?_⟩
        refine again_ok (j + 1, s, ((A1, c1), (A2, c2), (A3, c3), (A4, c4), (A5, c5)), rx, (B, d), GA) ⟨hlt, by show rx.length ≤ j + 1; omega, hT, hok, hP, hx⟩ (by show (rawsOf l most).length - (j + 1) < (rawsOf l most).length - j; omega) (by simp only [go_sem, simprocAttr]; simp)
  · have hjl : j = (rawsOf l most).length := by omega
    rw [hjl, List.drop_length] at hT
    have hT' : stateS l most = (s, rx.map (·.r)) := hT
    clear hT
    by_cases h1 : (j : Int) - 2 < (l.length : Int)
    · have q1 : decide ((j : Int) - 2 < (l.length : Int)) = true := decide_eq_true h1
      have q2 : decide ((j : Int) - 2 < (most : Int)) = false := decide_eq_false (by omega)
      simp only [go_sem, simprocAttr, q1, q2]
      refine read_ok (R1 := []) rfl (fun G8 hle8 hsl8 => ?_) (fun _ _ q => q) (by show (29 : Nat) ≠ 0; decide)
      have hO : RecsG G8 (.slice B rx.length d) (rx.map (·.r)) := recs_of hsl8 (fun x hx' => (hx x hx').mono (hle8 GA (by simp)))
      refine fin_ret (G := G0) Try.results20 ?_
      simp only [go_sem, simprocAttr]
      intro aa w' _ hle
      rw [hT']
      exact ⟨_, _, rfl, (hP.mono (hle GA (by simp))).g, Sq.mono hO recCs_mono (hle G8 (by simp))⟩
    · have q1 : decide ((j : Int) - 2 < (l.length : Int)) = false := decide_eq_false h1
      simp only [go_sem, simprocAttr, q1]
      refine read_ok (R1 := []) rfl (fun G8 hle8 hsl8 => ?_) (fun _ _ q => q) (by show (29 : Nat) ≠ 0; decide)
      have hO : RecsG G8 (.slice B rx.length d) (rx.map (·.r)) := recs_of hsl8 (fun x hx' => (hx x hx').mono (hle8 GA (by simp)))
      refine fin_ret (G := G0) Try.results20 ?_
      simp only [go_sem, simprocAttr]
      intro aa w' _ hle
      rw [hT']
      exact ⟨_, _, rfl, (hP.mono (hle GA (by simp))).g, Sq.mono hO recCs_mono (hle G8 (by simp))⟩
end Go.Proofs.Ytefmffpidhdjoaa
