/- What a state that the driver made is like; a version that comes, is frozen, thawed and chilled. Conditions: none. -/
import Derived.Test.YtefmffpidhdjoaaV1
namespace Go.Proofs.Ytefmffpidhdjoaa
open Go.RowKit
set_option linter.unusedSimpArgs false
theorem applyS_errC {s : Sta} {r : Rec} (h : (applyS s r).2 ≠ 0) : (applyS s r).1 = zeroS := by
  unfold applyS at h ⊢
  by_cases q : okSt s = true
  · rw [if_pos q] at h ⊢
    unfold applyC at h ⊢
    by_cases q1 : (changeS s r).1 = 0
    · rw [if_pos q1] at h ⊢
      by_cases q2 : okSt (changeS s r).2 = true
      · rw [if_pos q2] at h
        exact absurd rfl h
      · rw [if_neg q2]
    · rw [if_neg q1]
  · rw [if_neg q]
theorem applyS_fineC {s : Sta} {r : Rec} (hok : okSt s = true) (h : (applyS s r).2 = 0) : (changeS s r).1 = 0 ∧ (applyS s r).1 = (changeS s r).2 := by
  rw [applyS_of hok] at h ⊢
  unfold applyC at h ⊢
  by_cases q1 : (changeS s r).1 = 0
  · rw [if_pos q1] at h ⊢
    by_cases q2 : okSt (changeS s r).2 = true
    · rw [if_pos q2]; exact ⟨q1, rfl⟩
    · rw [if_neg q2] at h; cases h
  · rw [if_neg q1] at h; exact absurd h q1
def SameC (s t : Sta) : Prop := t.next = s.next ∧ t.clock = s.clock
theorem null_sameC (s : Sta) (v : Ver) : SameC s (nullS s v) := by
  unfold nullS
  repeat' split
  all_goals exact ⟨rfl, rfl⟩
theorem change_clock {s : Sta} {r : Rec} (h : (changeS s r).1 = 0) : (changeS s r).2.clock = s.clock + (if r.kind = 13 then r.n else 0) := by
  have key : ∀ {t : Sta}, SameC s t → ¬ r.kind = 13 → t.clock = s.clock + (if r.kind = 13 then r.n else 0) := fun {t} hs hk => by
    rw [if_neg hk]
    rw [hs.2]; omega
  unfold changeS at h ⊢
  by_cases q : r.kind = 1
  · rw [if_pos q]
    refine key ?_ (by omega)
    unfold addS
    repeat' split
    all_goals exact ⟨rfl, rfl⟩
  rw [if_neg q] at h ⊢
  by_cases q2 : r.kind = 2 ∨ r.kind = 3
  · rw [if_pos q2]
    refine key ?_ (by omega)
    unfold setS setB setC
    repeat' split
    all_goals exact ⟨rfl, rfl⟩
  rw [if_neg q2] at h ⊢
  by_cases q4 : r.kind = 4
  · rw [if_pos q4] at h ⊢
    rw [if_neg (by omega)]
    unfold comeS at h ⊢
    obtain ⟨n1, n2⟩ := null_sameC s r.ver
    by_cases a : (!decide (r.ver.id = s.next) || decide (s.next = 1048576)) = true
    · rw [if_pos a] at h; cases h
    · rw [if_neg a] at h ⊢
      by_cases b : ((nullS s r.ver).vers.length : Int) = 40
      · rw [if_pos b] at h; cases h
      · rw [if_neg b]
        show (nullS s r.ver).clock = _
        rw [n2]; omega
  rw [if_neg q4] at h ⊢
  by_cases q5 : r.kind = 5
  · rw [if_pos q5]
    refine key ?_ (by omega)
    unfold dropOneS dropV
    repeat' split
    all_goals exact ⟨rfl, rfl⟩
  rw [if_neg q5] at h ⊢
  by_cases q6 : r.kind = 6 ∨ r.kind = 8 ∨ r.kind = 9
  · rw [if_pos q6]
    refine key ?_ (by omega)
    unfold turnS turnV turnB
    repeat' split
    all_goals exact ⟨rfl, rfl⟩
  rw [if_neg q6] at h ⊢
  by_cases q7 : r.kind = 7
  · rw [if_pos q7]
    refine key ?_ (by omega)
    unfold askS
    repeat' split
    all_goals exact ⟨rfl, rfl⟩
  rw [if_neg q7] at h ⊢
  by_cases q10 : r.kind = 10
  · rw [if_pos q10] at h ⊢
    rw [if_neg (by omega)]
    unfold beginS at h ⊢
    by_cases a : (!decide (r.id = s.next) || decide (s.next = 1048576)) = true
    · rw [if_pos a] at h; cases h
    · rw [if_neg a] at h ⊢
      by_cases b : (s.upls.length : Int) = 4
      · rw [if_pos b] at h; cases h
      · rw [if_neg b]
        show s.clock = _
        omega
  rw [if_neg q10] at h ⊢
  by_cases q11 : r.kind = 11 ∨ r.kind = 12
  · rw [if_pos q11]
    refine key ?_ (by omega)
    unfold sendS sendU sendC
    repeat' split
    all_goals exact ⟨rfl, rfl⟩
  rw [if_neg q11] at h ⊢
  by_cases q13 : r.kind = 13
  · rw [if_pos q13] at h ⊢
    rw [if_pos q13]
    unfold passS at h ⊢
    by_cases a : (decide (r.n < 0) || decide (1073741824 - s.clock < r.n)) = true
    · rw [if_pos a] at h; cases h
    · rw [if_neg a]
  rw [if_neg q13] at h ⊢
  by_cases q14 : r.kind = 14
  · rw [if_pos q14]
    refine key ?_ (by omega)
    unfold giveS
    repeat' split
    all_goals exact ⟨rfl, rfl⟩
  rw [if_neg q14] at h
  cases h
theorem rec_kind13 (s : Sta) (r : Raw) (k : Int) (h : (recK s r k).kind = 13) : (recK s r k).n ≤ 11 := by
  have hb := pick_bd r.a 12 (by omega)
  unfold recK at h ⊢
  by_cases q1 : k = 1
  · rw [if_pos q1] at h; exact absurd (show k = 13 from h) (by omega)
  rw [if_neg q1] at h ⊢
  by_cases q2 : k = 2
  · rw [if_pos q2] at h; exact absurd (show k = 13 from h) (by omega)
  rw [if_neg q2] at h ⊢
  by_cases q3 : k = 3
  · rw [if_pos q3] at h; exact absurd (show k = 13 from h) (by omega)
  rw [if_neg q3] at h ⊢
  by_cases q4 : k = 4
  · rw [if_pos q4] at h; exact absurd (show k = 13 from h) (by omega)
  rw [if_neg q4] at h ⊢
  by_cases q5 : k = 5 ∨ k = 9
  · rw [if_pos q5] at h; exact absurd (show k = 13 from h) (by omega)
  rw [if_neg q5] at h ⊢
  by_cases q6 : k = 6
  · rw [if_pos q6] at h; exact absurd (show k = 13 from h) (by omega)
  rw [if_neg q6] at h ⊢
  by_cases q7 : k = 7
  · rw [if_pos q7] at h; exact absurd (show k = 13 from h) (by omega)
  rw [if_neg q7] at h ⊢
  by_cases q8 : k = 8
  · rw [if_pos q8] at h; exact absurd (show k = 13 from h) (by omega)
  rw [if_neg q8] at h ⊢
  by_cases q10 : k = 10
  · rw [if_pos q10] at h; exact absurd (show k = 13 from h) (by omega)
  rw [if_neg q10] at h ⊢
  by_cases q11 : k = 11
  · rw [if_pos q11] at h; exact absurd (show k = 13 from h) (by omega)
  rw [if_neg q11] at h ⊢
  by_cases q12 : k = 12
  · rw [if_pos q12] at h; exact absurd (show k = 13 from h) (by omega)
  rw [if_neg q12] at h ⊢
  by_cases q13 : k = 13
  · rw [if_pos q13]
    show pick r.a 12 ≤ 11
    omega
  · rw [if_neg q13] at h
    exact absurd (show k = 13 from h) q13
theorem step_clock {p : Sta × List Rec} (r : Raw) (hok : okSt p.1 = true) : (stepS p r).1.clock ≤ p.1.clock + 11 ∧ okSt (stepS p r).1 = true := by
  unfold stepS stepA
  by_cases q : (applyS p.1 (recS p.1 r)).2 = 0
  · rw [if_pos q]
    obtain ⟨e1, e2⟩ := applyS_fineC hok q
    refine ⟨?_, applyS_ok q⟩
    show (applyS p.1 (recS p.1 r)).1.clock ≤ _
    rw [e2, change_clock e1]
    by_cases k : (recS p.1 r).kind = 13
    · rw [if_pos k]
      have := rec_kind13 p.1 r _ k
      show p.1.clock + (recK p.1 r (1 + pick r.kind 14)).n ≤ _
      omega
    · rw [if_neg k]
      omega
  · rw [if_neg q]
    exact ⟨by show p.1.clock ≤ p.1.clock + 11; omega, hok⟩
theorem fold_clock : ∀ (l : List Raw) (p : Sta × List Rec), okSt p.1 = true → (l.foldl stepS p).1.clock ≤ p.1.clock + 11 * (l.length : Int)
  | [], p, _ => by simp
  | r :: l, p, h => by
    obtain ⟨h1, h2⟩ := step_clock r h
    have := fold_clock l (stepS p r) h2
    rw [List.foldl_cons, List.length_cons]
    omega
/-- the clock of a state that the driver made -/
theorem stateS_clock (l : List Raw) (most : Nat) : (stateS l most).1.clock ≤ 11 * (2 + most : Nat) := by
  have h := fold_clock (rawsOf l most) (startS, []) start_ok
  have e := rawsOf_len l most
  have : (startS, ([] : List Rec)).1.clock = 0 := rfl
  unfold stateS
  rw [this] at h
  omega
theorem change_nextC {s : Sta} {r : Rec} (h : (changeS s r).1 = 0) : (changeS s r).2.next = s.next + (if r.kind = 4 ∨ r.kind = 10 then 1 else 0) ∧ s.clock ≤ (changeS s r).2.clock := by
  have key : ∀ {t : Sta}, SameC s t → ¬ (r.kind = 4 ∨ r.kind = 10) → t.next = s.next + (if r.kind = 4 ∨ r.kind = 10 then 1 else 0) ∧ s.clock ≤ t.clock := fun {t} hs hk => by
    rw [if_neg hk]
    exact ⟨by rw [hs.1]; omega, by rw [hs.2]; omega⟩
  unfold changeS at h ⊢
  by_cases q : r.kind = 1
  · rw [if_pos q]
    refine key ?_ (by omega)
    unfold addS
    repeat' split
    all_goals exact ⟨rfl, rfl⟩
  rw [if_neg q] at h ⊢
  by_cases q2 : r.kind = 2 ∨ r.kind = 3
  · rw [if_pos q2]
    refine key ?_ (by omega)
    unfold setS setB setC
    repeat' split
    all_goals exact ⟨rfl, rfl⟩
  rw [if_neg q2] at h ⊢
  by_cases q4 : r.kind = 4
  · rw [if_pos q4] at h ⊢
    rw [if_pos (.inl q4)]
    unfold comeS at h ⊢
    obtain ⟨n1, n2⟩ := null_sameC s r.ver
    by_cases a : (!decide (r.ver.id = s.next) || decide (s.next = 1048576)) = true
    · rw [if_pos a] at h; cases h
    · rw [if_neg a] at h ⊢
      by_cases b : ((nullS s r.ver).vers.length : Int) = 40
      · rw [if_pos b] at h; cases h
      · rw [if_neg b]
        exact ⟨by show (nullS s r.ver).next + 1 = _; rw [n1], by show s.clock ≤ (nullS s r.ver).clock; rw [n2]; omega⟩
  rw [if_neg q4] at h ⊢
  by_cases q5 : r.kind = 5
  · rw [if_pos q5]
    refine key ?_ (by omega)
    unfold dropOneS dropV
    repeat' split
    all_goals exact ⟨rfl, rfl⟩
  rw [if_neg q5] at h ⊢
  by_cases q6 : r.kind = 6 ∨ r.kind = 8 ∨ r.kind = 9
  · rw [if_pos q6]
    refine key ?_ (by omega)
    unfold turnS turnV turnB
    repeat' split
    all_goals exact ⟨rfl, rfl⟩
  rw [if_neg q6] at h ⊢
  by_cases q7 : r.kind = 7
  · rw [if_pos q7]
    refine key ?_ (by omega)
    unfold askS
    repeat' split
    all_goals exact ⟨rfl, rfl⟩
  rw [if_neg q7] at h ⊢
  by_cases q10 : r.kind = 10
  · rw [if_pos q10] at h ⊢
    rw [if_pos (.inr q10)]
    unfold beginS at h ⊢
    by_cases a : (!decide (r.id = s.next) || decide (s.next = 1048576)) = true
    · rw [if_pos a] at h; cases h
    · rw [if_neg a] at h ⊢
      by_cases b : (s.upls.length : Int) = 4
      · rw [if_pos b] at h; cases h
      · rw [if_neg b]
        exact ⟨rfl, Int.le_refl _⟩
  rw [if_neg q10] at h ⊢
  by_cases q11 : r.kind = 11 ∨ r.kind = 12
  · rw [if_pos q11]
    refine key ?_ (by omega)
    unfold sendS sendU sendC
    repeat' split
    all_goals exact ⟨rfl, rfl⟩
  rw [if_neg q11] at h ⊢
  by_cases q13 : r.kind = 13
  · rw [if_pos q13] at h ⊢
    rw [if_neg (by omega)]
    unfold passS at h ⊢
    by_cases a : (decide (r.n < 0) || decide (1073741824 - s.clock < r.n)) = true
    · rw [if_pos a] at h; cases h
    · rw [if_neg a]
      have := bool_no a
      simp only [Bool.or_eq_false_iff, decide_eq_false_iff_not] at this
      exact ⟨by show s.next = s.next + 0; omega, by show s.clock ≤ s.clock + r.n; omega⟩
  rw [if_neg q13] at h ⊢
  by_cases q14 : r.kind = 14
  · rw [if_pos q14]
    refine key ?_ (by omega)
    unfold giveS
    repeat' split
    all_goals exact ⟨rfl, rfl⟩
  rw [if_neg q14] at h
  cases h
theorem step_next {p : Sta × List Rec} (r : Raw) (hok : okSt p.1 = true) : (stepS p r).1.next ≤ p.1.next + 1 ∧ okSt (stepS p r).1 = true := by
  unfold stepS stepA
  by_cases q : (applyS p.1 (recS p.1 r)).2 = 0
  · rw [if_pos q]
    obtain ⟨e1, e2⟩ := applyS_fineC hok q
    refine ⟨?_, applyS_ok q⟩
    show (applyS p.1 (recS p.1 r)).1.next ≤ _
    rw [e2, (change_nextC e1).1]
    split <;> omega
  · rw [if_neg q]
    exact ⟨by show p.1.next ≤ p.1.next + 1; omega, hok⟩
theorem fold_next : ∀ (l : List Raw) (p : Sta × List Rec), okSt p.1 = true → (l.foldl stepS p).1.next ≤ p.1.next + (l.length : Int)
  | [], p, _ => by simp
  | r :: l, p, h => by
    obtain ⟨h1, h2⟩ := step_next r h
    have := fold_next l (stepS p r) h2
    rw [List.foldl_cons, List.length_cons]
    omega
theorem stateS_next (l : List Raw) (most : Nat) : (stateS l most).1.next ≤ 3 + most := by
  have h := fold_next (rawsOf l most) (startS, []) start_ok
  have e := rawsOf_len l most
  have : (startS, ([] : List Rec)).1.next = 1 := rfl
  unfold stateS
  rw [this] at h
  omega
theorem null_gone (s : Sta) (v : Ver) : (nullS s v).gone = s.gone := by
  unfold nullS
  repeat' split
  all_goals rfl
theorem change_gone {s : Sta} {r : Rec} : (changeS s r).2.gone = s.gone ∨ (r.kind = 14 ∧ (changeS s r).2.gone = s.gone.insertIdx (goneAt s r.vol) r.vol) := by
  unfold changeS
  by_cases q : r.kind = 1
  · rw [if_pos q]
    refine .inl ?_
    unfold addS
    repeat' split
    all_goals rfl
  rw [if_neg q]
  by_cases q2 : r.kind = 2 ∨ r.kind = 3
  · rw [if_pos q2]
    refine .inl ?_
    unfold setS setB setC
    repeat' split
    all_goals rfl
  rw [if_neg q2]
  by_cases q4 : r.kind = 4
  · rw [if_pos q4]
    refine .inl ?_
    unfold comeS
    repeat' split
    all_goals first | rfl | exact null_gone s r.ver
  rw [if_neg q4]
  by_cases q5 : r.kind = 5
  · rw [if_pos q5]
    refine .inl ?_
    unfold dropOneS dropV
    repeat' split
    all_goals rfl
  rw [if_neg q5]
  by_cases q6 : r.kind = 6 ∨ r.kind = 8 ∨ r.kind = 9
  · rw [if_pos q6]
    refine .inl ?_
    unfold turnS turnV turnB
    repeat' split
    all_goals rfl
  rw [if_neg q6]
  by_cases q7 : r.kind = 7
  · rw [if_pos q7]
    refine .inl ?_
    unfold askS
    repeat' split
    all_goals rfl
  rw [if_neg q7]
  by_cases q10 : r.kind = 10
  · rw [if_pos q10]
    refine .inl ?_
    unfold beginS
    repeat' split
    all_goals rfl
  rw [if_neg q10]
  by_cases q11 : r.kind = 11 ∨ r.kind = 12
  · rw [if_pos q11]
    refine .inl ?_
    unfold sendS sendU sendC
    repeat' split
    all_goals rfl
  rw [if_neg q11]
  by_cases q13 : r.kind = 13
  · rw [if_pos q13]
    refine .inl ?_
    unfold passS
    repeat' split
    all_goals rfl
  rw [if_neg q13]
  by_cases q14 : r.kind = 14
  · rw [if_pos q14]
    unfold giveS
    split
    · exact .inl rfl
    · exact .inr ⟨q14, rfl⟩
  rw [if_neg q14]
  exact .inl rfl
theorem rec_kind14 (s : Sta) (r : Raw) (k : Int) (h : (recK s r k).kind = 14) : (recK s r k).vol < 4 := by
  have hb := pick_bd r.a 4 (by omega)
  unfold recK at h ⊢
  by_cases q1 : k = 1
  · rw [if_pos q1] at h; exact absurd (show k = 14 from h) (by omega)
  rw [if_neg q1] at h ⊢
  by_cases q2 : k = 2
  · rw [if_pos q2] at h; exact absurd (show k = 14 from h) (by omega)
  rw [if_neg q2] at h ⊢
  by_cases q3 : k = 3
  · rw [if_pos q3] at h; exact absurd (show k = 14 from h) (by omega)
  rw [if_neg q3] at h ⊢
  by_cases q4 : k = 4
  · rw [if_pos q4] at h; exact absurd (show k = 14 from h) (by omega)
  rw [if_neg q4] at h ⊢
  by_cases q5 : k = 5 ∨ k = 9
  · rw [if_pos q5] at h; exact absurd (show k = 14 from h) (by omega)
  rw [if_neg q5] at h ⊢
  by_cases q6 : k = 6
  · rw [if_pos q6] at h; exact absurd (show k = 14 from h) (by omega)
  rw [if_neg q6] at h ⊢
  by_cases q7 : k = 7
  · rw [if_pos q7] at h; exact absurd (show k = 14 from h) (by omega)
  rw [if_neg q7] at h ⊢
  by_cases q8 : k = 8
  · rw [if_pos q8] at h; exact absurd (show k = 14 from h) (by omega)
  rw [if_neg q8] at h ⊢
  by_cases q10 : k = 10
  · rw [if_pos q10] at h; exact absurd (show k = 14 from h) (by omega)
  rw [if_neg q10] at h ⊢
  by_cases q11 : k = 11
  · rw [if_pos q11] at h; exact absurd (show k = 14 from h) (by omega)
  rw [if_neg q11] at h ⊢
  by_cases q12 : k = 12
  · rw [if_pos q12] at h; exact absurd (show k = 14 from h) (by omega)
  rw [if_neg q12] at h ⊢
  by_cases q13 : k = 13
  · rw [if_pos q13] at h; exact absurd (show k = 14 from h) (by omega)
  rw [if_neg q13] at h ⊢
  exact hb.2
theorem step_gone {p : Sta × List Rec} (r : Raw) (hok : okSt p.1 = true) (hg : ∀ x ∈ p.1.gone, x < 4) : (∀ x ∈ (stepS p r).1.gone, x < 4) ∧ okSt (stepS p r).1 = true := by
  unfold stepS stepA
  by_cases q : (applyS p.1 (recS p.1 r)).2 = 0
  · rw [if_pos q]
    obtain ⟨e1, e2⟩ := applyS_fineC hok q
    refine ⟨?_, applyS_ok q⟩
    show ∀ x ∈ (applyS p.1 (recS p.1 r)).1.gone, x < 4
    rw [e2]
    rcases change_gone (s := p.1) (r := recS p.1 r) with e | ⟨k, e⟩
    · rw [e]; exact hg
    · rw [e]
      intro x hx
      rcases insert_mem hx with rfl | hx
      · exact rec_kind14 p.1 r _ k
      · exact hg x hx
  · rw [if_neg q]
    exact ⟨hg, hok⟩
theorem fold_gone : ∀ (l : List Raw) (p : Sta × List Rec), okSt p.1 = true → (∀ x ∈ p.1.gone, x < 4) → ∀ x ∈ (l.foldl stepS p).1.gone, x < 4
  | [], p, _, h => h
  | r :: l, p, h, hg => by
    obtain ⟨h1, h2⟩ := step_gone r h hg
    exact fold_gone l (stepS p r) h2 h1
theorem stateS_gone (l : List Raw) (most : Nat) : ∀ x ∈ (stateS l most).1.gone, x < 4 := fold_gone (rawsOf l most) (startS, []) start_ok (fun x hx => by cases hx)
/-- a state whose last version this is -/
def endS (s : Sta) (nx : Int) (v : Ver) (q : List Ask) : Sta := { s with next := nx, vers := s.vers ++ [v], queue := q }
/-- the version in another tier -/
def inT (v : Ver) (t : Int) (S : List Int) (c d e : Int) : Ver := { v with tier := t, secs := S, vol := c, at_ := d, till := e }
theorem good_upd {s : Sta} {nx : Int} {v : Ver} {q q' : List Ask} (h : Good (endS s nx v q)) (hn : v.null = false) (hm : v.marker = false) {t : Int} {S : List Int} {c d e : Int} (ht : Tier0 (endS s nx v q) (inT v t S c d e)) (hsz : 0 ≤ v.size ∧ v.size ≤ 600)
    (hf : Fr [] (secsV (s.vers ++ [inT v t S c d e]) ++ secsU s.upls)) (hq : ∀ a ∈ q', a.ver ≠ v.id) (hs : q'.Sublist q) : Good (endS s nx (inT v t S c d e) q') := by
  have hids : (s.vers ++ [v]).Pairwise fun a b => a.id < b.id := h.ids
  rw [List.pairwise_append] at hids
  have hids' : (s.vers ++ [inT v t S c d e]).Pairwise fun a b => a.id < b.id := by
    rw [List.pairwise_append]
    exact ⟨hids.1, List.pairwise_singleton _ _, fun a ha b hb => by
      rw [List.mem_singleton.1 hb]
      exact hids.2.2 a ha v (List.mem_singleton.2 rfl)⟩
  have hnul : nulK (s.vers ++ [inT v t S c d e]) = nulK (s.vers ++ [v]) := by
    unfold nulK
    rw [List.filter_append, List.filter_append]
    congr 2
    have : (inT v t S c d e).null = false := hn
    simp [hn, this]
  have hlen : (s.vers ++ [inT v t S c d e]).length = (s.vers ++ [v]).length := by simp
  have hv := h.snd v (List.mem_append_right _ (List.mem_singleton.2 rfl))
  refine ⟨h.n1, h.n2, h.c1, h.c2, h.gone, h.bkts, fun x hx => ?_, hids', ?_, ?_, h.out, h.prt, h.uids, h.ulen, hf, fun a ha => ?_, h.queue.one.sublist hs, Nat.le_trans hs.length_le h.queue.len⟩
  · rcases List.mem_append.1 hx with hx | hx
    · exact h.snd x (List.mem_append_left _ hx)
    · rw [List.mem_singleton.1 hx]
      exact ⟨hv.1, .inr ⟨hm, hsz.1, hsz.2, ht⟩⟩
  · show (nulK (s.vers ++ [inT v t S c d e])).Nodup
    rw [hnul]
    exact h.nul
  · show (s.vers ++ [inT v t S c d e]).length ≤ 40
    rw [hlen]
    exact h.vlen
  · rw [askOut_iff (s := endS s nx (inT v t S c d e) q') hids']
    obtain ⟨⟨w, hw, e1, e2⟩, r1, r2, r3, r4⟩ := (askOut_iff (s := endS s nx v q) h.ids).1 (h.queue.out a (hs.subset ha))
    refine ⟨⟨w, ?_, e1, e2⟩, r1, r2, r3, r4⟩
    have hw' : w ∈ s.vers ++ [v] := hw
    rcases List.mem_append.1 hw' with hw | hw
    · exact List.mem_append_left _ hw
    · rw [List.mem_singleton.1 hw] at e1
      exact absurd e1.symm (hq a ha)
/-- nobody asks for what is hot -/
theorem ask_hot {s : Sta} {nx : Int} {v : Ver} {q : List Ask} (h : Good (endS s nx v q)) (ht : v.tier = 1) : ∀ a ∈ q, a.ver ≠ v.id := by
  intro a ha e
  have hids : (s.vers ++ [v]).Pairwise fun a b => a.id < b.id := h.ids
  rw [List.pairwise_append] at hids
  obtain ⟨⟨w, hw, e1, e2⟩, _⟩ := (askOut_iff (s := endS s nx v q) h.ids).1 (h.queue.out a ha)
  have hw' : w ∈ s.vers ++ [v] := hw
  rcases List.mem_append.1 hw' with hw | hw
  · have := hids.2.2 w hw v (List.mem_singleton.2 rfl)
    omega
  · rw [List.mem_singleton.1 hw] at e2
    omega
theorem end_at {s : Sta} {nx : Int} {v : Ver} {q : List Ask} (h : Good (endS s nx v q)) : verAt (endS s nx v q) v.id = s.vers.length ∧ verIn (endS s nx v q) v.id = true ∧ (endS s nx v q).vers[s.vers.length]? = some v := by
  have hv : (endS s nx v q).vers[s.vers.length]? = some v := by
    show (s.vers ++ [v])[s.vers.length]? = some v
    rw [List.getElem?_append_right (Nat.le_refl _), Nat.sub_self]
    rfl
  obtain ⟨h1, h2⟩ := ver_at (s := endS s nx v q) h.ids hv
  exact ⟨h1, h2, hv⟩
theorem turn_end {s : Sta} {nx : Int} {v : Ver} {q : List Ask} (h : Good (endS s nx v q)) {r : Rec} (hr : r.id = v.id) : turnS (endS s nx v q) r = turnB (endS s nx v q) r s.vers.length v := by
  obtain ⟨h1, h2, h3⟩ := end_at h
  unfold turnS
  rw [hr, h2, if_neg (by simp), h1, h3]
  show turnB _ r (verAt _ r.id) v = _
  rw [hr, h1]
theorem set_end {s : Sta} {nx : Int} {v v' : Ver} {q : List Ask} : setVer (endS s nx v q) s.vers.length v' = endS s nx v' q := by
  unfold setVer endS
  simp
theorem apply_end {s t : Sta} {r : Rec} (h : okSt s = true) (hc : changeS s r = (0, t)) (ht : okSt t = true) : applyS s r = (t, 0) := by
  rw [applyS_of h, hc]
  unfold applyC
  rw [if_pos rfl, if_pos ht]
/-! ### sectors -/
theorem nodup_len {l1 : List Int} : ∀ {l2 : List Int}, l1.Nodup → (∀ x ∈ l1, x ∈ l2) → l1.length ≤ l2.length := by
  induction l1 with
  | nil => intro l2 _ _; exact Nat.zero_le _
  | cons a l ih =>
    intro l2 hn hs
    obtain ⟨h1, h2⟩ := List.nodup_cons.1 hn
    have ha : a ∈ l2 := hs a List.mem_cons_self
    have := ih (l2 := l2.erase a) h2 fun x hx => (List.mem_erase_of_ne (fun e => h1 (by rw [← e]; exact hx))).2 (hs x (List.mem_cons_of_mem _ hx))
    rw [List.length_erase_of_mem ha] at this
    have h0 : 0 < l2.length := List.length_pos_of_mem ha
    rw [List.length_cons]
    omega
theorem frees_mem {u : List Int} {x : Int} (h : offSec x = false) (hu : x ∉ u) : x ∈ frees u 200 := by
  unfold offSec at h
  simp only [Bool.or_eq_false_iff, decide_eq_false_iff_not] at h
  unfold frees
  rw [List.mem_filter]
  refine ⟨List.mem_map.2 ⟨x.toNat, List.mem_range.2 (by omega), ?_⟩, by simp [hu]⟩
  show ((x.toNat : Nat) : Int) = x
  omega
theorem frees_fr (u : List Int) (k : Nat) : Fr u ((frees u 200).take k) := by
  have hsub : ((frees u 200).take k).Sublist (frees u 200) := List.take_sublist _ _
  have hnd : (frees u 200).Nodup := by
    unfold frees
    refine List.Nodup.sublist List.filter_sublist ?_
    rw [List.nodup_iff_pairwise_ne, List.pairwise_map]
    exact (List.nodup_range (n := 200)).imp (fun h e => h (by exact Int.ofNat.inj e))
  refine ⟨fun x hx => ?_, hnd.sublist hsub⟩
  have hx := hsub.subset hx
  unfold frees at hx
  obtain ⟨h1, h2⟩ := List.mem_filter.1 hx
  obtain ⟨i, hi, rfl⟩ := List.mem_map.1 h1
  have hi := List.mem_range.1 hi
  refine ⟨?_, by simpa using h2⟩
  unfold offSec
  simp only [Bool.or_eq_false_iff, decide_eq_false_iff_not]
  exact ⟨by show ¬ (i : Int) < 0; omega, by show ¬ (200 : Int) ≤ (i : Int); omega⟩
theorem takeU_snd {u l : List Int} {n : Int} (h : l = [] ∨ (l.length : Int) = secsOf n) (hf : Fr u l) : (takeU u l n).2 = u ++ l := by
  rcases h with rfl | h
  · rw [List.append_nil]
    unfold takeU
    split <;> rfl
  · exact (takeU_iff u l n).2 ((takeU_iff u l n).1.2 ⟨h, hf⟩)
theorem Snd0.len_or {s : Sta} {v : Ver} (h : Snd0 s v) : v.secs = [] ∨ (v.secs.length : Int) = secsOf v.size := by
  rcases h.2 with ⟨_, m⟩ | ⟨_, _, _, t⟩
  · unfold markB at m
    simp only [Bool.and_eq_true, decide_eq_true_eq, len0] at m
    exact .inl m.1.1.1.2
  · rcases t with ⟨_, _, e⟩ | ⟨_, _, _, e⟩ | ⟨_, _, _, _, e⟩
    · exact .inr e
    · exact .inl e
    · exact .inr e
theorem takenV_eq : ∀ (l : List Ver) (u : List Int), (∀ v ∈ l, v.secs = [] ∨ (v.secs.length : Int) = secsOf v.size) → Fr u (secsV l) → takenV u l = u ++ secsV l
  | [], u, _, _ => by simp [takenV, secsV]
  | v :: r, u, h, hf => by
    rw [show secsV (v :: r) = v.secs ++ secsV r from rfl] at hf ⊢
    obtain ⟨h1, h2⟩ := fr_app.1 hf
    rw [takenV, takeU_snd (h v List.mem_cons_self) h1, takenV_eq r _ (fun x hx => h x (List.mem_cons_of_mem _ hx)) h2, List.append_assoc]
theorem takenP_eq : ∀ (l : List Prt) (u : List Int), (∀ v ∈ l, (v.secs.length : Int) = secsOf v.size) → Fr u (secsP l) → takenP u l = u ++ secsP l
  | [], u, _, _ => by simp [takenP, secsP]
  | v :: r, u, h, hf => by
    rw [show secsP (v :: r) = v.secs ++ secsP r from rfl] at hf ⊢
    obtain ⟨h1, h2⟩ := fr_app.1 hf
    rw [takenP, takeU_snd (.inr (h v List.mem_cons_self)) h1, takenP_eq r _ (fun x hx => h x (List.mem_cons_of_mem _ hx)) h2, List.append_assoc]
theorem takenU_eq : ∀ (l : List Upl) (u : List Int), (∀ x ∈ l, ∀ v ∈ x.parts, (v.secs.length : Int) = secsOf v.size) → Fr u (secsU l) → takenU u l = u ++ secsU l
  | [], u, _, _ => by simp [takenU, secsU]
  | v :: r, u, h, hf => by
    rw [show secsU (v :: r) = secsP v.parts ++ secsU r from rfl] at hf ⊢
    obtain ⟨h1, h2⟩ := fr_app.1 hf
    rw [takenU, takenP_eq v.parts u (h v List.mem_cons_self) h1, takenU_eq r _ (fun x hx => h x (List.mem_cons_of_mem _ hx)) h2, List.append_assoc]
theorem taken_eq {s : Sta} (h : Good s) : takenS s = secsV s.vers ++ secsU s.upls := by
  obtain ⟨h1, h2⟩ := fr_app.1 h.fr
  unfold takenS
  rw [takenV_eq s.vers [] (fun v hv => (h.snd v hv).len_or) h1, takenU_eq s.upls _ (fun x hx v hv => ((h.prt x hx).1 v hv).2) h2, List.nil_append]
end Go.Proofs.Ytefmffpidhdjoaa
