/- The clock of a state that the driver made. Conditions: none. -/
import Derived.Test.YtefmffpidhdjoaaV1
namespace Go.Proofs.Ytefmffpidhdjoaa
open Go.RowKit
set_option linter.unusedSimpArgs false
theorem applyS_errC {s : Sta} {r : Rec} (h : (applyS s r).2 ≠ 0) : (applyS s r).1 = zeroS := by
  unfold applyS at h ⊢
  by_cases q : okSt s = true
  · rw [if_pos q] at h ⊢
    unfold applyC at h ⊢
    by_cases q1 : (changeS s r).1 = 0
    · rw [if_pos q1] at h ⊢
      by_cases q2 : okSt (changeS s r).2 = true
      · rw [if_pos q2] at h
        exact absurd rfl h
      · rw [if_neg q2]
    · rw [if_neg q1]
  · rw [if_neg q]
theorem applyS_fineC {s : Sta} {r : Rec} (hok : okSt s = true) (h : (applyS s r).2 = 0) : (changeS s r).1 = 0 ∧ (applyS s r).1 = (changeS s r).2 := by
  rw [applyS_of hok] at h ⊢
  unfold applyC at h ⊢
  by_cases q1 : (changeS s r).1 = 0
  · rw [if_pos q1] at h ⊢
    by_cases q2 : okSt (changeS s r).2 = true
    · rw [if_pos q2]; exact ⟨q1, rfl⟩
    · rw [if_neg q2] at h; cases h
  · rw [if_neg q1] at h; exact absurd h q1
def SameC (s t : Sta) : Prop := t.next = s.next ∧ t.clock = s.clock
theorem null_sameC (s : Sta) (v : Ver) : SameC s (nullS s v) := by
  unfold nullS
  repeat' split
  all_goals exact ⟨rfl, rfl⟩
theorem change_clock {s : Sta} {r : Rec} (h : (changeS s r).1 = 0) : (changeS s r).2.clock = s.clock + (if r.kind = 13 then r.n else 0) := by
  have key : ∀ {t : Sta}, SameC s t → ¬ r.kind = 13 → t.clock = s.clock + (if r.kind = 13 then r.n else 0) := fun {t} hs hk => by
    rw [if_neg hk]
    rw [hs.2]; omega
  unfold changeS at h ⊢
  by_cases q : r.kind = 1
  · rw [if_pos q]
    refine key ?_ (by omega)
    unfold addS
    repeat' split
    all_goals exact ⟨rfl, rfl⟩
  rw [if_neg q] at h ⊢
  by_cases q2 : r.kind = 2 ∨ r.kind = 3
  · rw [if_pos q2]
    refine key ?_ (by omega)
    unfold setS setB setC
    repeat' split
    all_goals exact ⟨rfl, rfl⟩
  rw [if_neg q2] at h ⊢
  by_cases q4 : r.kind = 4
  · rw [if_pos q4] at h ⊢
    rw [if_neg (by omega)]
    unfold comeS at h ⊢
    obtain ⟨n1, n2⟩ := null_sameC s r.ver
    by_cases a : (!decide (r.ver.id = s.next) || decide (s.next = 1048576)) = true
    · rw [if_pos a] at h; cases h
    · rw [if_neg a] at h ⊢
      by_cases b : ((nullS s r.ver).vers.length : Int) = 40
      · rw [if_pos b] at h; cases h
      · rw [if_neg b]
        show (nullS s r.ver).clock = _
        rw [n2]; omega
  rw [if_neg q4] at h ⊢
  by_cases q5 : r.kind = 5
  · rw [if_pos q5]
    refine key ?_ (by omega)
    unfold dropOneS dropV
    repeat' split
    all_goals exact ⟨rfl, rfl⟩
  rw [if_neg q5] at h ⊢
  by_cases q6 : r.kind = 6 ∨ r.kind = 8 ∨ r.kind = 9
  · rw [if_pos q6]
    refine key ?_ (by omega)
    unfold turnS turnV turnB
    repeat' split
    all_goals exact ⟨rfl, rfl⟩
  rw [if_neg q6] at h ⊢
  by_cases q7 : r.kind = 7
  · rw [if_pos q7]
    refine key ?_ (by omega)
    unfold askS
    repeat' split
    all_goals exact ⟨rfl, rfl⟩
  rw [if_neg q7] at h ⊢
  by_cases q10 : r.kind = 10
  · rw [if_pos q10] at h ⊢
    rw [if_neg (by omega)]
    unfold beginS at h ⊢
    by_cases a : (!decide (r.id = s.next) || decide (s.next = 1048576)) = true
    · rw [if_pos a] at h; cases h
    · rw [if_neg a] at h ⊢
      by_cases b : (s.upls.length : Int) = 4
      · rw [if_pos b] at h; cases h
      · rw [if_neg b]
        show s.clock = _
        omega
  rw [if_neg q10] at h ⊢
  by_cases q11 : r.kind = 11 ∨ r.kind = 12
  · rw [if_pos q11]
    refine key ?_ (by omega)
    unfold sendS sendU sendC
    repeat' split
    all_goals exact ⟨rfl, rfl⟩
  rw [if_neg q11] at h ⊢
  by_cases q13 : r.kind = 13
  · rw [if_pos q13] at h ⊢
    rw [if_pos q13]
    unfold passS at h ⊢
    by_cases a : (decide (r.n < 0) || decide (1073741824 - s.clock < r.n)) = true
    · rw [if_pos a] at h; cases h
    · rw [if_neg a]
  rw [if_neg q13] at h ⊢
  by_cases q14 : r.kind = 14
  · rw [if_pos q14]
    refine key ?_ (by omega)
    unfold giveS
    repeat' split
    all_goals exact ⟨rfl, rfl⟩
  rw [if_neg q14] at h
  cases h
theorem rec_kind13 (s : Sta) (r : Raw) (k : Int) (h : (recK s r k).kind = 13) : (recK s r k).n ≤ 11 := by
  have hb := pick_bd r.a 12 (by omega)
  unfold recK at h ⊢
  by_cases q1 : k = 1
  · rw [if_pos q1] at h; exact absurd (show k = 13 from h) (by omega)
  rw [if_neg q1] at h ⊢
  by_cases q2 : k = 2
  · rw [if_pos q2] at h; exact absurd (show k = 13 from h) (by omega)
  rw [if_neg q2] at h ⊢
  by_cases q3 : k = 3
  · rw [if_pos q3] at h; exact absurd (show k = 13 from h) (by omega)
  rw [if_neg q3] at h ⊢
  by_cases q4 : k = 4
  · rw [if_pos q4] at h; exact absurd (show k = 13 from h) (by omega)
  rw [if_neg q4] at h ⊢
  by_cases q5 : k = 5 ∨ k = 9
  · rw [if_pos q5] at h; exact absurd (show k = 13 from h) (by omega)
  rw [if_neg q5] at h ⊢
  by_cases q6 : k = 6
  · rw [if_pos q6] at h; exact absurd (show k = 13 from h) (by omega)
  rw [if_neg q6] at h ⊢
  by_cases q7 : k = 7
  · rw [if_pos q7] at h; exact absurd (show k = 13 from h) (by omega)
  rw [if_neg q7] at h ⊢
  by_cases q8 : k = 8
  · rw [if_pos q8] at h; exact absurd (show k = 13 from h) (by omega)
  rw [if_neg q8] at h ⊢
  by_cases q10 : k = 10
  · rw [if_pos q10] at h; exact absurd (show k = 13 from h) (by omega)
  rw [if_neg q10] at h ⊢
  by_cases q11 : k = 11
  · rw [if_pos q11] at h; exact absurd (show k = 13 from h) (by omega)
  rw [if_neg q11] at h ⊢
  by_cases q12 : k = 12
  · rw [if_pos q12] at h; exact absurd (show k = 13 from h) (by omega)
  rw [if_neg q12] at h ⊢
  by_cases q13 : k = 13
  · rw [if_pos q13]
    show pick r.a 12 ≤ 11
    omega
  · rw [if_neg q13] at h
    exact absurd (show k = 13 from h) q13
theorem step_clock {p : Sta × List Rec} (r : Raw) (hok : okSt p.1 = true) : (stepS p r).1.clock ≤ p.1.clock + 11 ∧ okSt (stepS p r).1 = true := by
  unfold stepS stepA
  by_cases q : (applyS p.1 (recS p.1 r)).2 = 0
  · rw [if_pos q]
    obtain ⟨e1, e2⟩ := applyS_fineC hok q
    refine ⟨?_, applyS_ok q⟩
    show (applyS p.1 (recS p.1 r)).1.clock ≤ _
    rw [e2, change_clock e1]
    by_cases k : (recS p.1 r).kind = 13
    · rw [if_pos k]
      have := rec_kind13 p.1 r _ k
      show p.1.clock + (recK p.1 r (1 + pick r.kind 14)).n ≤ _
      omega
    · rw [if_neg k]
      omega
  · rw [if_neg q]
    exact ⟨by show p.1.clock ≤ p.1.clock + 11; omega, hok⟩
theorem fold_clock : ∀ (l : List Raw) (p : Sta × List Rec), okSt p.1 = true → (l.foldl stepS p).1.clock ≤ p.1.clock + 11 * (l.length : Int)
  | [], p, _ => by simp
  | r :: l, p, h => by
    obtain ⟨h1, h2⟩ := step_clock r h
    have := fold_clock l (stepS p r) h2
    rw [List.foldl_cons, List.length_cons]
    omega
/-- the clock of a state that the driver made -/
theorem stateS_clock (l : List Raw) (most : Nat) : (stateS l most).1.clock ≤ 11 * (2 + most : Nat) := by
  have h := fold_clock (rawsOf l most) (startS, []) start_ok
  have e := rawsOf_len l most
  have : (startS, ([] : List Rec)).1.clock = 0 := rfl
  unfold stateS
  rw [this] at h
  omega
end Go.Proofs.Ytefmffpidhdjoaa
