/- The next number of a state that the driver made. Conditions: none. -/
import Derived.Test.YtefmffpidhdjoaaL3
namespace Go.Proofs.Ytefmffpidhdjoaa
open Go.RowKit
set_option linter.unusedSimpArgs false
theorem change_nextC {s : Sta} {r : Rec} (h : (changeS s r).1 = 0) : (changeS s r).2.next = s.next + (if r.kind = 4 ∨ r.kind = 10 then 1 else 0) ∧ s.clock ≤ (changeS s r).2.clock := by
  have key : ∀ {t : Sta}, SameC s t → ¬ (r.kind = 4 ∨ r.kind = 10) → t.next = s.next + (if r.kind = 4 ∨ r.kind = 10 then 1 else 0) ∧ s.clock ≤ t.clock := fun {t} hs hk => by
    rw [if_neg hk]
    exact ⟨by rw [hs.1]; omega, by rw [hs.2]; omega⟩
  unfold changeS at h ⊢
  by_cases q : r.kind = 1
  · rw [if_pos q]
    refine key ?_ (by omega)
    unfold addS
    repeat' split
    all_goals exact ⟨rfl, rfl⟩
  rw [if_neg q] at h ⊢
  by_cases q2 : r.kind = 2 ∨ r.kind = 3
  · rw [if_pos q2]
    refine key ?_ (by omega)
    unfold setS setB setC
    repeat' split
    all_goals exact ⟨rfl, rfl⟩
  rw [if_neg q2] at h ⊢
  by_cases q4 : r.kind = 4
  · rw [if_pos q4] at h ⊢
    rw [if_pos (.inl q4)]
    unfold comeS at h ⊢
    obtain ⟨n1, n2⟩ := null_sameC s r.ver
    by_cases a : (!decide (r.ver.id = s.next) || decide (s.next = 1048576)) = true
    · rw [if_pos a] at h; cases h
    · rw [if_neg a] at h ⊢
      by_cases b : ((nullS s r.ver).vers.length : Int) = 40
      · rw [if_pos b] at h; cases h
      · rw [if_neg b]
        exact ⟨by show (nullS s r.ver).next + 1 = _; rw [n1], by show s.clock ≤ (nullS s r.ver).clock; rw [n2]; omega⟩
  rw [if_neg q4] at h ⊢
  by_cases q5 : r.kind = 5
  · rw [if_pos q5]
    refine key ?_ (by omega)
    unfold dropOneS dropV
    repeat' split
    all_goals exact ⟨rfl, rfl⟩
  rw [if_neg q5] at h ⊢
  by_cases q6 : r.kind = 6 ∨ r.kind = 8 ∨ r.kind = 9
  · rw [if_pos q6]
    refine key ?_ (by omega)
    unfold turnS turnV turnB
    repeat' split
    all_goals exact ⟨rfl, rfl⟩
  rw [if_neg q6] at h ⊢
  by_cases q7 : r.kind = 7
  · rw [if_pos q7]
    refine key ?_ (by omega)
    unfold askS
    repeat' split
    all_goals exact ⟨rfl, rfl⟩
  rw [if_neg q7] at h ⊢
  by_cases q10 : r.kind = 10
  · rw [if_pos q10] at h ⊢
    rw [if_pos (.inr q10)]
    unfold beginS at h ⊢
    by_cases a : (!decide (r.id = s.next) || decide (s.next = 1048576)) = true
    · rw [if_pos a] at h; cases h
    · rw [if_neg a] at h ⊢
      by_cases b : (s.upls.length : Int) = 4
      · rw [if_pos b] at h; cases h
      · rw [if_neg b]
        exact ⟨rfl, Int.le_refl _⟩
  rw [if_neg q10] at h ⊢
  by_cases q11 : r.kind = 11 ∨ r.kind = 12
  · rw [if_pos q11]
    refine key ?_ (by omega)
    unfold sendS sendU sendC
    repeat' split
    all_goals exact ⟨rfl, rfl⟩
  rw [if_neg q11] at h ⊢
  by_cases q13 : r.kind = 13
  · rw [if_pos q13] at h ⊢
    rw [if_neg (by omega)]
    unfold passS at h ⊢
    by_cases a : (decide (r.n < 0) || decide (1073741824 - s.clock < r.n)) = true
    · rw [if_pos a] at h; cases h
    · rw [if_neg a]
      have := bool_no a
      simp only [Bool.or_eq_false_iff, decide_eq_false_iff_not] at this
      exact ⟨by show s.next = s.next + 0; omega, by show s.clock ≤ s.clock + r.n; omega⟩
  rw [if_neg q13] at h ⊢
  by_cases q14 : r.kind = 14
  · rw [if_pos q14]
    refine key ?_ (by omega)
    unfold giveS
    repeat' split
    all_goals exact ⟨rfl, rfl⟩
  rw [if_neg q14] at h
  cases h
theorem step_next {p : Sta × List Rec} (r : Raw) (hok : okSt p.1 = true) : (stepS p r).1.next ≤ p.1.next + 1 ∧ okSt (stepS p r).1 = true := by
  unfold stepS stepA
  by_cases q : (applyS p.1 (recS p.1 r)).2 = 0
  · rw [if_pos q]
    obtain ⟨e1, e2⟩ := applyS_fineC hok q
    refine ⟨?_, applyS_ok q⟩
    show (applyS p.1 (recS p.1 r)).1.next ≤ _
    rw [e2, (change_nextC e1).1]
    split <;> omega
  · rw [if_neg q]
    exact ⟨by show p.1.next ≤ p.1.next + 1; omega, hok⟩
theorem fold_next : ∀ (l : List Raw) (p : Sta × List Rec), okSt p.1 = true → (l.foldl stepS p).1.next ≤ p.1.next + (l.length : Int)
  | [], p, _ => by simp
  | r :: l, p, h => by
    obtain ⟨h1, h2⟩ := step_next r h
    have := fold_next l (stepS p r) h2
    rw [List.foldl_cons, List.length_cons]
    omega
theorem stateS_next (l : List Raw) (most : Nat) : (stateS l most).1.next ≤ 3 + most := by
  have h := fold_next (rawsOf l most) (startS, []) start_ok
  have e := rawsOf_len l most
  have : (startS, ([] : List Rec)).1.next = 1 := rfl
  unfold stateS
  rw [this] at h
  omega
end Go.Proofs.Ytefmffpidhdjoaa
