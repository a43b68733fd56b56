/- The orders of what is sound; Check. Conditions: as each law states them. -/
import Derived.Test.YtohdfcnjcpjdcaaGreatS12w
namespace Go.Proofs.YtohdfcnjcpjdcaaGreat
open Go.RowKit
set_option linter.unusedSimpArgs false
/-! ### the order of texts -/
theorem toL (b : ByteArray) : b.toList = b.data.toList := ByteArray.toList_eq b
theorem less_cons (a b : UInt8) (x y : List UInt8) : Op.bytesLess (a :: x) (b :: y) = (decide (a < b) || (a == b && Op.bytesLess x y)) := rfl
theorem cmpB_lt : ∀ a b : List UInt8, decide (Lib.compareBytes a b < 0) = Op.bytesLess a b
 | [], [] => rfl
 | [], _ :: _ => rfl
 | _ :: _, [] => rfl
 | a :: x, b :: y => by
  rw [less_cons, Lib.compareBytes]
  by_cases h1 : a < b
  ·simp [h1]
  ·by_cases h2 : b < a
   ·have : a ≠ b := fun e => by subst e; exact h1 h2
    simp [h1, h2, this]
   ·have : a = b := UInt8.le_antisymm (UInt8.not_lt.1 h2) (UInt8.not_lt.1 h1)
    subst this
    simp [h1, cmpB_lt x y]
theorem cmpB_eq : ∀ a b : List UInt8, Lib.compareBytes a b = 0 ↔ a = b
 | [], [] => by simp [Lib.compareBytes]
 | [], _ :: _ => by simp [Lib.compareBytes]
 | _ :: _, [] => by simp [Lib.compareBytes]
 | a :: x, b :: y => by
  rw [Lib.compareBytes]
  by_cases h1 : a < b
  ·have : a ≠ b := fun e => by subst e; exact absurd h1 (UInt8.lt_irrefl a)
   simp [h1, this]
  ·by_cases h2 : b < a
   ·have : a ≠ b := fun e => by subst e; exact h1 h2
    simp [h1, h2, this]
   ·have : a = b := UInt8.le_antisymm (UInt8.not_lt.1 h2) (UInt8.not_lt.1 h1)
    subst this
    simp [h1, cmpB_eq x y]
theorem less_trans : ∀ a b c : List UInt8, Op.bytesLess a b = true → Op.bytesLess b c = true → Op.bytesLess a c = true
 | [], [], c, h, _ => by simp [Op.bytesLess] at h
 | _ :: _, [], c, h, _ => by simp [Op.bytesLess] at h
 | _, _ :: _, [], _, h => by cases h
 | [], _ :: _, _ :: _, _, _ => rfl
 | a :: x, b :: y, c :: z, h1, h2 => by
  rw [less_cons] at h1 h2 ⊢
  simp only [Bool.or_eq_true, decide_eq_true_eq, Bool.and_eq_true, beq_iff_eq] at h1 h2 ⊢
  rcases h1 with h1 | ⟨rfl, h1⟩
  ·rcases h2 with h2 | ⟨rfl, h2⟩
   ·exact .inl (UInt8.lt_trans h1 h2)
   ·exact .inl h1
  ·rcases h2 with h2 | ⟨rfl, h2⟩
   ·exact .inl h2
   ·exact .inr ⟨rfl, less_trans x y z h1 h2⟩
theorem cmpS_lt (a b : ByteArray) : decide (cmpS a b < 0) = Op.bytesLess a.toList b.toList := by rw [toL, toL]; exact cmpB_lt _ _
theorem cmpS_eq (a b : ByteArray) : cmpS a b = 0 ↔ a = b := ⟨fun h => by
 have := (cmpB_eq _ _).1 h
 cases a; cases b
 congr 1
 exact Array.toList_inj.1 this, fun h => (cmpB_eq _ _).2 (by rw [h])⟩
/-! ### what is in its order -/
theorem ordered_next {α : Type} {lt : α → Bool} {l : List α} (h : ∀ k x y, l[k]? = some x → l[k + 1]? = some y → lt y = true → lt x = true) : Ordered lt l := by
 intro i j x y hij hx hy hlt
 obtain ⟨d, rfl⟩ : ∃ d, j = i + 1 + d := ⟨j - (i + 1), by omega⟩
 clear hij
 induction d generalizing y with
 | zero => exact h i x y hx hy hlt
 | succ d ih =>
  obtain ⟨z, hz⟩ : ∃ z, l[i + 1 + d]? = some z := ⟨_, List.getElem?_eq_getElem (by have := (List.getElem?_eq_some_iff.1 hy).1; omega)⟩
  exact ih z (h _ z y hz hy hlt) hz
theorem bkts_less {l : List Bkt} (h : bktsB l = true) {k : Nat} {x y : Bkt} (hx : l[k]? = some x) (hy : l[k + 1]? = some y) : Op.bytesLess x.name.toList y.name.toList = true := by
 unfold bktsB at h
 have h1 := chain_at (Bool.and_eq_true_iff.1 h).1 hy
 rw [prevO_succ hx] at h1
 unfold bktBad bktGe at h1
 simp only [Bool.or_eq_false_iff, Bool.not_eq_eq_eq_not, Bool.not_false] at h1
 exact h1.2
theorem bkts_ordered {l : List Bkt} (h : bktsB l = true) (t : ByteArray) : Ordered (ltBkt t) l := ordered_next fun k x y hx hy hlt => by
 unfold ltBkt at hlt ⊢
 rw [cmpS_lt] at hlt ⊢
 exact less_trans _ _ _ (bkts_less h hx hy) hlt
theorem bkts_len {l : List Bkt} (h : bktsB l = true) : l.length ≤ 4 := by
 have := of_decide_eq_true (Bool.and_eq_true_iff.1 h).2
 omega
theorem versU_next {s : Sta} : ∀ {l : List Ver} {p : Option Ver} {nl : List (ByteArray × ByteArray)} {u : List Int}, (versU s p nl u l).1 = true → ∀ k x, l[k]? = some x → verGe (if k = 0 then p else l[k - 1]?) x = false
 | [], _, _, _, _, k, x, hx => by simp at hx
 | v :: r, p, nl, u, h, k, x, hx => by
  unfold versU at h
  split at h
  ·cases h
  ·rename_i h1
   split at h
   ·cases h
   ·cases k with
    | zero =>
     simp at hx
     subst hx
     simp only [Bool.or_eq_true, not_or, Bool.not_eq_true] at h1
     exact h1.2
    | succ k =>
     have := versU_next h k x (by simpa using hx)
     cases k with
     | zero => simpa using this
     | succ k => simpa using this
theorem vers_lt {s : Sta} {u : List Int} (h : (versB s u).1 = true) {k : Nat} {x y : Ver} (hx : s.vers[k]? = some x) (hy : s.vers[k + 1]? = some y) : x.id < y.id := by
 have h1 := versU_next (Bool.and_eq_true_iff.1 h).1 (k + 1) y hy
 rw [if_neg (by omega), Nat.add_sub_cancel, hx] at h1
 have := of_decide_eq_false h1
 omega
theorem cmpI_lt (a b : Int) : cmpI a b < 0 ↔ a < b := by
 unfold cmpI
 split
 ·simp; assumption
 ·split <;> simp <;> omega
theorem vers_ordered {s : Sta} {u : List Int} (h : (versB s u).1 = true) (t : Int) : Ordered (ltVer t) s.vers := ordered_next fun k x y hx hy hlt => by
 have := vers_lt h hx hy
 unfold ltVer at hlt ⊢
 have h2 := (cmpI_lt _ _).1 (of_decide_eq_true hlt)
 exact decide_eq_true ((cmpI_lt _ _).2 (by omega))
theorem vers_len {s : Sta} {u : List Int} (h : (versB s u).1 = true) : s.vers.length ≤ 40 := by
 have := of_decide_eq_true (Bool.and_eq_true_iff.1 h).2
 omega
end Go.Proofs.YtohdfcnjcpjdcaaGreat
