/- What is found of a journal: behind a format, behind commits, behind snapshots, whole or torn. Conditions: as each law states them. -/
import Derived.Test.YtomfladifefomaaR1
namespace Go.Proofs.Ytomfladifefomaa
open Go.RowKit
set_option linter.unusedSimpArgs false
theorem cnt_take (l : List (Int × List UInt8)) : 0 ≤ ((l.map fun x => cnt x.2).sum : Nat) := Nat.zero_le _
/-- how many frames transactions have -/
def total : List (Int × List UInt8) → Nat
  | [] => 0
  | x :: l => cnt x.2 + total l
theorem total_app : ∀ (l r : List (Int × List UInt8)), total (l ++ r) = total l + total r
  | [], r => by simp [total]
  | x :: l, r => by rw [List.cons_append, total, total, total_app l r]; omega
theorem total_len : ∀ l : List (Int × List UInt8), l.length ≤ total l
  | [] => Nat.le_refl _
  | x :: l => by
    have := total_len l
    have := cnt_pos x.2
    rw [total, List.length_cons]
    omega
/-- transactions in the ring, from a place on -/
def Laid (g : Geo) (c : Nat → List UInt8) : Int → Int → Int → List (Int × List UInt8) → Prop
  | _, _, _, [] => True
  | p, n, low, x :: l => (low ≤ x.1 ∧ 0 ≤ x.1 ∧ x.1 ≤ 1048576) ∧ (∀ i, i < cnt x.2 → c (ringAt g (p + (i : Int))) = sec (frB (frAt x.1 n x.2 i))) ∧ Laid g c (p + (cnt x.2 : Int)) (n + 1) x.1 l
/-- the last epoch -/
def lastE (low : Int) : List (Int × List UInt8) → Int
  | [] => low
  | x :: l => lastE x.1 l
theorem lastE_app (low : Int) (x : Int × List UInt8) : ∀ l, lastE low (l ++ [x]) = x.1
  | [] => rfl
  | y :: l => lastE_app y.1 x l
theorem Laid.congr {g : Geo} {c c' : Nat → List UInt8} : ∀ {l : List (Int × List UInt8)} {p n low : Int}, Laid g c p n low l → (∀ i : Nat, i < total l → c' (ringAt g (p + (i : Int))) = c (ringAt g (p + (i : Int)))) → Laid g c' p n low l
  | [], _, _, _, _, _ => trivial
  | x :: l, p, n, low, ⟨h1, h2, h3⟩, he => by
    refine ⟨h1, fun i hi => (he i (by rw [total]; omega)).trans (h2 i hi), h3.congr fun i hi => ?_⟩
    have := he (cnt x.2 + i) (by rw [total]; omega)
    rw [Int.natCast_add, ← Int.add_assoc] at this
    exact this
theorem Laid.app {g : Geo} {c : Nat → List UInt8} {y : Int × List UInt8} : ∀ {l : List (Int × List UInt8)} {p n low : Int}, Laid g c p n low l → (lastE low l ≤ y.1 ∧ 0 ≤ y.1 ∧ y.1 ≤ 1048576) →
    (∀ i, i < cnt y.2 → c (ringAt g (p + (total l : Int) + (i : Int))) = sec (frB (frAt y.1 (n + (l.length : Int)) y.2 i))) → Laid g c p n low (l ++ [y])
  | [], p, n, low, _, hy, hf => by
    refine ⟨hy, fun i hi => ?_, trivial⟩
    have := hf i hi
    simpa [total] using this
  | x :: l, p, n, low, ⟨h1, h2, h3⟩, hy, hf => by
    refine ⟨h1, h2, h3.app hy fun i hi => ?_⟩
    have := hf i hi
    rw [total, List.length_cons, Int.natCast_add, Int.natCast_add] at this
    rw [show p + (cnt x.2 : Int) + (total l : Int) + (i : Int) = p + ((cnt x.2 : Int) + (total l : Int)) + (i : Int) by omega, show n + 1 + (l.length : Int) = n + ((l.length : Int) + ((1 : Nat) : Int)) by omega]
    exact this
/-- all that a journal finds of itself: its place, its number, the last epoch, what it read -/
def openGo (g : Geo) (c : Nat → List UInt8) : Nat → Jr → Int → List (List UInt8) → Jr × List (List UInt8)
  | 0, j, _, all => (j, all)
  | f + 1, j, low, all => if j.next < 1048576 then
      (match txGo g c j.place j.next low (g.ring - j.used).toNat 0 0 [] with
      | none => (j, all)
      | some (b, k, e) => openGo g c f { j with place := HMod.hMod (j.place + (k : Int)) g.ring, used := j.used + (k : Int), next := j.next + 1 } e (all ++ [b]))
    else (j, all)
/-- the journal of a superblock -/
def Jr.bare (j : Jr) : Jr := { j with place := j.start, next := j.first, used := 0 }
/-- where a journal stands behind transactions -/
def Jr.over (g : Geo) (j : Jr) (l : List (Int × List UInt8)) : Jr := { j with place := HMod.hMod (j.start + (total l : Int)) g.ring, next := j.first + (l.length : Int), used := (total l : Int) }
theorem ringAt_mod {g : Geo} (p i : Int) : ringAt g (HMod.hMod p g.ring + i) = ringAt g (p + i) := by
  unfold ringAt
  rw [Int.emod_add_emod]
theorem txGo_mod {g : Geo} {c : Nat → List UInt8} (p n low : Int) : ∀ (f i : Nat) (ep : Int) (out : List UInt8), txGo g c (HMod.hMod p g.ring) n low f i ep out = txGo g c p n low f i ep out
  | 0, _, _, _ => rfl
  | f + 1, i, ep, out => by
    unfold txGo
    rw [ringAt_mod, txGo_mod p n low f]
/-- where it stops -/
def Stops (g : Geo) (c : Nat → List UInt8) (p n low : Int) (used : Nat) : Prop := 1048576 ≤ n ∨ txGo g c p n low (g.ring - (used : Int)).toNat 0 0 [] = none
/-- what is in the ring is found, in its order -/
theorem openGo_found {g : Geo} {c : Nat → List UInt8} (hg : GoodGeo g) (j : Jr) : ∀ (l r : List (Int × List UInt8)) (f : Nat) (low : Int) (all : List (List UInt8)), Laid g c (j.start + (total r : Int)) (j.first + (r.length : Int)) low l → total (r ++ l) ≤ 60 → ((total (r ++ l) : Nat) : Int) ≤ g.ring → 0 ≤ j.first → j.first + ((r ++ l).length : Int) ≤ 1048576 → l.length < f →
    Stops g c (j.start + (total (r ++ l) : Int)) (j.first + ((r ++ l).length : Int)) (lastE low l) (total (r ++ l)) → openGo g c f (j.over g r) low all = (j.over g (r ++ l), all ++ l.map (·.2))
  | [], r, f, low, all, _, _, _, _, _, hf, hs => by
    obtain ⟨f, rfl⟩ : ∃ k, f = k + 1 := ⟨f - 1, by simp at hf; omega⟩
    simp only [List.append_nil] at hs
    unfold openGo
    simp only [Jr.over, txGo_mod, List.append_nil, List.map_nil]
    rcases hs with hs | hs
    · rw [if_neg (by omega)]
    · split
      · rw [show lastE low [] = low from rfl] at hs
        rw [hs]
      · rfl
  | x :: l, r, f, low, all, ⟨h1, h2, h3⟩, ht, htr, h0, hn, hf, hs => by
    obtain ⟨f, rfl⟩ : ∃ k, f = k + 1 := ⟨f - 1, by simp at hf; omega⟩
    have e0 : r ++ x :: l = (r ++ [x]) ++ l := by simp
    rw [e0] at ht htr hn hs ⊢
    have hl1 : total (r ++ [x]) = total r + cnt x.2 := by rw [total_app]; simp [total]
    have hl2 : (r ++ [x]).length = r.length + 1 := by simp
    have hl3 := total_app (r ++ [x]) l
    have hl4 : ((r ++ [x]) ++ l).length = r.length + 1 + l.length := by rw [List.length_append, hl2]
    have hc := cnt_pos x.2
    have hfind := txGo_found (g := g) (c := c) (place := j.start + (total r : Int)) (n := j.first + (r.length : Int)) (low := low) (e := x.1) (b := x.2) ⟨h1.2.1, h1.2.2⟩ ⟨by omega, by omega⟩ (by omega) h1.1 h2 (cnt x.2) 0 0 (g.ring - (total r : Int)).toNat (by omega) (by omega) (by omega) (by omega)
    unfold openGo
    have q : (j.over g r).next < 1048576 := by
      show j.first + (r.length : Int) < 1048576
      omega
    rw [if_pos q]
    have q2 : txGo g c (j.over g r).place (j.over g r).next low (g.ring - (j.over g r).used).toNat 0 0 [] = some (x.2, cnt x.2, x.1) := by
      show txGo g c (HMod.hMod (j.start + (total r : Int)) g.ring) (j.first + (r.length : Int)) low (g.ring - (total r : Int)).toNat 0 0 [] = _
      rw [txGo_mod]
      exact hfind
    rw [q2]
    have q3 : ({ (j.over g r) with place := HMod.hMod ((j.over g r).place + (cnt x.2 : Int)) g.ring, used := (j.over g r).used + (cnt x.2 : Int), next := (j.over g r).next + 1 } : Jr) = j.over g (r ++ [x]) := by
      simp only [Jr.over, hl1, hl2, Int.emod_add_emod, Int.natCast_add, Int.add_assoc]
      rfl
    show openGo g c f { (j.over g r) with place := HMod.hMod ((j.over g r).place + (cnt x.2 : Int)) g.ring, used := (j.over g r).used + (cnt x.2 : Int), next := (j.over g r).next + 1 } x.1 (all ++ [x.2]) = _
    rw [q3]
    have h3' : Laid g c (j.start + (total (r ++ [x]) : Int)) (j.first + ((r ++ [x]).length : Int)) x.1 l := by
      rw [hl1, hl2, Int.natCast_add, Int.natCast_add, ← Int.add_assoc, ← Int.add_assoc]
      exact h3
    rw [openGo_found hg j l (r ++ [x]) f x.1 (all ++ [x.2]) h3' ht htr h0 hn (by simp at hf; omega) hs]
    simp
end Go.Proofs.Ytomfladifefomaa
