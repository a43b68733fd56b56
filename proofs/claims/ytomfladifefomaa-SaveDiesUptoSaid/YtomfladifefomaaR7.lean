/- What a snapshot lays. Conditions: as each law states them. -/
import Derived.Test.YtomfladifefomaaR6
namespace Go.Proofs.Ytomfladifefomaa
open Go.RowKit
set_option linter.unusedSimpArgs false
theorem Laid.number {g : Geo} {c : Nat → List UInt8} : ∀ {l : List (Int × List UInt8)} {p n low : Int}, Laid g c p n low l → total l ≤ 60 → 0 ≤ n → n + (l.length : Int) ≤ 1048576 → ∀ q : Nat, q < total l → (frOf (c (ringAt g (p + (q : Int))))).number < n + (l.length : Int)
  | [], _, _, _, _, _, _, _, q, hq => by simp [total] at hq
  | x :: l, p, n, low, ⟨h1, h2, h3⟩, ht, hn, hm, q, hq => by
    rw [total] at hq ht
    rw [List.length_cons] at hm ⊢
    by_cases e : q < cnt x.2
    · obtain ⟨_, p2⟩ := fr_sec _ (frAt_ok (e := x.1) (n := n) (b := x.2) (i := q) ⟨h1.2.1, h1.2.2⟩ ⟨hn, by omega⟩ e (by omega))
      rw [h2 q e, p2]
      show n < n + ((l.length + 1 : Nat) : Int)
      omega
    · have := h3.number (by omega) (by omega) (by omega) (q - cnt x.2) (by omega)
      rw [show p + (cnt x.2 : Int) + ((q - cnt x.2 : Nat) : Int) = p + (q : Int) by omega] at this
      omega
section
variable {g : Geo} {c c' : Nat → List UInt8} {j : Jr} {snap : List UInt8} {l : List (Int × List UInt8)} {w : Int}
/-- no sector of the ring bears the next number -/
theorem Kept.every (hg : GoodGeo g) (h : Kept g c j snap l 0) (p : Int) : frBad (c (ringAt g p)) = true ∨ (frOf (c (ringAt g p))).number < j.next := by
  have hj := of_decide_eq_true h.ok
  have hr := hg.r1
  have hr2 := hg.r2
  have hu := h.used
  have hn := h.next
  have q0 := Int.emod_nonneg (p - j.start) (show g.ring ≠ 0 by omega)
  have q1 := Int.emod_lt_of_pos (p - j.start) (show 0 < g.ring by omega)
  obtain ⟨q, hq⟩ : ∃ q : Nat, (q : Int) = HMod.hMod (p - j.start) g.ring := ⟨(HMod.hMod (p - j.start) g.ring).toNat, by omega⟩
  have e : ringAt g p = ringAt g (j.start + (q : Int)) := by
    unfold ringAt
    rw [hq, Int.add_emod_emod, show j.start + (p - j.start) = p by omega]
  rw [e]
  rcases Nat.lt_or_ge q (total l) with k | k
  · have := h.laid.number (by omega) (by omega) (by omega) q k
    exact .inr (by omega)
  · exact (h.clean q k (by omega)).imp id fun q => by omega
/-- a snapshot -/
theorem Kept.save (hg : GoodGeo g) (h : Kept g c j snap l 0) {b : List UInt8} (hb : (b.length : Int) ≤ g.area * 64) (hge : j.gen < 1048576)
    (hp : ∀ i : Nat, 64 * i < b.length → c' (2 + g.ring + (1 - j.area) * g.area + (i : Int)).toNat = sec ((b.drop (64 * i)).take 64)) (hs : c' (bit (j.gen + 1)) = sec (superB (nextJ j (b.length : Int)))) (ho : c' (bit j.gen) = c (bit j.gen)) (hring : ∀ p, c' (ringAt g p) = c (ringAt g p)) :
    Kept g c' (nextJ j (b.length : Int)) b [] 0 := by
  have hj := of_decide_eq_true h.ok
  have hr := hg.r1
  obtain ⟨hpl0, hpl1⟩ := okJ_place hg h.ok
  refine ⟨decide_eq_true ?_, hs, fun _ => ?_, rfl, hp, trivial, by show (0 : Int) ≤ j.epoch; omega, by show j.next = j.next + ((0 : Nat) : Int); omega, rfl, fun p _ _ => ?_⟩
  · have e : HMod.hMod (j.place + 0) g.ring = j.place := by rw [Int.add_zero]; exact Int.emod_eq_of_lt hpl0 hpl1
    show 1 ≤ j.gen + 1 ∧ 1 ≤ j.epoch ∧ 1 ≤ j.next ∧ 1 ≤ j.next ∧ j.gen + 1 ≤ 1048576 ∧ j.epoch ≤ 1048576 ∧ j.next ≤ 1048576 ∧ j.next ≤ 1048576 ∧ j.next ≤ j.next ∧ 0 ≤ 1 - j.area ∧ 1 - j.area ≤ 1 ∧ 0 ≤ (b.length : Int) ∧ (b.length : Int) ≤ g.area * 64 ∧ 0 ≤ j.place ∧ j.place < g.ring ∧ (0 : Int) ≤ 0 ∧ 0 ≤ g.ring ∧ j.place = HMod.hMod (j.place + 0) g.ring
    rw [e]
    omega
  · have e : bit (j.gen + 1 + 1) = bit j.gen := by unfold bit; omega
    show (fieldsJ (c' (bit (j.gen + 1 + 1)))).gen < j.gen + 1
    rw [e, ho, h.sup, fields_sec hg h.ok]
    show j.gen < j.gen + 1
    omega
  · have := h.every hg (j.place + (p : Int))
    rw [← hring] at this
    show frBad (c' (ringAt g (j.place + (p : Int)))) = true ∨ (frOf (c' (ringAt g (j.place + (p : Int))))).number < j.next + 0
    exact this.imp id fun q => by omega
end
end Go.Proofs.Ytomfladifefomaa
