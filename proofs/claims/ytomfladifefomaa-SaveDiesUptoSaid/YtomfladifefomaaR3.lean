/- A journal whose devices hold it: it is found behind an opening, behind commits, whole or torn. Conditions: as each law states them. -/
import Derived.Test.YtomfladifefomaaR2
namespace Go.Proofs.Ytomfladifefomaa
open Go.RowKit
set_option linter.unusedSimpArgs false
theorem sec_super (j : Jr) : sec (superB j) = superB j ++ List.replicate 45 0 := by
  unfold sec
  rw [superB_len]
theorem fields_sec {g : Geo} (hg : GoodGeo g) {j : Jr} (h : okJ g j = true) : fieldsJ (sec (superB j)) = j.bare := by
  rw [sec_super]
  exact fields_super hg h _
theorem gen_mod (n : Int) : HMod.hMod n 2 = 0 ∨ HMod.hMod n 2 = 1 := by omega
/-- two places of the ring, each less than a round from the same one -/
theorem ringAt_inj {g : Geo} (hg : GoodGeo g) {s : Int} {p q : Nat} (hp : (p : Int) < g.ring) (hq : (q : Int) < g.ring) (h : ringAt g (s + (p : Int)) = ringAt g (s + (q : Int))) : p = q := by
  have hr := hg.r1
  have a0 := Int.emod_nonneg (s + (p : Int)) (show g.ring ≠ 0 by omega)
  have b0 := Int.emod_nonneg (s + (q : Int)) (show g.ring ≠ 0 by omega)
  unfold ringAt at h
  have e : HMod.hMod (s + (p : Int)) g.ring = HMod.hMod (s + (q : Int)) g.ring := by omega
  have e2 := Int.emod_eq_emod_iff_emod_sub_eq_zero.1 e
  obtain ⟨k, hk⟩ := Int.dvd_of_emod_eq_zero e2
  have hk2 : (p : Int) - (q : Int) = g.ring * k := by omega
  have k0 : k = 0 := by
    rcases Int.lt_trichotomy k 0 with h1 | h1 | h1
    · have := Int.mul_le_mul_of_nonneg_left (show k ≤ -1 by omega) (show 0 ≤ g.ring by omega)
      omega
    · exact h1
    · have := Int.mul_le_mul_of_nonneg_left (show 1 ≤ k by omega) (show 0 ≤ g.ring by omega)
      omega
  rw [k0, Int.mul_zero] at hk2
  omega
theorem ringAt_ge {g : Geo} (hg : GoodGeo g) (p : Int) : 2 ≤ ringAt g p ∧ (ringAt g p : Int) < 2 + g.ring := by
  have hr := hg.r1
  have a0 := Int.emod_nonneg p (show g.ring ≠ 0 by omega)
  have a1 := Int.emod_lt_of_pos p (show 0 < g.ring by omega)
  unfold ringAt
  omega
theorem least_is {P : Nat → Prop} : (∃ m, P m) → ∃ m, P m ∧ ∀ i, i < m → ¬ P i := by
  rintro ⟨m, hm⟩
  induction m using Nat.strongRecOn with
  | ind m ih =>
    by_cases hx : ∃ i, i < m ∧ P i
    · obtain ⟨i, hi, hp⟩ := hx
      exact ih i hi hp
    · exact ⟨m, hm, fun i hi hp => hx ⟨i, hi, hp⟩⟩
def bit (n : Int) : Nat := (HMod.hMod n 2).toNat
theorem bit_lt (n : Int) : bit n < 2 := by unfold bit; omega
/-- what the devices of a journal hold: its superblock, its snapshot, its transactions; w: may what is behind them bear the next number? -/
structure Kept (g : Geo) (c : Nat → List UInt8) (j : Jr) (snap : List UInt8) (l : List (Int × List UInt8)) (w : Int) : Prop where
  ok : okJ g j = true
  sup : c (bit j.gen) = sec (superB j)
  other : supOk g (1 - HMod.hMod j.gen 2) (c (bit (j.gen + 1))) = true → (fieldsJ (c (bit (j.gen + 1)))).gen < j.gen
  snapL : (snap.length : Int) = j.length
  snapC : ∀ k : Nat, 64 * k < snap.length → c (2 + g.ring + j.area * g.area + (k : Int)).toNat = sec ((snap.drop (64 * k)).take 64)
  laid : Laid g c j.start j.first 0 l
  last : lastE 0 l ≤ j.epoch
  next : j.next = j.first + (l.length : Int)
  used : j.used = (total l : Int)
  clean : ∀ p : Nat, total l ≤ p → (p : Int) < g.ring → frBad (c (ringAt g (j.start + (p : Int)))) = true ∨ (frOf (c (ringAt g (j.start + (p : Int))))).number < j.next + w
section
variable {g : Geo} {c c' : Nat → List UInt8} {j : Jr} {snap : List UInt8} {l : List (Int × List UInt8)} {w : Int}
theorem Kept.place (h : Kept g c j snap l w) : j.place = HMod.hMod (j.start + (total l : Int)) g.ring := by
  have := (of_decide_eq_true h.ok).2.2.2.2.2.2.2.2.2.2.2.2.2.2.2.2.2
  rw [this, h.used]
theorem Kept.over (h : Kept g c j snap l w) : j.over g l = j ∧ j.over g [] = j.bare := by
  have hj := of_decide_eq_true h.ok
  constructor
  · have h1 := h.place
    have h2 := h.next
    have h3 := h.used
    unfold Jr.over
    rw [← h1, ← h2, ← h3]
  · have : HMod.hMod (j.start + ((total [] : Nat) : Int)) g.ring = j.start := by
      show HMod.hMod (j.start + ((0 : Nat) : Int)) g.ring = j.start
      rw [Int.natCast_zero, Int.add_zero]
      exact Int.emod_eq_of_lt (by omega) (by omega)
    unfold Jr.over Jr.bare
    rw [this]
    simp [total]
/-- behind the last one nothing is found, when all is clean -/
theorem Kept.stops (h : Kept g c j snap l 0) (low : Int) : Stops g c (j.start + (total l : Int)) (j.first + (l.length : Int)) low (total l) := by
  refine .inr ?_
  cases hf : (g.ring - (total l : Int)).toNat with
  | zero => rfl
  | succ f =>
    have hc := h.clean (total l) (Nat.le_refl _) (by omega)
    have hn := h.next
    unfold txGo
    rw [show j.start + (total l : Int) + ((0 : Nat) : Int) = j.start + (total l : Int) by omega]
    rcases hc with hc | hc
    · rw [if_pos hc]
    · split
      · rfl
      · rw [if_pos (.inl (by omega))]
/-- what is found -/
theorem Kept.found (hg : GoodGeo g) (h : Kept g c j snap l w) (hs : Stops g c (j.start + (total l : Int)) (j.first + (l.length : Int)) (lastE 0 l) (total l)) {f : Nat} (hf : l.length < f) : openGo g c f j.bare 0 [] = (j, l.map (·.2)) := by
  have hj := of_decide_eq_true h.ok
  have hu := h.used
  have hn := h.next
  have hr := hg.r2
  obtain ⟨o1, o2⟩ := h.over
  have hl : Laid g c (j.start + ((total [] : Nat) : Int)) (j.first + (([] : List (Int × List UInt8)).length : Int)) 0 l := by
    have := h.laid
    simpa [total] using this
  have := openGo_found hg j l [] f 0 [] hl (by simp only [List.nil_append]; omega) (by simp only [List.nil_append]; omega) (by omega) (by simp only [List.nil_append]; omega) hf hs
  rw [o2, List.nil_append, o1, List.nil_append] at this
  exact this
/-- a superblock more: what is in the ring stays -/
theorem Kept.reopen (hg : GoodGeo g) (h : Kept g c j snap l w) (hge : j.gen < 1048576) (hep : j.epoch < 1048576) (hn : c' (bit (j.gen + 1)) = sec (superB { j with gen := j.gen + 1, epoch := j.epoch + 1 })) (ho : ∀ n, n ≠ bit (j.gen + 1) → c' n = c n) :
    Kept g c' { j with gen := j.gen + 1, epoch := j.epoch + 1 } snap l w := by
  have hj := of_decide_eq_true h.ok
  have hr := hg.r1
  have ha := hg.a1
  have hring : ∀ p, c' (ringAt g p) = c (ringAt g p) := fun p => ho _ (by have := ringAt_ge hg p; have := bit_lt (j.gen + 1); omega)
  refine ⟨decide_eq_true ?_, hn, fun _ => ?_, h.snapL, fun k hk => ?_, h.laid.congr fun i _ => hring _, ?_, h.next, h.used, fun p hp hp2 => ?_⟩
  · simp only
    refine ⟨by omega, by omega, hj.2.2.1, hj.2.2.2.1, by omega, by omega, hj.2.2.2.2.2.2⟩
  · have e : bit (j.gen + 1 + 1) = bit j.gen := by unfold bit; omega
    show (fieldsJ (c' (bit (j.gen + 1 + 1)))).gen < j.gen + 1
    rw [e, ho _ (by unfold bit; omega), h.sup, fields_sec hg h.ok]
    show j.gen < j.gen + 1
    omega
  · have hp : 0 ≤ j.area * g.area := Int.mul_nonneg (by omega) (by omega)
    show c' (2 + g.ring + j.area * g.area + (k : Int)).toNat = sec ((snap.drop (64 * k)).take 64)
    rw [ho _ (by have := bit_lt (j.gen + 1); omega)]
    exact h.snapC k hk
  · have := h.last
    show lastE 0 l ≤ j.epoch + 1
    omega
  · rw [hring]
    exact h.clean p hp hp2
/-- a transaction more -/
theorem Kept.commit (hg : GoodGeo g) (h : Kept g c j snap l 1) {b : List UInt8} (hfit : j.used + (cnt b : Int) ≤ g.ring) (hnx : j.next < 1048576)
    (hf : ∀ i : Nat, i < cnt b → c' (ringAt g (j.place + (i : Int))) = sec (frB (frAt j.epoch j.next b i))) (ho : ∀ n, (∀ i : Nat, i < cnt b → n ≠ ringAt g (j.place + (i : Int))) → c' n = c n) :
    Kept g c' { j with place := HMod.hMod (j.place + (cnt b : Int)) g.ring, used := j.used + (cnt b : Int), next := j.next + 1 } snap (l ++ [(j.epoch, b)]) 0 := by
  have hj := of_decide_eq_true h.ok
  have hr := hg.r1
  have ha := hg.a1
  have hu := h.used
  have hc1 := cnt_pos b
  have hpl : ∀ i : Int, ringAt g (j.place + i) = ringAt g (j.start + (total l : Int) + i) := fun i => by rw [h.place, ringAt_mod]
  have htot : total (l ++ [(j.epoch, b)]) = total l + cnt b := by rw [total_app]; simp [total]
  have hlow : ∀ n, n < 2 → c' n = c n := fun n hn => ho n fun i _ e => by have := (ringAt_ge hg (j.place + (i : Int))).1; omega
  have hfar : ∀ p : Nat, (p : Int) < g.ring → (p < total l ∨ total l + cnt b ≤ p) → c' (ringAt g (j.start + (p : Int))) = c (ringAt g (j.start + (p : Int))) := fun p hp hq => ho _ fun i hi e => by
    rw [hpl, Int.add_assoc, ← Int.natCast_add] at e
    have := ringAt_inj hg hp (by omega) e
    omega
  refine ⟨decide_eq_true ?_, (hlow _ (bit_lt _)).trans h.sup, fun hs => ?_, h.snapL, fun k hk => ?_, ?_, ?_, ?_, ?_, fun p hp hp2 => ?_⟩
  · simp only
    have e : HMod.hMod (j.place + (cnt b : Int)) g.ring = HMod.hMod (j.start + (j.used + (cnt b : Int))) g.ring := by
      rw [h.place, Int.emod_add_emod, hu, Int.add_assoc]
    rw [← e]
    omega
  · rw [hlow _ (bit_lt _)] at hs ⊢
    exact h.other hs
  · have hp : 0 ≤ j.area * g.area := Int.mul_nonneg (by omega) (by omega)
    show c' (2 + g.ring + j.area * g.area + (k : Int)).toNat = sec ((snap.drop (64 * k)).take 64)
    rw [ho _ fun i _ e => by have := (ringAt_ge hg (j.place + (i : Int))).2; omega]
    exact h.snapC k hk
  · refine (h.laid.congr fun i hi => hfar i (by omega) (.inl hi)).app ⟨h.last, by show 0 ≤ j.epoch; omega, by show j.epoch ≤ 1048576; omega⟩ fun i hi => ?_
    rw [← hpl, ← h.next]
    exact hf i hi
  · rw [lastE_app]
    exact Int.le_refl _
  · have := h.next
    show j.next + 1 = j.first + ((l ++ [(j.epoch, b)]).length : Int)
    rw [List.length_append, List.length_singleton]
    omega
  · show j.used + (cnt b : Int) = ((total (l ++ [(j.epoch, b)]) : Nat) : Int)
    rw [htot]
    omega
  · rw [htot] at hp
    have hcl := h.clean p (by omega) hp2
    rw [← hfar p hp2 (.inr hp)] at hcl
    show frBad (c' (ringAt g (j.start + (p : Int)))) = true ∨ (frOf (c' (ringAt g (j.start + (p : Int))))).number < j.next + 1 + 0
    exact hcl.imp id fun q => by omega
/-- a transaction that may be torn is there whole, or it is none -/
theorem Kept.torn (hg : GoodGeo g) (h : Kept g c j snap l 0) {b : List UInt8} (hfit : j.used + (cnt b : Int) ≤ g.ring) (hnx : j.next < 1048576)
    (ho : ∀ n, c' n = c n ∨ ∃ i : Nat, i < cnt b ∧ n = ringAt g (j.place + (i : Int)) ∧ c' n = sec (frB (frAt j.epoch j.next b i))) :
    Kept g c' { j with place := HMod.hMod (j.place + (cnt b : Int)) g.ring, used := j.used + (cnt b : Int), next := j.next + 1 } snap (l ++ [(j.epoch, b)]) 0 ∨
    (Kept g c' j snap l 1 ∧ Stops g c' (j.start + (total l : Int)) (j.first + (l.length : Int)) (lastE 0 l) (total l)) := by
  have hj := of_decide_eq_true h.ok
  have hr := hg.r1
  have hr2 := hg.r2
  have ha := hg.a1
  have hu := h.used
  have hnn := h.next
  have hpl : ∀ i : Int, ringAt g (j.place + i) = ringAt g (j.start + (total l : Int) + i) := fun i => by rw [h.place, ringAt_mod]
  have hout : ∀ n, (∀ i : Nat, i < cnt b → n ≠ ringAt g (j.place + (i : Int))) → c' n = c n := fun n hn => by
    rcases ho n with q | ⟨i, hi, e, _⟩
    · exact q
    · exact absurd e (hn i hi)
  have hstrong : Kept g c j snap l 1 := ⟨h.ok, h.sup, h.other, h.snapL, h.snapC, h.laid, h.last, h.next, h.used, fun p hp hp2 => (h.clean p hp hp2).imp id fun q => by omega⟩
  by_cases hall : ∀ i : Nat, i < cnt b → c' (ringAt g (j.place + (i : Int))) = sec (frB (frAt j.epoch j.next b i))
  · exact .inl (hstrong.commit hg hfit hnx hall hout)
  · refine .inr ⟨?_, ?_⟩
    · have hlow : ∀ n, n < 2 → c' n = c n := fun n hn => hout n fun i _ e => by have := (ringAt_ge hg (j.place + (i : Int))).1; omega
      refine ⟨h.ok, (hlow _ (bit_lt _)).trans h.sup, fun hs => ?_, h.snapL, fun k hk => ?_, h.laid.congr fun i hi => hout _ fun m hm e => ?_, h.last, h.next, h.used, fun p hp hp2 => ?_⟩
      · rw [hlow _ (bit_lt _)] at hs ⊢
        exact h.other hs
      · have hp : 0 ≤ j.area * g.area := Int.mul_nonneg (by omega) (by omega)
        rw [hout _ fun i _ e => by have := (ringAt_ge hg (j.place + (i : Int))).2; omega]
        exact h.snapC k hk
      · rw [hpl, Int.add_assoc, ← Int.natCast_add] at e
        have := ringAt_inj hg (by omega) (by omega) e
        omega
      · rcases ho (ringAt g (j.start + (p : Int))) with q | ⟨i, hi, _, q⟩
        · rw [q]
          exact (h.clean p hp hp2).imp id fun q => by omega
        · obtain ⟨p1, p2⟩ := fr_sec _ (frAt_ok (e := j.epoch) (n := j.next) (b := b) (i := i) ⟨by omega, by omega⟩ ⟨by omega, by omega⟩ hi (by omega))
          rw [q, p2]
          exact .inr (by show j.next < j.next + 1; omega)
    · refine .inr ?_
      obtain ⟨m, hm, hmx, hml⟩ : ∃ m : Nat, m < cnt b ∧ c' (ringAt g (j.place + (m : Int))) ≠ sec (frB (frAt j.epoch j.next b m)) ∧ ∀ i : Nat, i < m → c' (ringAt g (j.place + (i : Int))) = sec (frB (frAt j.epoch j.next b i)) := by
        have hex : ∃ m : Nat, m < cnt b ∧ c' (ringAt g (j.place + (m : Int))) ≠ sec (frB (frAt j.epoch j.next b m)) := by
          simpa only [Classical.not_forall, exists_prop] using hall
        obtain ⟨m, ⟨m1, m2⟩, m3⟩ := least_is hex
        exact ⟨m, m1, m2, fun i hi => Classical.byContradiction fun q => m3 i hi ⟨by omega, q⟩⟩
      rw [hpl] at hmx
      have hold : c' (ringAt g (j.start + (total l : Int) + (m : Int))) = c (ringAt g (j.start + (total l : Int) + (m : Int))) := by
        rcases ho (ringAt g (j.start + (total l : Int) + (m : Int))) with q | ⟨i, hi, e, q⟩
        · exact q
        · rw [hpl, Int.add_assoc, Int.add_assoc, ← Int.natCast_add, ← Int.natCast_add] at e
          have e2 := ringAt_inj hg (by omega) (by omega) e
          obtain rfl : i = m := by omega
          exact absurd q hmx
      have hcl := h.clean (total l + m) (by omega) (by omega)
      rw [Int.natCast_add, ← Int.add_assoc, ← hold] at hcl
      rw [← h.next]
      refine txGo_torn (e := j.epoch) (b := b) ⟨by omega, by omega⟩ ⟨by omega, by omega⟩ (by omega) hm (fun i hi => ?_) (hcl.imp id fun q => by omega) m 0 0 _ [] (by omega)
      rw [← hpl]
      exact hml i hi
end
end Go.Proofs.Ytomfladifefomaa
