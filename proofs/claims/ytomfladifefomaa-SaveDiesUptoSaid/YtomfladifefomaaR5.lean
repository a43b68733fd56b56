/- What a commit lays on devices that live, and on devices that die in it. Conditions: as each law states them. -/
import Derived.Test.YtomfladifefomaaN11
namespace Go.Proofs.Ytomfladifefomaa
open Go.RowKit
set_option linter.unusedSimpArgs false
theorem ringAt_int {g : Geo} (hg : GoodGeo g) (p : Int) (n : Nat) : 2 + HMod.hMod p g.ring = (n : Int) ↔ n = ringAt g p := by
  have := ringAt_eq hg p
  omega
theorem fr_len {b : List UInt8} {e n : Int} {i : Nat} (hi : i < cnt b) : (frB (frAt e n b i)).length ≤ 64 := by
  obtain ⟨_, _, y3⟩ := part_len b hi
  rw [frB_len]
  show 12 + (part b i).length ≤ 64
  omega
/-- frames put one behind the other, on devices that live -/
theorem commitTo_live {g : Geo} (hg : GoodGeo g) {d : Dev} (hd : GoodDev g d) (hf : d.fuel = -1) (hc : d.cache.length = 0) {j : Jr} {b : List UInt8} (hcn : (cnt b : Int) ≤ g.ring) : ∀ m, m ≤ cnt b → ∃ x, commitTo g d j b m = (x, 0) ∧ x.fuel = -1 ∧ x.cache.length = m ∧ x.safe = d.safe ∧
    (∀ i : Nat, i < m → content x (ringAt g (j.place + (i : Int))) = sec (frB (frAt j.epoch j.next b i))) ∧ (∀ n, (∀ i : Nat, i < m → n ≠ ringAt g (j.place + (i : Int))) → content x n = content d n)
  | 0, _ => ⟨d, rfl, hf, hc, rfl, fun i hi => absurd hi (by omega), fun _ _ => rfl⟩
  | m + 1, hm => by
    obtain ⟨x, e, h1, h2, h3, h4, h5⟩ := commitTo_live hg hd hf hc (j := j) hcn m (by omega)
    have hr2 := hg.r2
    have hlt := ringAt_lt hg hd (j.place + (m : Int))
    have heq := ringAt_eq hg (j.place + (m : Int))
    refine ⟨putDev x (2 + HMod.hMod (j.place + (m : Int)) g.ring) (frB (frAt j.epoch j.next b m)), ?_, putDev_fuel h1 _ _, by rw [putDev_cache]; omega, h3, fun i hi => ?_, fun n hn => ?_⟩
    · rw [commitTo, e]
      exact hPut_ok (by omega) (by rw [h3]; omega) (fr_len (by omega)) (by omega) (by rw [h1]; decide)
    · rw [content_put]
      by_cases ei : i = m
      · subst ei
        rw [if_pos heq]
      · rw [if_neg, h4 i (by omega)]
        intro q
        have q2 := (ringAt_int hg _ _).1 q
        have := ringAt_inj hg (by omega) (by omega) q2
        omega
    · rw [content_put, if_neg, h5 n fun i hi => hn i (by omega)]
      intro q
      exact hn m (by omega) ((ringAt_int hg _ _).1 q)
theorem commit_kept {g : Geo} (hg : GoodGeo g) {d : Dev} (hd : GoodDev g d) (hf : d.fuel = -1) (hc : d.cache.length = 0) {j : Jr} {b : List UInt8} {snap : List UInt8} {l : List (Int × List UInt8)} (hk : Kept g (content d) j snap l 1) (hfit : ¬ fullJ g j b) :
    (hFlush (commitTo g d j b (cnt b))).2 = 0 ∧ GoodDev g (hFlush (commitTo g d j b (cnt b))).1 ∧ (hFlush (commitTo g d j b (cnt b))).1.fuel = -1 ∧ (hFlush (commitTo g d j b (cnt b))).1.cache.length = 0 ∧ Kept g (content (hFlush (commitTo g d j b (cnt b))).1) (moreJ g j b) snap (l ++ [(j.epoch, b)]) 0 := by
  have hj := of_decide_eq_true hk.ok
  have hfit1 : j.used + (cnt b : Int) ≤ g.ring ∧ j.next ≠ 1048576 := by
    unfold fullJ at hfit
    omega
  have hgx := commitTo_good hd j b (cnt b)
  obtain ⟨x, e, h1, h2, h3, h4, h5⟩ := commitTo_live hg hd hf hc (j := j) (b := b) (by omega) (cnt b) (Nat.le_refl _)
  rw [e] at hgx ⊢
  rw [hFlush_ok (by rw [h1]; decide)]
  refine ⟨rfl, good_flush hgx, flushDev_fuel h1, rfl, ?_⟩
  have hcon : ∀ n, n < d.safe.length → content (flushDev x) n = content x n := fun n hn => content_flush hgx n (by rw [h3]; exact hn)
  exact (hk.commit (c' := content x) hg hfit1.1 (by omega) h4 h5).on hg hd hcon
theorem kept_weak {g : Geo} {c : Nat → List UInt8} {j : Jr} {snap : List UInt8} {l : List (Int × List UInt8)} (h : Kept g c j snap l 0) : Kept g c j snap l 1 :=
  ⟨h.ok, h.sup, h.other, h.snapL, h.snapC, h.laid, h.last, h.next, h.used, fun p hp hp2 => (h.clean p hp hp2).imp id fun q => by omega⟩
/-- texts as a slice of strings -/
def StrG (_ : GW) (x : ByteArray) (cs : List Value) : Prop := cs = [.string x]
theorem strG_mono : MonoR StrG := fun _ _ _ _ _ h => h
/-- the transactions of raw things -/
def textOf (z : Raw) : ByteArray := (bodyOf z.text z.c).extract (Int.toNat 0) (min ((bodyOf z.text z.c).size : Int) 150).toNat
theorem textOf_size (z : Raw) : (textOf z).size ≤ 150 := by
  unfold textOf
  simp
  omega
end Go.Proofs.Ytomfladifefomaa
