/- A snapshot on devices that live. Conditions: as each law states them. -/
import Derived.Test.YtomfladifefomaaR7
namespace Go.Proofs.Ytomfladifefomaa
open Go.RowKit
set_option linter.unusedSimpArgs false
theorem area_in {g : Geo} (hg : GoodGeo g) {d : Dev} (hd : GoodDev g d) {a : Int} (h0 : 0 ≤ a) (h1 : a ≤ 1) {i : Int} (hi : 0 ≤ i) (hi2 : i < g.area) : 2 + g.ring ≤ areaAt g a + i ∧ areaAt g a + i < d.safe.length := by
  have hs := hd.safe
  unfold sectorsOf at hs
  have := hg.r1; have := hg.a1; have := hg.h1
  unfold areaAt
  rcases (show a = 0 ∨ a = 1 by omega) with e | e <;> rw [e] <;> omega
theorem saveTo_live {g : Geo} (hg : GoodGeo g) {d : Dev} (hd : GoodDev g d) (hf : d.fuel = -1) (hc : d.cache.length = 0) {j : Jr} {b : List UInt8} (ha0 : 0 ≤ j.area) (ha1 : j.area ≤ 1) (hp : (pieces b : Int) ≤ g.area) : ∀ m, m ≤ pieces b → ∃ x, saveTo g d j b m = (x, 0) ∧ x.fuel = -1 ∧ x.cache.length = m ∧ x.safe = d.safe ∧
    (∀ i : Nat, i < m → content x (areaAt g (1 - j.area) + (i : Int)).toNat = sec (piece b i)) ∧ (∀ n : Nat, (∀ i : Nat, i < m → (n : Int) ≠ areaAt g (1 - j.area) + (i : Int)) → content x n = content d n)
  | 0, _ => ⟨d, rfl, hf, hc, rfl, fun i hi => absurd hi (by omega), fun _ _ => rfl⟩
  | m + 1, hm => by
    obtain ⟨x, e, h1, h2, h3, h4, h5⟩ := saveTo_live hg hd hf hc (j := j) ha0 ha1 hp m (by omega)
    have hr2 := hg.a2
    obtain ⟨_, _, y3⟩ := piece_len b (show m < pieces b by omega)
    obtain ⟨z1, z2⟩ := area_in hg hd (a := 1 - j.area) (by omega) (by omega) (i := (m : Int)) (by omega) (by omega)
    have hr1 := hg.r1
    refine ⟨putDev x (areaAt g (1 - j.area) + (m : Int)) (piece b m), ?_, putDev_fuel h1 _ _, by rw [putDev_cache]; omega, h3, fun i hi => ?_, fun n hn => ?_⟩
    · rw [saveTo, e]
      exact hPut_ok (by omega) (by rw [h3]; omega) y3 (by omega) (by rw [h1]; decide)
    · obtain ⟨z3, z4⟩ := area_in hg hd (a := 1 - j.area) (by omega) (by omega) (i := (i : Int)) (by omega) (by omega)
      rw [content_put]
      by_cases ei : i = m
      · subst ei
        rw [if_pos (by omega)]
      · rw [if_neg (by omega)]
        exact h4 i (by omega)
    · rw [content_put, if_neg (fun q => hn m (by omega) q.symm), h5 n fun i hi => hn i (by omega)]
theorem save_kept {g : Geo} (hg : GoodGeo g) {d : Dev} (hd : GoodDev g d) (hf : d.fuel = -1) (hc : d.cache.length = 0) {j : Jr} {b : List UInt8} {snap : List UInt8} {l : List (Int × List UInt8)} (hk : Kept g (content d) j snap l 0) (hfit : ¬ fullS g j b) :
    (saveX g d j b).2 = 0 ∧ GoodDev g (saveX g d j b).1 ∧ (saveX g d j b).1.fuel = -1 ∧ (saveX g d j b).1.cache.length = 0 ∧ Kept g (content (saveX g d j b).1) (nextJ j (b.length : Int)) b [] 0 := by
  have hj := of_decide_eq_true hk.ok
  have hfit1 : (b.length : Int) ≤ g.area * 64 ∧ j.gen ≠ 1048576 := by
    unfold fullS at hfit
    omega
  have hpc : (pieces b : Int) ≤ g.area := by unfold pieces; omega
  have hs := hd.safe
  unfold sectorsOf at hs
  have hr1 := hg.r1; have ha1 := hg.a1; have hh1 := hg.h1
  have hgx := saveTo_good hd j b (pieces b)
  obtain ⟨x, e, h1, h2, h3, h4, h5⟩ := saveTo_live hg hd hf hc (j := j) (b := b) (by omega) (by omega) hpc (pieces b) (Nat.le_refl _)
  rw [e] at hgx
  have hl := superB_len (nextJ j (b.length : Int))
  have hg1 : GoodDev g (flushDev x) := good_flush hgx
  have hfs : (flushDev x).safe.length = d.safe.length := by
    have := hg1.safe
    unfold sectorsOf at this
    omega
  have hput : hPut (flushDev x, 0) (HMod.hMod (j.gen + 1) 2) (superB (nextJ j (b.length : Int))) = (putDev (flushDev x) (HMod.hMod (j.gen + 1) 2) (superB (nextJ j (b.length : Int))), 0) :=
    hPut_ok (by omega) (by omega) (by omega) (by rw [flushDev_cache]; omega) (by rw [flushDev_fuel h1]; decide)
  have hg2 : GoodDev g (putDev (flushDev x) (HMod.hMod (j.gen + 1) 2) (superB (nextJ j (b.length : Int)))) := by
    have := hPut_good (x := (flushDev x, 0)) hg1 (HMod.hMod (j.gen + 1) 2) (superB (nextJ j (b.length : Int)))
    rw [hput] at this
    exact this
  have hX : saveX g d j b = (flushDev (putDev (flushDev x) (HMod.hMod (j.gen + 1) 2) (superB (nextJ j (b.length : Int)))), 0) := by
    unfold saveX
    rw [e, hFlush_ok (by rw [h1]; decide), hput, hFlush_ok (by rw [putDev_fuel (flushDev_fuel h1)]; decide)]
  rw [hX]
  refine ⟨rfl, good_flush hg2, flushDev_fuel (putDev_fuel (flushDev_fuel h1) _ _), rfl, ?_⟩
  have hcon : ∀ n : Nat, n < d.safe.length → content (flushDev (putDev (flushDev x) (HMod.hMod (j.gen + 1) 2) (superB (nextJ j (b.length : Int))))) n = if n = bit (j.gen + 1) then sec (superB (nextJ j (b.length : Int))) else content x n := fun n hn => by
    rw [content_flush hg2 n (by rw [putDev_safe]; omega), content_put]
    by_cases q : n = bit (j.gen + 1)
    · rw [if_pos q, if_pos (by rw [q]; unfold bit; omega)]
    · rw [if_neg q, if_neg (fun y => q (by unfold bit; omega)), content_flush hgx n (by rw [h3]; exact hn)]
  have hfar : ∀ n : Nat, (n : Int) < 2 + g.ring → content x n = content d n := fun n hn => h5 n fun i hi y => by
    have := (area_in hg hd (a := 1 - j.area) (by omega) (by omega) (i := (i : Int)) (by omega) (by omega)).1
    omega
  refine (hk.save (c' := fun n => if n = bit (j.gen + 1) then sec (superB (nextJ j (b.length : Int))) else content x n) hg hfit1.1 (by omega) (fun i hi => ?_) (if_pos rfl) ?_ (fun p => ?_)).on hg hd fun n hn => hcon n hn
  · have hb2 := bit_lt (j.gen + 1)
    have hip : i < pieces b := by unfold pieces; omega
    obtain ⟨z3, _⟩ := area_in hg hd (a := 1 - j.area) (by omega) (by omega) (i := (i : Int)) (by omega) (by omega)
    show (if (areaAt g (1 - j.area) + (i : Int)).toNat = bit (j.gen + 1) then _ else _) = _
    rw [if_neg (by omega)]
    exact h4 i hip
  · show (if bit j.gen = bit (j.gen + 1) then _ else _) = _
    have hb2 := bit_lt j.gen
    rw [if_neg (by unfold bit; omega)]
    exact hfar _ (by omega)
  · have hb2 := bit_lt (j.gen + 1)
    obtain ⟨z1, z2⟩ := ringAt_ge hg p
    show (if ringAt g p = bit (j.gen + 1) then _ else _) = _
    rw [if_neg (by omega)]
    exact hfar _ z2
end Go.Proofs.Ytomfladifefomaa
