/- What a snapshot leaves on devices that die in it. Conditions: as each law states them. -/
import Derived.Test.YtomfladifefomaaR8
namespace Go.Proofs.Ytomfladifefomaa
open Go.RowKit
set_option linter.unusedSimpArgs false
/-- nothing but the other area has changed -/
theorem Kept.far {g : Geo} {c c' : Nat → List UInt8} {j : Jr} {snap : List UInt8} {l : List (Int × List UInt8)} {w : Int} (hg : GoodGeo g) (h : Kept g c j snap l w)
    (ho : ∀ n : Nat, (∀ i : Nat, (i : Int) < g.area → (n : Int) ≠ areaAt g (1 - j.area) + (i : Int)) → c' n = c n) : Kept g c' j snap l w := by
  have hj := of_decide_eq_true h.ok
  have hr := hg.r1
  have ha := hg.a1
  have hp0 : 0 ≤ (1 - j.area) * g.area := Int.mul_nonneg (by omega) (by omega)
  have hlow : ∀ n : Nat, (n : Int) < 2 + g.ring → c' n = c n := fun n hn => ho n fun i _ e => by
    unfold areaAt at e
    omega
  have hring : ∀ p, c' (ringAt g p) = c (ringAt g p) := fun p => hlow _ (ringAt_ge hg p).2
  have hbit : ∀ n, c' (bit n) = c (bit n) := fun n => hlow _ (by have := bit_lt n; omega)
  refine ⟨h.ok, (hbit _).trans h.sup, fun hs => ?_, h.snapL, fun k hk => ?_, h.laid.congr fun i _ => hring _, h.last, h.next, h.used, fun p hp hp2 => ?_⟩
  · rw [hbit] at hs ⊢
    exact h.other hs
  · rw [ho _ fun i hi e => ?_]
    · exact h.snapC k hk
    · have hl := h.snapL
      unfold areaAt at e
      rcases (show j.area = 0 ∨ j.area = 1 by omega) with q | q <;> rw [q] at e <;> omega
  · rw [hring]
    exact h.clean p hp hp2
/-- what may have become of a sector behind a crash -/
def EitherS (g : Geo) (j : Jr) (m : Nat) (old v : List UInt8) (n : Nat) : Prop := v = old ∨ ∃ i : Nat, i < m ∧ (n : Int) = areaAt g (1 - j.area) + (i : Int)
theorem EitherS.more {g : Geo} {j : Jr} {m m' : Nat} (hm : m ≤ m') {old v : List UInt8} {n : Nat} (h : EitherS g j m old v n) : EitherS g j m' old v n := by
  rcases h with h | ⟨i, hi, h⟩
  · exact .inl h
  · exact .inr ⟨i, by omega, h⟩
/-- pieces put one behind the other, on devices that may die -/
theorem saveTo_any {g : Geo} (hg : GoodGeo g) {d : Dev} (hd : GoodDev g d) (hc : d.cache.length = 0) {j : Jr} {b : List UInt8} (ha0 : 0 ≤ j.area) (ha1 : j.area ≤ 1) (hp : (pieces b : Int) ≤ g.area) : ∀ m, m ≤ pieces b → ∃ x e, saveTo g d j b m = (x, e) ∧ x.safe = d.safe ∧ x.cache.length ≤ m ∧ (∀ (ok : Nat → Bool) (n : Nat), EitherS g j m (content d n) (valTo ok x n x.cache.length) n) ∧ (e = 10 ∨ (e = 0 ∧
    (∀ i : Nat, i < m → content x (areaAt g (1 - j.area) + (i : Int)).toNat = sec (piece b i)) ∧ (∀ n : Nat, (∀ i : Nat, i < m → (n : Int) ≠ areaAt g (1 - j.area) + (i : Int)) → content x n = content d n)))
  | 0, _ => ⟨d, 0, rfl, rfl, by omega, fun ok n => .inl (by unfold content; rw [hc]; rfl), .inr ⟨rfl, fun i hi => absurd hi (by omega), fun _ _ => rfl⟩⟩
  | m + 1, hm => by
    obtain ⟨x, e, h1, h2, h3, h4, h5⟩ := saveTo_any hg hd hc (j := j) ha0 ha1 hp m (by omega)
    have hr1 := hg.r1
    have hr2 := hg.a2
    obtain ⟨_, _, y3⟩ := piece_len b (show m < pieces b by omega)
    obtain ⟨z1, z2⟩ := area_in hg hd (a := 1 - j.area) (by omega) (by omega) (i := (m : Int)) (by omega) (by omega)
    rcases h5 with rfl | ⟨rfl, h6, h7⟩
    · exact ⟨x, 10, by rw [saveTo, h1]; rfl, h2, by omega, fun ok n => (h4 ok n).more (by omega), .inl rfl⟩
    · by_cases hf : x.fuel = 0
      · refine ⟨x, 10, ?_, h2, by omega, fun ok n => (h4 ok n).more (by omega), .inl rfl⟩
        rw [saveTo, h1]
        have hp : putErr x (areaAt g (1 - j.area) + (m : Int)) (piece b m).length = 10 := by
          unfold putErr
          rw [if_neg (by rw [h2]; omega), if_neg (by omega), if_neg (by omega), if_pos hf]
        simp [hPut, hp]
      · refine ⟨putDev x (areaAt g (1 - j.area) + (m : Int)) (piece b m), 0, ?_, h2, by rw [putDev_cache]; omega, fun ok n => ?_, .inr ⟨rfl, fun i hi => ?_, fun n hn => ?_⟩⟩
        · rw [saveTo, h1]
          exact hPut_ok (by omega) (by rw [h2]; omega) y3 (by omega) hf
        · rw [valTo_puts]
          split
          · rename_i q
            rw [Bool.and_eq_true, decide_eq_true_eq] at q
            exact .inr ⟨m, by omega, q.2.symm⟩
          · exact (h4 ok n).more (by omega)
        · obtain ⟨z3, z4⟩ := area_in hg hd (a := 1 - j.area) (by omega) (by omega) (i := (i : Int)) (by omega) (by omega)
          rw [content_put]
          by_cases ei : i = m
          · subst ei
            rw [if_pos (by omega)]
          · rw [if_neg (by omega)]
            exact h6 i (by omega)
        · rw [content_put, if_neg (fun q => hn m (by omega) q.symm), h7 n fun i hi => hn i (by omega)]
/-- behind a crash the new snapshot is found, or all that was there before -/
theorem saveDie_kept {g : Geo} (hg : GoodGeo g) {d : Dev} (hd : GoodDev g d) (hc : d.cache.length = 0) {j : Jr} {b : List UInt8} {snap : List UInt8} {l : List (Int × List UInt8)} (hk : Kept g (content d) j snap l 0) (hfit : ¬ fullS g j b) :
    ((saveX g d j b).2 = 0 ∨ (saveX g d j b).2 = 10) ∧ GoodDev g (saveX g d j b).1 ∧
    ∀ keep, Kept g (content (crashDev (saveX g d j b).1 keep 0)) (nextJ j (b.length : Int)) b [] 0 ∨
      ((saveX g d j b).2 = 10 ∧ Kept g (content (crashDev (saveX g d j b).1 keep 0)) j snap l 0) := by
  have hj := of_decide_eq_true hk.ok
  have hfit1 : (b.length : Int) ≤ g.area * 64 ∧ j.gen ≠ 1048576 := by
    unfold fullS at hfit
    omega
  have hpc : (pieces b : Int) ≤ g.area := by unfold pieces; omega
  have hs := hd.safe
  unfold sectorsOf at hs
  have hr1 := hg.r1; have ha1 := hg.a1; have hh1 := hg.h1
  have hgx := saveTo_good hd j b (pieces b)
  obtain ⟨x, e, h1, h2, h3, h4, h5⟩ := saveTo_any hg hd hc (j := j) (b := b) (by omega) (by omega) hpc (pieces b) (Nat.le_refl _)
  unfold saveX
  rw [h1] at hgx ⊢
  have hl := superB_len (nextJ j (b.length : Int))
  have hld : ∀ y : Dev, GoodDev g y → y.safe.length = d.safe.length := fun y hy => by
    have := hy.safe
    unfold sectorsOf at this
    omega
  -- whatever agrees with the old contents but in the other area
  have hold : ∀ y : Dev, GoodDev g y → (∀ n : Nat, n < d.safe.length → EitherS g j (pieces b) (content d n) (content y n) n) → Kept g (content y) j snap l 0 := fun y hy hyn => by
    refine (hk.far (c' := fun n => if n < d.safe.length then content y n else content d n) hg fun n hn => ?_).on hg hd fun n hn => (if_pos hn).symm
    show (if n < d.safe.length then _ else _) = _
    split
    · rename_i q
      rcases hyn n q with y1 | ⟨i, hi, y1⟩
      · exact y1
      · exact absurd y1 (hn i (by omega))
    · rfl
  have hcx : ∀ keep, Kept g (content (crashDev x keep 0)) j snap l 0 := fun keep => hold _ (good_crash hgx (by omega)) fun n hn => by
    rw [content_crash hgx keep 0 n (by rw [h2]; exact hn)]
    exact h4 _ n
  rcases h5 with rfl | ⟨rfl, h6, h7⟩
  · have e1 : ∀ a bs, hFlush (hPut (hFlush (x, 10)) a bs) = (x, 10) := fun a bs => by simp [hFlush, hPut]
    rw [e1]
    exact ⟨.inr rfl, hgx, fun keep => .inr ⟨rfl, hcx keep⟩⟩
  · by_cases hf : x.fuel = 0
    · have e0 : downErr x = 10 := by unfold downErr; rw [if_pos hf]
      have e1 : ∀ a bs, hFlush (hPut (hFlush (x, 0)) a bs) = (x, 10) := fun a bs => by simp [hFlush, hPut, e0]
      rw [e1]
      exact ⟨.inr rfl, hgx, fun keep => .inr ⟨rfl, hcx keep⟩⟩
    · rw [hFlush_ok hf]
      have hg1 : GoodDev g (flushDev x) := good_flush hgx
      have hfl : ∀ n, n < d.safe.length → content (flushDev x) n = content x n := fun n hn => content_flush hgx n (by rw [h2]; exact hn)
      have hxe : ∀ n, EitherS g j (pieces b) (content d n) (content x n) n := fun n => h4 all_ n
      by_cases hf2 : (flushDev x).fuel = 0
      · have hp : putErr (flushDev x) (HMod.hMod (j.gen + 1) 2) (superB (nextJ j (b.length : Int))).length = 10 := by
          unfold putErr
          rw [if_neg (by rw [hld _ hg1]; omega), if_neg (by rw [hl]; omega), if_neg (by rw [flushDev_cache]; omega), if_pos hf2]
        have e1 : hFlush (hPut (flushDev x, 0) (HMod.hMod (j.gen + 1) 2) (superB (nextJ j (b.length : Int)))) = (flushDev x, 10) := by simp [hFlush, hPut, hp]
        rw [e1]
        refine ⟨.inr rfl, hg1, fun keep => .inr ⟨rfl, hold _ (good_crash hg1 (by omega)) fun n hn => ?_⟩⟩
        rw [crash_same hg1 rfl keep (by rw [hld _ hg1]; exact hn), hfl n hn]
        exact hxe n
      · have hput : hPut (flushDev x, 0) (HMod.hMod (j.gen + 1) 2) (superB (nextJ j (b.length : Int))) = (putDev (flushDev x) (HMod.hMod (j.gen + 1) 2) (superB (nextJ j (b.length : Int))), 0) :=
          hPut_ok (by omega) (by rw [hld _ hg1]; omega) (by omega) (by rw [flushDev_cache]; omega) hf2
        have hg2 : GoodDev g (putDev (flushDev x) (HMod.hMod (j.gen + 1) 2) (superB (nextJ j (b.length : Int)))) := by
          have := hPut_good (x := (flushDev x, 0)) hg1 (HMod.hMod (j.gen + 1) 2) (superB (nextJ j (b.length : Int)))
          rw [hput] at this
          exact this
        rw [hput]
        have hfar : ∀ n : Nat, (n : Int) < 2 + g.ring → content x n = content d n := fun n hn => h7 n fun i hi y => by
          have := (area_in hg hd (a := 1 - j.area) (by omega) (by omega) (i := (i : Int)) (by omega) (by omega)).1
          omega
        -- with the superblock it is the new one
        have hnew : Kept g (fun n => if n = bit (j.gen + 1) then sec (superB (nextJ j (b.length : Int))) else content x n) (nextJ j (b.length : Int)) b [] 0 := by
          refine hk.save hg hfit1.1 (by omega) (fun i hi => ?_) (if_pos rfl) ?_ (fun p => ?_)
          · have hb2 := bit_lt (j.gen + 1)
            have hip : i < pieces b := by unfold pieces; omega
            obtain ⟨z3, _⟩ := area_in hg hd (a := 1 - j.area) (by omega) (by omega) (i := (i : Int)) (by omega) (by omega)
            show (if (areaAt g (1 - j.area) + (i : Int)).toNat = bit (j.gen + 1) then _ else _) = _
            rw [if_neg (by omega)]
            exact h6 i hip
          · show (if bit j.gen = bit (j.gen + 1) then _ else _) = _
            have hb2 := bit_lt j.gen
            rw [if_neg (by unfold bit; omega)]
            exact hfar _ (by omega)
          · have hb2 := bit_lt (j.gen + 1)
            obtain ⟨z1, z2⟩ := ringAt_ge hg p
            show (if ringAt g p = bit (j.gen + 1) then _ else _) = _
            rw [if_neg (by omega)]
            exact hfar _ z2
        have hpc2 : ∀ n : Nat, content (putDev (flushDev x) (HMod.hMod (j.gen + 1) 2) (superB (nextJ j (b.length : Int)))) n = if n = bit (j.gen + 1) then sec (superB (nextJ j (b.length : Int))) else content (flushDev x) n := fun n => by
          rw [content_put]
          by_cases q : n = bit (j.gen + 1)
          · rw [if_pos q, if_pos (by rw [q]; unfold bit; omega)]
          · rw [if_neg q, if_neg (fun y => q (by unfold bit; omega))]
        have hdl : (putDev (flushDev x) (HMod.hMod (j.gen + 1) 2) (superB (nextJ j (b.length : Int)))).safe.length = d.safe.length := hld _ hg2
        generalize hy : putDev (flushDev x) (HMod.hMod (j.gen + 1) 2) (superB (nextJ j (b.length : Int))) = y at hg2 hpc2 hdl ⊢
        by_cases hf3 : y.fuel = 0
        · have e0 : downErr y = 10 := by unfold downErr; rw [if_pos hf3]
          have e1 : hFlush (y, 0) = (y, 10) := by simp [hFlush, e0]
          rw [e1]
          refine ⟨.inr rfl, hg2, fun keep => ?_⟩
          have hcr : ∀ n, n < d.safe.length → content (crashDev y keep 0) n = if ((keep.getD 0 false) && decide (HMod.hMod (j.gen + 1) 2 = (n : Int))) = true then sec (superB (nextJ j (b.length : Int))) else content (flushDev x) n := fun n hn => by
            rw [content_crash hg2 keep 0 n (by rw [hdl]; exact hn), ← hy, valTo_puts]
            rfl
          by_cases hkp : (keep.getD 0 false) = true
          · refine .inl (hnew.on hg hd fun n hn => ?_)
            rw [hcr n hn, hkp, Bool.true_and]
            by_cases q : n = bit (j.gen + 1)
            · rw [if_pos (decide_eq_true (by rw [q]; unfold bit; omega))]
              exact (if_pos q).symm
            · rw [if_neg (by rw [decide_eq_true_eq]; exact fun y => q (by unfold bit; omega)), hfl n hn]
              exact (if_neg q).symm
          · refine .inr ⟨rfl, hold _ (good_crash hg2 (by omega)) fun n hn => ?_⟩
            rw [hcr n hn, if_neg (by rw [Bool.and_eq_true]; exact fun q => hkp q.1), hfl n hn]
            exact hxe n
        · rw [hFlush_ok hf3]
          refine ⟨.inl rfl, good_flush hg2, fun keep => .inl (hnew.on hg hd fun n hn => ?_)⟩
          rw [crash_same (good_flush hg2) rfl keep (by rw [hld _ (good_flush hg2)]; exact hn), content_flush hg2 n (by rw [hdl]; exact hn), hpc2 n]
          show _ = if n = bit (j.gen + 1) then sec (superB (nextJ j (b.length : Int))) else content x n
          rw [hfl n hn]
end Go.Proofs.Ytomfladifefomaa
