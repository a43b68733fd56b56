/- What a journal's opening reads off devices that hold it; devices behind a format. Conditions: as each law states them. -/
import Derived.Test.YtomfladifefomaaR3
import Derived.Test.YtomfladifefomaaN10
namespace Go.Proofs.Ytomfladifefomaa
open Go.RowKit
set_option linter.unusedSimpArgs false
section
variable {g : Geo} {c c' : Nat → List UInt8} {j : Jr} {snap : List UInt8} {l : List (Int × List UInt8)} {w : Int}
theorem Kept.newest (hg : GoodGeo g) (h : Kept g c j snap l w) : newestJ g c = j.bare := by
  have hj := of_decide_eq_true h.ok
  have hf := fields_sec hg h.ok
  have hb : okJ g j.bare = true := okJ_bare h.ok
  have ho := h.other
  have hsup := h.sup
  have hbg : j.bare.gen = j.gen := rfl
  have hz : zeroJr.gen = 0 := rfl
  unfold newestJ
  rcases gen_mod j.gen with e | e
  · have e1 : bit j.gen = 0 := by unfold bit; omega
    have e2 : bit (j.gen + 1) = 1 := by unfold bit; omega
    rw [e1] at hsup
    rw [e2, e] at ho
    have s0 : supOk g ((0 : Nat) : Int) (c 0) = true := by
      unfold supOk
      rw [hsup, hf, hb, hbg, e]
      rfl
    have hin : newerJ g c 0 zeroJr = j.bare := by
      unfold newerJ
      rw [if_pos ⟨s0, by rw [hsup, hf, hbg, hz]; omega⟩, hsup, hf]
    rw [hin]
    unfold newerJ
    rw [if_neg]
    rintro ⟨q1, q2⟩
    have := ho q1
    omega
  · have e1 : bit j.gen = 1 := by unfold bit; omega
    have e2 : bit (j.gen + 1) = 0 := by unfold bit; omega
    rw [e1] at hsup
    rw [e2, e] at ho
    have s1 : supOk g ((1 : Nat) : Int) (c 1) = true := by
      unfold supOk
      rw [hsup, hf, hb, hbg, e]
      rfl
    have hlt : (newerJ g c 0 zeroJr).gen < j.gen := by
      unfold newerJ
      split
      · rename_i q
        exact ho q.1
      · rw [hz]; omega
    have hlt0 : (if supOk g ((0 : Nat) : Int) (c 0) = true ∧ zeroJr.gen < (fieldsJ (c 0)).gen then fieldsJ (c 0) else zeroJr).gen < j.gen := by
      split
      · rename_i q
        exact ho q.1
      · rw [hz]; omega
    clear hlt0
    generalize newerJ g c 0 zeroJr = b0 at hlt
    unfold newerJ
    rw [if_pos ⟨s1, by rw [hsup, hf, hbg]; exact hlt⟩, hsup, hf]
theorem Kept.reads (h : Kept g c j snap l w) : snapOf g c j.bare = snap := by
  have hl := h.snapL
  have hto : ∀ i : Nat, 64 * i ≤ snap.length + 63 → snapTo g c j.bare i = snap.take (64 * i) := by
    intro i
    induction i with
    | zero => intro _; simp [snapTo]
    | succ i ih =>
      intro hi
      rw [snapTo, ih (by omega)]
      have hc := h.snapC i (by omega)
      show snap.take (64 * i) ++ (c (2 + g.ring + j.area * g.area + (i : Int)).toNat).take (min 64 (j.length - ((64 * i : Nat) : Int))).toNat = _
      rw [hc]
      have hcl : ((snap.drop (64 * i)).take 64).length = (min 64 (j.length - ((64 * i : Nat) : Int))).toNat := by
        rw [List.length_take, List.length_drop]
        omega
      unfold sec
      rw [← hcl, app_take rfl, show 64 * (i + 1) = 64 * i + 64 by omega, List.take_add]
  show snapTo g c j.bare ((j.length + 63) / 64).toNat = snap
  rw [hto _ (by omega)]
  exact List.take_of_length_le (by omega)
theorem Kept.on (hg : GoodGeo g) {d : Dev} (hd : GoodDev g d) (h : Kept g c j snap l w) (he : ∀ n, n < d.safe.length → c' n = c n) : Kept g c' j snap l w := by
  have hj := of_decide_eq_true h.ok
  have hs := hd.safe
  unfold sectorsOf at hs
  have := hg.r1; have := hg.a1; have := hg.h1
  have hlow : ∀ n, n < 2 → c' n = c n := fun n hn => he n (by omega)
  have hring : ∀ p, c' (ringAt g p) = c (ringAt g p) := fun p => he _ (ringAt_lt hg hd p)
  refine ⟨h.ok, (hlow _ (bit_lt _)).trans h.sup, fun q => ?_, h.snapL, fun k hk => ?_, h.laid.congr fun i _ => hring _, h.last, h.next, h.used, fun p hp hp2 => ?_⟩
  · rw [hlow _ (bit_lt _)] at q ⊢
    exact h.other q
  · have hl := h.snapL
    rw [he _ ?_]
    · exact h.snapC k hk
    · rcases (show j.area = 0 ∨ j.area = 1 by omega) with e | e <;> rw [e] <;> omega
  · rw [hring]
    exact h.clean p hp hp2
theorem Kept.count (hg : GoodGeo g) (h : Kept g c j snap l w) : l.length < 100 := by
  have hj := of_decide_eq_true h.ok
  have := total_len l
  have := h.used
  have := hg.r2
  omega
end
theorem zero_fields : fieldsJ (List.replicate 64 0) = zeroJr := by rfl
theorem sec_nil : sec [] = List.replicate 64 0 := by simp [sec]
theorem sup_zero (g : Geo) (a : Int) : supOk g a (List.replicate 64 0) = false := by
  unfold supOk
  rw [zero_fields]
  have : okJ g zeroJr = false := decide_eq_false fun h => by
    have h1 : (1 : Int) ≤ 0 := h.1
    omega
  rw [this]
  rfl
theorem newDev_content {g : Geo} {n : Nat} (hn : n < (newDev g).safe.length) : content (newDev g) n = List.replicate 64 0 := by
  show (newDev g).safe.getD n [] = _
  have hl : (newDev g).safe = List.replicate (sectorsOf g).toNat zeros := rfl
  rw [hl] at hn ⊢
  rw [List.length_replicate] at hn
  rw [List.getD_eq_getElem?_getD, List.getElem?_replicate, if_pos hn]
  rfl
theorem fmt_content {g : Geo} (hg : GoodGeo g) {n : Nat} (hn : n < (newDev g).safe.length) : content (fmtDev g) n = if n = 1 then sec (superB firstJ) else List.replicate 64 0 := by
  have hd : GoodDev g (putDev (putDev (newDev g) 0 []) 1 (superB firstJ)) := by
    have h1 : GoodDev g (hPut (hPut (newDev g, 0) 0 []) 1 (superB firstJ)).1 := hPut_good (hPut_good (newGood g hg) _ _) _ _
    have e := fmt_ok hg
    have hs := (newGood g hg).safe
    unfold sectorsOf at hs
    have := hg.r1; have := hg.a1; have := hg.h1
    have hf : (newDev g).fuel = -1 := rfl
    have hc : (newDev g).cache.length = 0 := rfl
    have hl := superB_len firstJ
    rw [hPut_ok (by omega) (by omega) (by simp) (by omega) (by rw [hf]; decide), hPut_ok (by omega) (by rw [putDev_safe]; omega) (by omega) (by rw [putDev_cache]; omega) (by rw [putDev_fuel hf]; decide)] at h1
    exact h1
  unfold fmtDev
  rw [content_flush hd n (by rw [putDev_safe, putDev_safe]; exact hn), content_put, content_put, newDev_content hn, sec_nil]
  by_cases e : n = 1
  · subst e
    rw [if_pos (show (1 : Int) = ((1 : Nat) : Int) from rfl), if_pos rfl]
  · rw [if_neg (by omega), if_neg e]
    split <;> rfl
theorem firstJ_ok {g : Geo} (hg : GoodGeo g) : okJ g firstJ = true := by
  have := hg.r1; have := hg.a1
  refine decide_eq_true ?_
  have e : HMod.hMod ((0 : Int) + 0) g.ring = 0 := by rw [Int.add_zero]; exact Int.zero_emod _
  show (1 : Int) ≤ 1 ∧ (1 : Int) ≤ 1 ∧ (1 : Int) ≤ 1 ∧ (1 : Int) ≤ 1 ∧ (1 : Int) ≤ 1048576 ∧ (1 : Int) ≤ 1048576 ∧ (1 : Int) ≤ 1048576 ∧ (1 : Int) ≤ 1048576 ∧ (1 : Int) ≤ 1 ∧ (0 : Int) ≤ 0 ∧ (0 : Int) ≤ 1 ∧ (0 : Int) ≤ 0 ∧ 0 ≤ g.area * 64 ∧ (0 : Int) ≤ 0 ∧ 0 < g.ring ∧ (0 : Int) ≤ 0 ∧ 0 ≤ g.ring ∧ (0 : Int) = HMod.hMod ((0 : Int) + 0) g.ring
  rw [e]
  omega
/-- what a format lays -/
theorem fmt_kept {g : Geo} (hg : GoodGeo g) : Kept g (content (fmtDev g)) firstJ [] [] 0 := by
  have hs := (newGood g hg).safe
  unfold sectorsOf at hs
  have := hg.r1; have := hg.a1; have := hg.h1
  refine ⟨firstJ_ok hg, ?_, fun h => ?_, rfl, fun k hk => by simp at hk, trivial, by decide, rfl, rfl, fun p _ _ => .inl ?_⟩
  · show content (fmtDev g) 1 = _
    rw [fmt_content hg (by omega), if_pos rfl]
  · have e : content (fmtDev g) (bit (firstJ.gen + 1)) = List.replicate 64 0 := by
      show content (fmtDev g) 0 = _
      rw [fmt_content hg (by omega), if_neg (by omega)]
    rw [e, sup_zero] at h
    cases h
  · have h1 := ringAt_ge hg (firstJ.start + (p : Int))
    have h2 := ringAt_lt hg (newGood g hg) (firstJ.start + (p : Int))
    rw [fmt_content hg h2, if_neg (by omega)]
    exact fr_zero rfl
/-- the devices of an opening -/
theorem openX_ok {g : Geo} (hg : GoodGeo g) {d : Dev} (hd : GoodDev g d) (hf : d.fuel = -1) (hc : d.cache.length = 0) (j : Jr) : openX d j = (flushDev (putDev d (HMod.hMod (j.gen + 1) 2) (superB (upJ j))), 0) := by
  have hs := hd.safe
  unfold sectorsOf at hs
  have := hg.r1; have := hg.a1; have := hg.h1
  have hl := superB_len (upJ j)
  unfold openX
  rw [hPut_ok (by omega) (by omega) (by omega) (by omega) (by rw [hf]; decide), hFlush_ok (by rw [putDev_fuel hf]; decide)]
theorem open_kept {g : Geo} (hg : GoodGeo g) {d : Dev} (hd : GoodDev g d) (hf : d.fuel = -1) (hc : d.cache.length = 0) {j : Jr} {snap : List UInt8} {l : List (Int × List UInt8)} {w : Int} (h : Kept g (content d) j snap l w) (hge : j.gen < 1048576) (hep : j.epoch < 1048576) :
    Kept g (content (openX d j).1) (upJ j) snap l w ∧ GoodDev g (openX d j).1 ∧ (openX d j).1.fuel = -1 ∧ (openX d j).1.cache.length = 0 := by
  have hg1 : GoodDev g (openX d j).1 := hFlush_good (hPut_good hd _ _)
  have hs := hd.safe
  unfold sectorsOf at hs
  have := hg.r1; have := hg.a1; have := hg.h1
  have hl := superB_len (upJ j)
  have hgp : GoodDev g (putDev d (HMod.hMod (j.gen + 1) 2) (superB (upJ j))) := by
    have := hPut_good (x := (d, 0)) hd (HMod.hMod (j.gen + 1) 2) (superB (upJ j))
    rw [hPut_ok (by omega) (by omega) (by omega) (by omega) (by rw [hf]; decide)] at this
    exact this
  rw [openX_ok hg hd hf hc] at hg1 ⊢
  refine ⟨?_, hg1, flushDev_fuel (putDev_fuel hf _ _), rfl⟩
  have hcon : ∀ n, n < d.safe.length → content (flushDev (putDev d (HMod.hMod (j.gen + 1) 2) (superB (upJ j)))) n = if n = bit (j.gen + 1) then sec (superB (upJ j)) else content d n := fun n hn => by
    rw [content_flush hgp n hn, content_put]
    by_cases e : n = bit (j.gen + 1)
    · rw [if_pos e, if_pos (by rw [e]; unfold bit; omega)]
    · rw [if_neg e, if_neg (fun q => e (by unfold bit; omega))]
  exact (h.reopen (c' := fun n => if n = bit (j.gen + 1) then sec (superB (upJ j)) else content d n) hg hge hep (if_pos rfl) (fun n hn => if_neg hn)).on hg hd (fun n hn => hcon n hn)
end Go.Proofs.Ytomfladifefomaa
