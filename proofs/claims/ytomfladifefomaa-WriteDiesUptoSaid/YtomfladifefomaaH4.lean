/- What was written is read: the plain law of the sectors. Conditions: as each law states them. -/
import Derived.Test.YtomfladifefomaaH3
import Derived.Test.YtomfladifefomaaK1
namespace Go.Proofs.Ytomfladifefomaa
open Go.RowKit
set_option linter.unusedSimpArgs false
/-- ok at each place -/
def Spread (hot : Int) (l : List Int) : Prop := ∀ j, j < l.length → okAt hot l j = true
theorem spread_at {hot : Int} {l : List Int} (h : Spread hot l) {j : Nat} {n : Int} (hj : l[j]? = some n) : 0 ≤ n ∧ n < hot ∧ n ∉ l.take j := okAt_parts (h j (List.getElem?_eq_some_iff.1 hj).1) hj
theorem take_mem {l : List Int} {i j : Nat} {n : Int} (hi : i < j) (h : l[i]? = some n) : n ∈ l.take j := by
  refine List.mem_iff_getElem?.2 ⟨i, ?_⟩
  rw [List.getElem?_take_of_lt hi, h]
theorem written_at {g : Geo} (hg : GoodGeo g) {d : Dev} {l : List Int} {b : List UInt8} (hs : Spread g.hot l) : ∀ i, i ≤ l.length → ∀ j n, j < i → l[j]? = some n → content (writeTo g d l b i) (firstOf g + n).toNat = sec (chunk b j)
  | 0, _, j, n, h, _ => absurd h (by omega)
  | i + 1, hi, j, n, h, hn => by
    obtain ⟨m, hm⟩ : ∃ m, l[i]? = some m := ⟨_, List.getElem?_eq_getElem (by omega)⟩
    have hn0 := (spread_at hs hn).1
    have := hg.r1; have := hg.a1
    have hpos : (((firstOf g + n).toNat : Nat) : Int) = firstOf g + n := by unfold firstOf; omega
    rw [writeTo_succ hm, content_put, hpos]
    by_cases e : j = i
    · subst e
      rw [hn] at hm
      cases hm
      rw [if_pos rfl]
    · have hne : m ≠ n := fun q => (spread_at hs hm).2.2 (q ▸ take_mem (show j < i by omega) hn)
      rw [if_neg (by omega)]
      exact written_at hg hs i (by omega) j n (by omega) hn
theorem written_apart {g : Geo} {d : Dev} {l : List Int} {b : List UInt8} {k : Nat} (hk : ∀ n ∈ l, firstOf g + n ≠ (k : Int)) : ∀ i, content (writeTo g d l b i) k = content d k
  | 0 => rfl
  | i + 1 => by
    cases hm : l[i]? with
    | none => simp only [writeTo, hm]; exact written_apart hk i
    | some m => rw [writeTo_succ hm, content_put, if_neg (hk m (List.mem_of_getElem? hm)), written_apart hk i]
theorem writeTo_safe {g : Geo} {d : Dev} {l : List Int} {b : List UInt8} : ∀ i, (writeTo g d l b i).safe = d.safe
  | 0 => rfl
  | i + 1 => by
    cases hm : l[i]? with
    | none => simp only [writeTo, hm]; exact writeTo_safe i
    | some m => rw [writeTo_succ hm]; exact writeTo_safe i
theorem writeTo_fuel {g : Geo} {d : Dev} {l : List Int} {b : List UInt8} (h : d.fuel = -1) : ∀ i, (writeTo g d l b i).fuel = -1
  | 0 => h
  | i + 1 => by
    cases hm : l[i]? with
    | none => simp only [writeTo, hm]; exact writeTo_fuel h i
    | some m => rw [writeTo_succ hm]; exact spent_fuel1 (writeTo_fuel h i)
theorem valTo_put (ok : Nat → Bool) (d : Dev) (a : Int) (bs : List UInt8) (n : Nat) (h : a ≠ (n : Int)) : valTo ok (putDev d a bs) n (putDev d a bs).cache.length = valTo ok d n d.cache.length := by
  have hl : (putDev d a bs).cache.length = d.cache.length + 1 := by simp [putDev]
  have hx : (putDev d a bs).cache[d.cache.length]? = some ⟨a, sec bs⟩ := by simp [putDev]
  rw [hl]
  conv => lhs; unfold valTo
  simp only [hx]
  rw [decide_eq_false h, Bool.and_false, if_neg (by simp)]
  exact valTo_app ok d ⟨a, sec bs⟩ n (putDev d a bs) rfl rfl _ (Nat.le_refl _)
theorem valTo_apart (ok : Nat → Bool) {g : Geo} {d : Dev} {l : List Int} {b : List UInt8} {k : Nat} (hk : ∀ n ∈ l, firstOf g + n ≠ (k : Int)) : ∀ i, valTo ok (writeTo g d l b i) k (writeTo g d l b i).cache.length = valTo ok d k d.cache.length
  | 0 => rfl
  | i + 1 => by
    cases hm : l[i]? with
    | none => simp only [writeTo, hm]; exact valTo_apart ok hk i
    | some m => rw [writeTo_succ hm, valTo_put ok _ _ _ _ (hk m (List.mem_of_getElem? hm)), valTo_apart ok hk i]
/-- sectors one behind the other -/
def secTo (b : List UInt8) : Nat → List UInt8
  | 0 => []
  | i + 1 => secTo b i ++ sec (chunk b i)
theorem secTo_is (b : List UInt8) : ∀ i, ∃ z, secTo b i = b.take (64 * i) ++ z ∧ (64 * i ≤ b.length → z = [])
  | 0 => ⟨[], by simp [secTo], fun _ => rfl⟩
  | i + 1 => by
    obtain ⟨z, h1, h2⟩ := secTo_is b i
    have e64 : 64 * (i + 1) = 64 * i + 64 := by omega
    have hch : chunk b i = (b.drop (64 * i)).take 64 := by unfold chunk; rw [Nat.mul_comm]
    by_cases hle : 64 * i ≤ b.length
    · refine ⟨List.replicate (64 - (chunk b i).length) 0, ?_, fun h => ?_⟩
      · unfold secTo
        rw [h1, h2 hle, List.append_nil, e64, List.take_add, ← hch]
        unfold sec
        rw [List.append_assoc]
      · have : (chunk b i).length = 64 := by rw [chunk_len]; omega
        rw [this]
        rfl
    · refine ⟨z ++ sec (chunk b i), ?_, fun h => absurd h (by omega)⟩
      unfold secTo
      rw [h1, List.take_of_length_le (by omega), List.take_of_length_le (by omega), List.append_assoc]
theorem secTo_take {b : List UInt8} {i : Nat} (h : b.length ≤ 64 * i) : (secTo b i).take b.length = b := by
  obtain ⟨z, h1, _⟩ := secTo_is b i
  rw [h1, List.take_of_length_le (l := b) (by omega), List.take_left']
  rfl
theorem readTo_is {g : Geo} {d : Dev} {l : List Int} {b : List UInt8} (h : ∀ j n, l[j]? = some n → content d (firstOf g + n).toNat = sec (chunk b j)) : ∀ i, i ≤ l.length → readTo g d l i = secTo b i
  | 0, _ => rfl
  | i + 1, hi => by
    obtain ⟨m, hm⟩ : ∃ m, l[i]? = some m := ⟨_, List.getElem?_eq_getElem (by omega)⟩
    rw [readTo_succ hm, readTo_is h i (by omega), h i m hm]
    rfl
theorem in_safe {g : Geo} (hg : GoodGeo g) {d : Dev} (hd : GoodDev g d) {n : Int} (h0 : 0 ≤ n) (h1 : n < g.hot) : (firstOf g + n).toNat < d.safe.length := by
  have hs := hd.safe
  have := hg.r1; have := hg.a1
  unfold sectorsOf at hs
  unfold firstOf
  omega
/-- what was written and flushed is read -/
theorem flushed_read {g : Geo} (hg : GoodGeo g) {d : Dev} {l : List Int} {b : List UInt8} (hs : Spread g.hot l) (hd : GoodDev g (writeTo g d l b l.length)) (hb : b.length ≤ 64 * l.length) :
    (readTo g (flushDev (writeTo g d l b l.length)) l l.length).take b.length = b := by
  rw [readTo_is (b := b) (fun j n hj => ?_) _ (Nat.le_refl _), secTo_take hb]
  obtain ⟨n0, n1, _⟩ := spread_at hs hj
  rw [content_flush hd _ (in_safe hg hd n0 n1)]
  exact written_at hg hs _ (Nat.le_refl _) j n (List.getElem?_eq_some_iff.1 hj).1 hj
theorem readTo_same {g : Geo} {d d' : Dev} {l : List Int} (h : ∀ n ∈ l, content d' (firstOf g + n).toNat = content d (firstOf g + n).toNat) : ∀ i, readTo g d' l i = readTo g d l i
  | 0 => rfl
  | i + 1 => by
    cases hm : l[i]? with
    | none => simp only [readTo, hm]; exact readTo_same h i
    | some m => rw [readTo_succ hm, readTo_succ hm, readTo_same h i, h m (List.mem_of_getElem? hm)]
theorem crash_flushed {g : Geo} {x : Dev} (hx : GoodDev g x) (keep : List Bool) (t : Int) {n : Nat} (hn : n < x.safe.length) (hc : x.cache = []) : content (crashDev x keep t) n = content x n := by
  rw [content_crash hx keep t n hn]
  unfold content
  rw [hc]
  rfl
theorem spread_mem {hot : Int} {l : List Int} (h : Spread hot l) {n : Int} (hn : n ∈ l) : 0 ≤ n ∧ n < hot := by
  obtain ⟨j, hj⟩ := List.mem_iff_getElem?.1 hn
  exact ⟨(spread_at h hj).1, (spread_at h hj).2.1⟩
theorem spotsTo_at (hot f : Int) : ∀ n i, i < n → (spotsTo hot f n)[i]? = some (HMod.hMod (f + (i : Int) * 7) hot)
  | 0, i, h => absurd h (by omega)
  | n + 1, i, h => by
    unfold spotsTo
    by_cases e : i < n
    · rw [List.getElem?_append_left (by rw [spotsTo_len]; exact e)]
      exact spotsTo_at hot f n i e
    · have : i = n := by omega
      subst this
      rw [List.getElem?_append_right (by rw [spotsTo_len]; exact Nat.le_refl _), spotsTo_len, Nat.sub_self]
      rfl
theorem spots_spread {hot f : Int} (hh : hot = 11 ∨ hot = 22 ∨ hot = 31) {n : Nat} (hn : n ≤ 11) : Spread hot (spotsTo hot f n) := by
  intro j hj
  rw [spotsTo_len] at hj
  have hx := spotsTo_at hot f n j hj
  unfold okAt
  rw [hx]
  have h0 : ¬ HMod.hMod (f + (j : Int) * 7) hot < 0 := by rcases hh with rfl | rfl | rfl <;> omega
  have h1 : ¬ hot ≤ HMod.hMod (f + (j : Int) * 7) hot := by rcases hh with rfl | rfl | rfl <;> omega
  have h2 : HMod.hMod (f + (j : Int) * 7) hot ∉ (spotsTo hot f n).take j := by
    intro hm
    obtain ⟨i, hi⟩ := List.mem_iff_getElem?.1 hm
    have hij : i < j := by
      have := (List.getElem?_eq_some_iff.1 hi).1
      rw [List.length_take] at this
      omega
    rw [List.getElem?_take_of_lt hij, spotsTo_at hot f n i (by omega)] at hi
    have e := Option.some.inj hi
    rcases hh with rfl | rfl | rfl <;> omega
  simp only [decide_eq_false h0, decide_eq_false h1, decide_eq_false h2]
  rfl
theorem spotsTo_cut (hot f : Int) (n m k : Nat) (h : m + k ≤ n) : ((spotsTo hot f n).drop m).take k = spotsTo hot (f + 7 * (m : Int)) k := by
  apply List.ext_getElem?
  intro i
  by_cases hi : i < k
  · rw [List.getElem?_take_of_lt hi, List.getElem?_drop, spotsTo_at _ _ _ _ (by omega), spotsTo_at _ _ _ _ hi]
    congr 2
    push_cast
    omega
  · rw [List.getElem?_eq_none (by simp; omega), List.getElem?_eq_none (by rw [spotsTo_len]; omega)]
theorem spots_apart {hot f : Int} (hh : hot = 11 ∨ hot = 22 ∨ hot = 31) {m k : Nat} (h : m + k ≤ 11) {x y : Int} (hx : x ∈ spotsTo hot f m) (hy : y ∈ spotsTo hot (f + 7 * (m : Int)) k) : x ≠ y := by
  obtain ⟨i, hi⟩ := List.mem_iff_getElem?.1 hx
  obtain ⟨j, hj⟩ := List.mem_iff_getElem?.1 hy
  have hil := (List.getElem?_eq_some_iff.1 hi).1
  have hjl := (List.getElem?_eq_some_iff.1 hj).1
  rw [spotsTo_len] at hil hjl
  rw [spotsTo_at _ _ _ _ hil] at hi
  rw [spotsTo_at _ _ _ _ hjl] at hj
  have e1 := Option.some.inj hi
  have e2 := Option.some.inj hj
  rcases hh with rfl | rfl | rfl <;> omega
end Go.Proofs.Ytomfladifefomaa
