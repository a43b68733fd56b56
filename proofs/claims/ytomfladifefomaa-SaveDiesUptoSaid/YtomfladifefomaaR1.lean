/- The model of a journal in a ring of sectors: its bytes, and what is found of them. Conditions: as each law states them. -/
import Derived.Test.YtomfladifefomaaY4
namespace Go.Proofs.Ytomfladifefomaa
open Go.RowKit
set_option linter.unusedSimpArgs false
/-- a journal -/
structure Jr where
  gen : Int
  epoch : Int
  area : Int
  length : Int
  start : Int
  first : Int
  place : Int
  next : Int
  used : Int
def zeroJr : Jr := ⟨0, 0, 0, 0, 0, 0, 0, 0, 0⟩
/-- a number as bytes, the highest first -/
def numB (n : Int) : Nat → List UInt8
  | 0 => []
  | k + 1 => byteOf (n / 256 ^ k) :: numB n k
theorem numB_len (n : Int) : ∀ k, (numB n k).length = k
  | 0 => rfl
  | k + 1 => by rw [numB, List.length_cons, numB_len n k]
/-- the value of bytes -/
def valFrom (n : Int) : List UInt8 → Int
  | [] => n
  | c :: l => valFrom (n * 256 + (c.toNat : Int)) l
def valB (l : List UInt8) : Int := valFrom 0 l
theorem byteOf_val (n : Int) : ((byteOf n).toNat : Int) = HMod.hMod n 256 := by
  have h0 := Int.emod_nonneg n (b := 256) (by omega)
  have h1 := Int.emod_lt_of_pos n (b := 256) (by omega)
  unfold byteOf
  rw [UInt8.toNat_ofNat']
  omega
theorem valB_1 (n : Int) (h0 : 0 ≤ n) (h1 : n < 256) : valB (numB n 1) = n := by
  simp only [numB, valB, valFrom, byteOf_val, Int.pow_zero]
  omega
theorem valB_2 (n : Int) (h0 : 0 ≤ n) (h1 : n < 65536) : valB (numB n 2) = n := by
  simp only [numB, valB, valFrom, byteOf_val]
  omega
theorem valB_4 (n : Int) (h0 : 0 ≤ n) (h1 : n < 4294967296) : valB (numB n 4) = n := by
  simp only [numB, valB, valFrom, byteOf_val]
  omega
def superB (j : Jr) : List UInt8 := numB j.gen 4 ++ numB j.epoch 4 ++ numB j.area 1 ++ numB j.length 4 ++ numB j.start 2 ++ numB j.first 4
theorem superB_len (j : Jr) : (superB j).length = 19 := by simp [superB, numB_len]
/-- may a journal be? -/
def okJ (g : Geo) (j : Jr) : Bool := decide (1 ≤ j.gen ∧ 1 ≤ j.epoch ∧ 1 ≤ j.first ∧ 1 ≤ j.next ∧ j.gen ≤ 1048576 ∧ j.epoch ≤ 1048576 ∧ j.first ≤ 1048576 ∧ j.next ≤ 1048576 ∧ j.first ≤ j.next ∧ 0 ≤ j.area ∧ j.area ≤ 1 ∧ 0 ≤ j.length ∧ j.length ≤ g.area * 64 ∧ 0 ≤ j.start ∧ j.start < g.ring ∧ 0 ≤ j.used ∧ j.used ≤ g.ring ∧ j.place = HMod.hMod (j.start + j.used) g.ring)
def fieldsJ (b : List UInt8) : Jr := ⟨valB (b.take 4), valB ((b.drop 4).take 4), valB ((b.drop 8).take 1), valB ((b.drop 9).take 4), valB ((b.drop 13).take 2), valB ((b.drop 15).take 4), valB ((b.drop 13).take 2), valB ((b.drop 15).take 4), 0⟩
/-- is it a superblock? -/
def supOk (g : Geo) (at_ : Int) (b : List UInt8) : Bool := okJ g (fieldsJ b) && decide (HMod.hMod (fieldsJ b).gen 2 = at_)
theorem app_take {a r : List UInt8} {n : Nat} (h : a.length = n) : (a ++ r).take n = a := by subst h; simp
theorem app_drop {a r : List UInt8} {n : Nat} (h : a.length = n) : (a ++ r).drop n = r := by subst h; simp
theorem fields_super {g : Geo} (hg : GoodGeo g) {j : Jr} (h : okJ g j = true) (z : List UInt8) : fieldsJ (superB j ++ z) = { j with place := j.start, next := j.first, used := 0 } := by
  have h := of_decide_eq_true h
  have h1 := hg.r2
  have h2 := hg.a2
  have e0 : superB j ++ z = numB j.gen 4 ++ (numB j.epoch 4 ++ (numB j.area 1 ++ (numB j.length 4 ++ (numB j.start 2 ++ (numB j.first 4 ++ z))))) := by simp [superB]
  have d4 : (superB j ++ z).drop 4 = numB j.epoch 4 ++ (numB j.area 1 ++ (numB j.length 4 ++ (numB j.start 2 ++ (numB j.first 4 ++ z)))) := by rw [e0, app_drop (numB_len _ _)]
  have d8 : (superB j ++ z).drop 8 = numB j.area 1 ++ (numB j.length 4 ++ (numB j.start 2 ++ (numB j.first 4 ++ z))) := by rw [show 8 = 4 + 4 from rfl, ← List.drop_drop, d4, app_drop (numB_len _ _)]
  have d9 : (superB j ++ z).drop 9 = numB j.length 4 ++ (numB j.start 2 ++ (numB j.first 4 ++ z)) := by rw [show 9 = 8 + 1 from rfl, ← List.drop_drop, d8, app_drop (numB_len _ _)]
  have d13 : (superB j ++ z).drop 13 = numB j.start 2 ++ (numB j.first 4 ++ z) := by rw [show 13 = 9 + 4 from rfl, ← List.drop_drop, d9, app_drop (numB_len _ _)]
  have d15 : (superB j ++ z).drop 15 = numB j.first 4 ++ z := by rw [show 15 = 13 + 2 from rfl, ← List.drop_drop, d13, app_drop (numB_len _ _)]
  have d0 : (superB j ++ z).take 4 = numB j.gen 4 := by rw [e0, app_take (numB_len _ _)]
  unfold fieldsJ
  rw [d0, d4, d8, d9, d13, d15, app_take (numB_len _ _), app_take (numB_len _ _), app_take (numB_len _ _), app_take (numB_len _ _), app_take (numB_len _ _),
    valB_4 _ (by omega) (by omega), valB_4 _ (by omega) (by omega), valB_1 _ (by omega) (by omega), valB_4 _ (by omega) (by omega), valB_2 _ (by omega) (by omega), valB_4 _ (by omega) (by omega)]
theorem okJ_bare {g : Geo} {j : Jr} (h : okJ g j = true) : okJ g { j with place := j.start, next := j.first, used := 0 } = true := by
  have h := of_decide_eq_true h
  refine decide_eq_true ?_
  have : HMod.hMod (j.start + 0) g.ring = j.start := by rw [Int.add_zero]; exact Int.emod_eq_of_lt (by omega) (by omega)
  refine ⟨h.1, h.2.1, h.2.2.1, h.2.2.1, h.2.2.2.2.1, h.2.2.2.2.2.1, h.2.2.2.2.2.2.1, ?_⟩
  show j.first ≤ 1048576 ∧ j.first ≤ j.first ∧ 0 ≤ j.area ∧ j.area ≤ 1 ∧ 0 ≤ j.length ∧ j.length ≤ g.area * 64 ∧ 0 ≤ j.start ∧ j.start < g.ring ∧ (0 : Int) ≤ 0 ∧ (0 : Int) ≤ g.ring ∧ j.start = HMod.hMod (j.start + 0) g.ring
  rw [this]
  omega
/-- a frame -/
structure Fr where
  epoch : Int
  number : Int
  index : Int
  last : Bool
  body : List UInt8
def frB (f : Fr) : List UInt8 := numB f.epoch 4 ++ numB f.number 4 ++ numB f.index 1 ++ numB (if f.last then 1 else 0) 1 ++ numB (f.body.length : Int) 2 ++ f.body
theorem frB_len (f : Fr) : (frB f).length = 12 + f.body.length := by simp [frB, numB_len]; omega
/-- is it a frame? -/
def frBad (b : List UInt8) : Bool := decide (1 < (b.getD 9 0).toNat) || decide (52 < valB ((b.drop 10).take 2)) || (!decide ((b.getD 9 0).toNat = 1) && decide (valB ((b.drop 10).take 2) < 52))
def frOf (b : List UInt8) : Fr := ⟨valB (b.take 4), valB ((b.drop 4).take 4), ((b.getD 8 0).toNat : Int), decide ((b.getD 9 0).toNat = 1), (b.drop 12).take (valB ((b.drop 10).take 2)).toNat⟩
structure OkF (f : Fr) : Prop where
  e0 : 0 ≤ f.epoch
  e1 : f.epoch ≤ 1048576
  n0 : 0 ≤ f.number
  n1 : f.number ≤ 1048576
  i0 : 0 ≤ f.index
  i1 : f.index < 256
  b : f.body.length ≤ 52
  l : f.last = false → f.body.length = 52
theorem fr_parts (f : Fr) (h : OkF f) (z : List UInt8) : frBad (frB f ++ z) = false ∧ frOf (frB f ++ z) = f := by
  obtain ⟨h1, h2, h3, h4, h5, h6, h7, h8⟩ := h
  have e0 : frB f ++ z = numB f.epoch 4 ++ (numB f.number 4 ++ (numB f.index 1 ++ (numB (if f.last then 1 else 0) 1 ++ (numB (f.body.length : Int) 2 ++ (f.body ++ z))))) := by simp [frB]
  have d0 : (frB f ++ z).take 4 = numB f.epoch 4 := by rw [e0, app_take (numB_len _ _)]
  have d4 : (frB f ++ z).drop 4 = numB f.number 4 ++ (numB f.index 1 ++ (numB (if f.last then 1 else 0) 1 ++ (numB (f.body.length : Int) 2 ++ (f.body ++ z)))) := by rw [e0, app_drop (numB_len _ _)]
  have d8 : (frB f ++ z).drop 8 = numB f.index 1 ++ (numB (if f.last then 1 else 0) 1 ++ (numB (f.body.length : Int) 2 ++ (f.body ++ z))) := by rw [show 8 = 4 + 4 from rfl, ← List.drop_drop, d4, app_drop (numB_len _ _)]
  have d9 : (frB f ++ z).drop 9 = numB (if f.last then 1 else 0) 1 ++ (numB (f.body.length : Int) 2 ++ (f.body ++ z)) := by rw [show 9 = 8 + 1 from rfl, ← List.drop_drop, d8, app_drop (numB_len _ _)]
  have d10 : (frB f ++ z).drop 10 = numB (f.body.length : Int) 2 ++ (f.body ++ z) := by rw [show 10 = 9 + 1 from rfl, ← List.drop_drop, d9, app_drop (numB_len _ _)]
  have d12 : (frB f ++ z).drop 12 = f.body ++ z := by rw [show 12 = 10 + 2 from rfl, ← List.drop_drop, d10, app_drop (numB_len _ _)]
  have g8 : (frB f ++ z).getD 8 0 = byteOf f.index := by
    have : (frB f ++ z)[8]? = ((frB f ++ z).drop 8)[0]? := by rw [List.getElem?_drop]
    rw [List.getD_eq_getElem?_getD, this, d8]
    simp [numB]
  have g9 : (frB f ++ z).getD 9 0 = byteOf (if f.last then 1 else 0) := by
    have : (frB f ++ z)[9]? = ((frB f ++ z).drop 9)[0]? := by rw [List.getElem?_drop]
    rw [List.getD_eq_getElem?_getD, this, d9]
    simp [numB]
  have v10 : valB (((frB f ++ z).drop 10).take 2) = (f.body.length : Int) := by rw [d10, app_take (numB_len _ _), valB_2 _ (by omega) (by omega)]
  have b8 : ((byteOf f.index).toNat : Int) = f.index := by rw [byteOf_val]; omega
  have v0 : valB ((frB f ++ z).take 4) = f.epoch := by rw [d0, valB_4 _ (by omega) (by omega)]
  have v4 : valB (((frB f ++ z).drop 4).take 4) = f.number := by rw [d4, app_take (numB_len _ _), valB_4 _ (by omega) (by omega)]
  have hb : ((frB f ++ z).drop 12).take ((f.body.length : Int)).toNat = f.body := by rw [d12, Int.toNat_natCast, app_take rfl]
  obtain ⟨fe, fn, fi, fl, fb⟩ := f
  unfold frBad frOf
  rw [g8, g9, v10, v0, v4, hb, b8]
  cases fl with
  | true =>
    have : (byteOf (1 : Int)).toNat = 1 := by decide
    simp only [if_true, this]
    refine ⟨?_, rfl⟩
    have : ¬ (52 < (fb.length : Int)) := by simp only at h7; omega
    simp [this]
  | false =>
    have : (byteOf (0 : Int)).toNat = 0 := by decide
    have h9 : fb.length = 52 := h8 rfl
    simp only [Bool.false_eq_true, if_false, this]
    refine ⟨by simp [h9], rfl⟩
/-- a sector that holds a frame -/
theorem fr_sec (f : Fr) (h : OkF f) : frBad (sec (frB f)) = false ∧ frOf (sec (frB f)) = f := fr_parts f h _
theorem fr_zero {b : List UInt8} (h : b = List.replicate 64 0) : frBad b = true := by subst h; decide
/-- where a place of the ring is -/
def ringAt (g : Geo) (p : Int) : Nat := (2 + HMod.hMod p g.ring).toNat
/-- the transaction at a place: from its frame i on, behind what was read -/
def txGo (g : Geo) (c : Nat → List UInt8) (place n low : Int) : Nat → Nat → Int → List UInt8 → Option (List UInt8 × Nat × Int)
  | 0, _, _, _ => none
  | f + 1, i, ep, out =>
    if frBad (c (ringAt g (place + (i : Int)))) then none
    else if (frOf (c (ringAt g (place + (i : Int))))).number ≠ n ∨ (frOf (c (ringAt g (place + (i : Int))))).index ≠ (i : Int) ∨ (i = 0 ∧ (frOf (c (ringAt g (place + (i : Int))))).epoch < low) ∨ (0 < i ∧ (frOf (c (ringAt g (place + (i : Int))))).epoch ≠ ep) then none
    else if (frOf (c (ringAt g (place + (i : Int))))).last then some (out ++ (frOf (c (ringAt g (place + (i : Int))))).body, i + 1, (frOf (c (ringAt g (place + (i : Int))))).epoch)
    else txGo g c place n low f (i + 1) (frOf (c (ringAt g (place + (i : Int))))).epoch (out ++ (frOf (c (ringAt g (place + (i : Int))))).body)
/-- how many frames a transaction has, and its frames -/
def cnt (b : List UInt8) : Nat := max 1 ((b.length + 51) / 52)
def part (b : List UInt8) (i : Nat) : List UInt8 := (b.drop (52 * i)).take 52
def frAt (e n : Int) (b : List UInt8) (i : Nat) : Fr := ⟨e, n, (i : Int), decide (i + 1 = cnt b), part b i⟩
theorem cnt_pos (b : List UInt8) : 1 ≤ cnt b := by unfold cnt; omega
theorem frAt_ok {e n : Int} {b : List UInt8} {i : Nat} (he : 0 ≤ e ∧ e ≤ 1048576) (hn : 0 ≤ n ∧ n ≤ 1048576) (hi : i < cnt b) (hc : cnt b ≤ 200) : OkF (frAt e n b i) := by
  refine ⟨he.1, he.2, hn.1, hn.2, by show 0 ≤ (i : Int); omega, by show (i : Int) < 256; omega, ?_, fun hl => ?_⟩
  · show (part b i).length ≤ 52
    simp only [part, List.length_take]
    omega
  · show (part b i).length = 52
    have hl : ¬ (i + 1 = cnt b) := of_decide_eq_false hl
    simp only [part, List.length_take, List.length_drop]
    unfold cnt at hi hl
    omega
/-- the parts, one behind the other -/
def partsTo (b : List UInt8) : Nat → List UInt8
  | 0 => []
  | i + 1 => partsTo b i ++ part b i
theorem partsTo_take (b : List UInt8) : ∀ i, partsTo b i = b.take (52 * i)
  | 0 => by simp [partsTo]
  | i + 1 => by
    rw [partsTo, partsTo_take b i, part, show 52 * (i + 1) = 52 * i + 52 by omega, List.take_add]
theorem partsTo_all (b : List UInt8) : partsTo b (cnt b) = b := by
  rw [partsTo_take]
  apply List.take_of_length_le
  unfold cnt
  omega
/-- a transaction whose frames are all there is found -/
theorem txGo_found {g : Geo} {c : Nat → List UInt8} {place n low e : Int} {b : List UInt8} (he : 0 ≤ e ∧ e ≤ 1048576) (hn : 0 ≤ n ∧ n ≤ 1048576) (hc : cnt b ≤ 200) (hl : low ≤ e)
    (h : ∀ i, i < cnt b → c (ringAt g (place + (i : Int))) = sec (frB (frAt e n b i))) : ∀ (k i : Nat) (ep : Int) (fuel : Nat), i + k = cnt b → 0 < k → k ≤ fuel → (0 < i → ep = e) → txGo g c place n low fuel i ep (partsTo b i) = some (b, cnt b, e) := by
  intro k
  induction k with
  | zero => intro i ep fuel _ h0; omega
  | succ k ih =>
    intro i ep fuel hik _ hf hep
    obtain ⟨f, rfl⟩ : ∃ f, fuel = f + 1 := ⟨fuel - 1, by omega⟩
    have hi : i < cnt b := by omega
    obtain ⟨p1, p2⟩ := fr_sec _ (frAt_ok he hn hi hc)
    have hx := h i hi
    unfold txGo
    rw [hx, p1, p2]
    have c1 : ¬ ((frAt e n b i).number ≠ n ∨ (frAt e n b i).index ≠ (i : Int) ∨ (i = 0 ∧ (frAt e n b i).epoch < low) ∨ (0 < i ∧ (frAt e n b i).epoch ≠ ep)) := by
      rintro (q | q | ⟨_, q⟩ | ⟨q0, q⟩)
      · exact q rfl
      · exact q rfl
      · have : e < low := q
        omega
      · exact q (hep q0).symm
    rw [if_neg (by simp), if_neg c1]
    by_cases hl2 : i + 1 = cnt b
    · have : (frAt e n b i).last = true := decide_eq_true hl2
      rw [if_pos this]
      show some (partsTo b i ++ part b i, i + 1, e) = _
      rw [show partsTo b i ++ part b i = partsTo b (i + 1) from rfl, hl2, partsTo_all]
    · have : ¬ ((frAt e n b i).last = true) := by
        intro q
        exact hl2 (of_decide_eq_true q)
      rw [if_neg this]
      exact ih (i + 1) e f (by omega) (by omega) (by omega) (fun _ => rfl)
/-- one of which a frame is lacking is not found -/
theorem txGo_torn {g : Geo} {c : Nat → List UInt8} {place n low e : Int} {b : List UInt8} (he : 0 ≤ e ∧ e ≤ 1048576) (hn : 0 ≤ n ∧ n ≤ 1048576) (hc : cnt b ≤ 200) {m : Nat} (hm : m < cnt b)
    (h : ∀ i, i < m → c (ringAt g (place + (i : Int))) = sec (frB (frAt e n b i)))
    (hx : frBad (c (ringAt g (place + (m : Int)))) = true ∨ (frOf (c (ringAt g (place + (m : Int))))).number ≠ n) : ∀ (k i : Nat) (ep : Int) (fuel : Nat) (out : List UInt8), i + k = m → txGo g c place n low fuel i ep out = none := by
  intro k
  induction k with
  | zero =>
    intro i ep fuel out hik
    obtain rfl : i = m := by omega
    cases fuel with
    | zero => rfl
    | succ f =>
      unfold txGo
      rcases hx with hx | hx
      · rw [if_pos hx]
      · split
        · rfl
        · rw [if_pos (.inl hx)]
  | succ k ih =>
    intro i ep fuel out hik
    cases fuel with
    | zero => rfl
    | succ f =>
      have hi : i < m := by omega
      obtain ⟨p1, p2⟩ := fr_sec _ (frAt_ok he hn (show i < cnt b by omega) hc)
      unfold txGo
      rw [h i hi, p1, p2]
      rw [if_neg (by simp)]
      split
      · rfl
      · have : ¬ ((frAt e n b i).last = true) := fun q => by
          have := of_decide_eq_true q
          omega
        rw [if_neg this]
        exact ih (i + 1) _ f _ (by omega)
end Go.Proofs.Ytomfladifefomaa
