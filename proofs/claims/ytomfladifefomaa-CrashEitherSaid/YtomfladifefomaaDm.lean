/- The model of devices: what each call makes of them; that they stay such that may be; what reads where. Conditions: none. -/
import Derived.Test.YtomfladifefomaaT15
namespace Go.Proofs.Ytomfladifefomaa
open Go.RowKit
set_option linter.unusedSimpArgs false
/-- what a sector holds -/
def sec (bs : List UInt8) : List UInt8 := bs ++ List.replicate (64 - bs.length) 0
theorem sec_len (bs : List UInt8) (h : bs.length ≤ 64) : (sec bs).length = 64 := by simp [sec]; omega
theorem sec_enc (bs : List UInt8) : (sec bs).map enc8 = bs.map enc8 ++ List.replicate (64 - bs.length) (.int .u8 0) := by simp [sec, enc8]
def putErr (d : Dev) (a : Int) (n : Nat) : Int := if a < 0 ∨ (d.safe.length : Int) ≤ a then 2 else if 64 < n then 1 else if d.cache.length = 2000 then 8 else if d.fuel = 0 then 10 else 0
def putDev (d : Dev) (a : Int) (bs : List UInt8) : Dev := { spent d with cache := d.cache ++ [⟨a, sec bs⟩] }
def downErr (d : Dev) : Int := if d.fuel = 0 then 10 else 0
/-- the disk, when of the first i of those that were put the ones that are named are safe -/
def putsTo (ok : Nat → Bool) (d : Dev) : Nat → List (List UInt8)
  | 0 => d.safe
  | i + 1 => match d.cache[i]? with
    | some x => if ok i then (putsTo ok d i).set x.at_.toNat x.data else putsTo ok d i
    | none => putsTo ok d i
/-- what a sector reads then -/
def valTo (ok : Nat → Bool) (d : Dev) (n : Nat) : Nat → List UInt8
  | 0 => d.safe.getD n []
  | i + 1 => match d.cache[i]? with
    | some x => if ok i && decide (x.at_ = (n : Int)) then x.data else valTo ok d n i
    | none => valTo ok d n i
def all_ (_ : Nat) : Bool := true
def flushDev (d : Dev) : Dev := { spent d with safe := putsTo all_ d d.cache.length, cache := [] }
def content (d : Dev) (n : Nat) : List UInt8 := valTo all_ d n d.cache.length
def volCut (tail : Int) (x : Vol) : Vol := ⟨x.data.take (x.synced + min tail ((x.data.length : Int) - x.synced)).toNat, x.synced + min tail ((x.data.length : Int) - x.synced), x.gone⟩
def crashDev (d : Dev) (keep : List Bool) (tail : Int) : Dev := ⟨putsTo (fun i => keep.getD i false) d d.cache.length, [], d.vols.map (volCut tail), -1⟩
def markDev (d : Dev) : Dev := { spent d with vols := d.vols.map fun x => ⟨x.data, (x.data.length : Int), x.gone⟩ }
def appFresh (g : Geo) (d : Dev) (v : Int) : Bool := decide (v = (d.vols.length : Int)) && decide (v < g.volumes)
def volLen (d : Dev) (v : Int) : Nat := match d.vols[v.toNat]? with | some x => x.data.length | none => 0
def appLen (g : Geo) (d : Dev) (v : Int) (n : Nat) : Nat := (if appFresh g d v then 0 else volLen d v) + n
def appErr (g : Geo) (d : Dev) (v : Int) (n : Nat) : Int :=
  if appFresh g d v = false ∧ volOk d v = false then 6 else if g.volume < (appLen g d v n : Int) then 8 else if d.fuel = 0 then 10 else 0
def appDev (g : Geo) (d : Dev) (v : Int) (bs : List UInt8) : Dev :=
  if appFresh g d v then { spent d with vols := d.vols ++ [⟨bs, 0, false⟩] } else { spent d with vols := match d.vols[v.toNat]? with | some x => d.vols.set v.toNat ⟨x.data ++ bs, x.synced, x.gone⟩ | none => d.vols }
def fetErr (d : Dev) (v a n : Int) : Int := if volOk d v = false then 6 else if a < 0 ∨ n < 0 ∨ (volLen d v : Int) < a + n then 2 else 0
def fetBytes (d : Dev) (v a n : Int) : List UInt8 := match d.vols[v.toNat]? with | some x => (x.data.drop a.toNat).take n.toNat | none => []

theorem puts_len (ok : Nat → Bool) (d : Dev) : ∀ i, (putsTo ok d i).length = d.safe.length
  | 0 => rfl
  | i + 1 => by
    unfold putsTo
    split
    · split
      · rw [List.length_set, puts_len ok d i]
      · exact puts_len ok d i
    · exact puts_len ok d i
theorem wBad_no {a : Int} {n m : Nat} (h : wBad a n m = false) : 0 ≤ a ∧ a < n ∧ m = 64 := by
  simp [wBad] at h; omega
theorem vBad_no {n : Nat} {s : Int} {g : Bool} {m : Int} (h : vBad n s g m = false) : (n : Int) ≤ m ∧ 0 ≤ s ∧ s ≤ n ∧ (g = true → n = 0) := by
  simp [vBad] at h
  obtain ⟨⟨⟨h1, h2⟩, h3⟩, h4⟩ := h
  exact ⟨h1, h2, h3, h4⟩
theorem vBad_mk {n : Nat} {s : Int} {g : Bool} {m : Int} (h1 : (n : Int) ≤ m) (h2 : 0 ≤ s) (h3 : s ≤ n) (h4 : g = true → n = 0) : vBad n s g m = false := by
  simp [vBad]
  exact ⟨⟨⟨h1, h2⟩, h3⟩, h4⟩
section
variable {g : Geo} {d : Dev}
theorem GoodDev.wr (h : GoodDev g d) {i : Nat} {x : Wr} (hx : d.cache[i]? = some x) : 0 ≤ x.at_ ∧ x.at_ < d.safe.length ∧ x.data.length = 64 := wBad_no (h.cache x (List.mem_of_getElem? hx))
theorem GoodDev.vol (h : GoodDev g d) {i : Nat} {x : Vol} (hx : d.vols[i]? = some x) : (x.data.length : Int) ≤ g.volume ∧ 0 ≤ x.synced ∧ x.synced ≤ x.data.length ∧ (x.gone = true → x.data.length = 0) := vBad_no (h.vols x (List.mem_of_getElem? hx))
theorem puts_rows (h : GoodDev g d) (ok : Nat → Bool) : ∀ i, ∀ s ∈ putsTo ok d i, s.length = 64
  | 0 => h.rows
  | i + 1 => by
    unfold putsTo
    split
    · rename_i x hx
      split
      · intro s hs
        rcases List.mem_or_eq_of_mem_set hs with h1 | h1
        · exact puts_rows h ok i s h1
        · rw [h1]; exact (h.wr hx).2.2
      · exact puts_rows h ok i
    · exact puts_rows h ok i
theorem puts_val (h : GoodDev g d) (ok : Nat → Bool) (n : Nat) (hn : n < d.safe.length) : ∀ i, (putsTo ok d i)[n]? = some (valTo ok d n i)
  | 0 => by simp [putsTo, valTo, hn]
  | i + 1 => by
    have ih := puts_val h ok n hn i
    unfold putsTo valTo
    split
    · rename_i x hx
      obtain ⟨h1, h2, h3⟩ := h.wr hx
      cases hok : ok i with
      | false => simpa using ih
      | true =>
        simp only [if_true, Bool.true_and, decide_eq_true_eq]
        by_cases e : x.at_ = (n : Int)
        · rw [if_pos e]
          have : x.at_.toNat = n := by omega
          rw [this, List.getElem?_set_self (by rw [puts_len]; exact hn)]
        · rw [if_neg e, List.getElem?_set_ne (by omega)]
          exact ih
    · exact ih
theorem val_len (h : GoodDev g d) (ok : Nat → Bool) (n : Nat) (hn : n < d.safe.length) (i : Nat) : (valTo ok d n i).length = 64 := puts_rows h ok i _ (List.mem_of_getElem? (puts_val h ok n hn i))
theorem spent_fuel (h1 : -1 ≤ d.fuel) (h2 : d.fuel ≤ 1048576) : -1 ≤ (spent d).fuel ∧ (spent d).fuel ≤ 1048576 := by
  show -1 ≤ (if 0 < d.fuel then d.fuel - 1 else d.fuel) ∧ (if 0 < d.fuel then d.fuel - 1 else d.fuel) ≤ 1048576
  split <;> omega
theorem good_spent (h : GoodDev g d) : GoodDev g (spent d) :=
  ⟨h.safe, h.rows, h.most, h.cache, h.many, h.vols, (spent_fuel h.f1 h.f2).1, (spent_fuel h.f1 h.f2).2⟩
theorem putErr_zero {a : Int} {n : Nat} (h : putErr d a n = 0) : 0 ≤ a ∧ a < d.safe.length ∧ n ≤ 64 ∧ d.cache.length ≠ 2000 ∧ d.fuel ≠ 0 := by
  unfold putErr at h
  split at h
  · cases h
  · split at h
    · cases h
    · split at h
      · cases h
      · split at h
        · cases h
        · omega
theorem good_put (h : GoodDev g d) {a : Int} {bs : List UInt8} (he : putErr d a bs.length = 0) : GoodDev g (putDev d a bs) := by
  obtain ⟨h1, h2, h3, h4, h5⟩ := putErr_zero he
  refine ⟨h.safe, h.rows, ?_, ?_, h.many, h.vols, (spent_fuel h.f1 h.f2).1, (spent_fuel h.f1 h.f2).2⟩
  · have := h.most
    show (d.cache ++ [_]).length ≤ 2000
    simp; omega
  · intro x hx
    have hx' : x ∈ d.cache ++ [⟨a, sec bs⟩] := hx
    rcases List.mem_append.1 hx' with hx' | hx'
    · exact h.cache x hx'
    · simp at hx'
      subst hx'
      show wBad a d.safe.length (sec bs).length = false
      rw [sec_len bs h3]
      simp [wBad]; omega
theorem good_puts (h : GoodDev g d) (ok : Nat → Bool) (i : Nat) (V : List Vol) (f : Int) (hV : (V.length : Int) ≤ g.volumes) (hv : ∀ x ∈ V, vBad x.data.length x.synced x.gone g.volume = false) (h1 : -1 ≤ f) (h2 : f ≤ 1048576) : GoodDev g ⟨putsTo ok d i, [], V, f⟩ := by
  refine ⟨?_, puts_rows h ok i, Nat.zero_le _, fun x hx => (by cases hx), hV, hv, h1, h2⟩
  show ((putsTo ok d i).length : Int) = _
  rw [puts_len]; exact h.safe
theorem good_flush (h : GoodDev g d) : GoodDev g (flushDev d) := good_puts h _ _ _ _ h.many h.vols (spent_fuel h.f1 h.f2).1 (spent_fuel h.f1 h.f2).2
theorem volCut_good {t m : Int} (ht : 0 ≤ t) {x : Vol} (hx : vBad x.data.length x.synced x.gone m = false) : vBad (volCut t x).data.length (volCut t x).synced (volCut t x).gone m = false := by
  obtain ⟨h1, h2, h3, h4⟩ := vBad_no hx
  refine vBad_mk ?_ ?_ ?_ ?_
  · show ((x.data.take _).length : Int) ≤ m
    rw [List.length_take]; omega
  · show 0 ≤ x.synced + min t _
    omega
  · show x.synced + min t _ ≤ ((x.data.take _).length : Int)
    rw [List.length_take]; omega
  · intro hg
    show (x.data.take _).length = 0
    rw [List.length_take]
    have := h4 hg; omega
theorem good_crash (h : GoodDev g d) {keep : List Bool} {t : Int} (ht : 0 ≤ t) : GoodDev g (crashDev d keep t) := by
  refine good_puts h _ _ _ _ ?_ ?_ (by decide) (by decide)
  · rw [List.length_map]; exact h.many
  · intro x hx
    obtain ⟨y, hy, rfl⟩ := List.mem_map.1 hx
    exact volCut_good ht (h.vols y hy)
theorem good_mark (h : GoodDev g d) : GoodDev g (markDev d) := by
  refine ⟨h.safe, h.rows, h.most, h.cache, ?_, ?_, (spent_fuel h.f1 h.f2).1, (spent_fuel h.f1 h.f2).2⟩
  · show ((d.vols.map _).length : Int) ≤ _
    rw [List.length_map]; exact h.many
  · intro x hx
    obtain ⟨y, hy, rfl⟩ := List.mem_map.1 (show x ∈ d.vols.map _ from hx)
    obtain ⟨h1, h2, h3, h4⟩ := vBad_no (h.vols y hy)
    exact vBad_mk h1 (by show (0 : Int) ≤ (y.data.length : Int); omega) (Int.le_refl _) h4
theorem good_arm (h : GoodDev g d) {f : Int} (h1 : -1 ≤ f) (h2 : f ≤ 1048576) : GoodDev g { d with fuel := f } := ⟨h.safe, h.rows, h.most, h.cache, h.many, h.vols, h1, h2⟩
theorem appErr_zero {v : Int} {n : Nat} (h : appErr g d v n = 0) : (appFresh g d v = true ∨ volOk d v = true) ∧ (appLen g d v n : Int) ≤ g.volume ∧ d.fuel ≠ 0 := by
  unfold appErr at h
  split at h
  · cases h
  · split at h
    · cases h
    · split at h
      · cases h
      · rename_i h1 h2 h3
        refine ⟨?_, by omega, h3⟩
        cases h4 : appFresh g d v <;> cases h5 : volOk d v <;> simp_all
theorem good_app (h : GoodDev g d) {v : Int} {bs : List UInt8} (he : appErr g d v bs.length = 0) : GoodDev g (appDev g d v bs) := by
  obtain ⟨h1, h2, h3⟩ := appErr_zero he
  unfold appDev
  unfold appLen at h2
  cases hf : appFresh g d v with
  | true =>
    rw [hf] at h2
    simp only [if_true, Nat.zero_add] at h2
    simp only [appFresh, Bool.and_eq_true, decide_eq_true_eq] at hf
    refine ⟨h.safe, h.rows, h.most, h.cache, ?_, ?_, (spent_fuel h.f1 h.f2).1, (spent_fuel h.f1 h.f2).2⟩
    · show ((d.vols ++ [_]).length : Int) ≤ g.volumes
      simp; omega
    · intro x hx
      rcases List.mem_append.1 (show x ∈ d.vols ++ [_] from hx) with hx | hx
      · exact h.vols x hx
      · simp at hx
        subst hx
        exact vBad_mk h2 (by simp) (by simp) (by simp)
  | false =>
    rw [hf] at h1 h2
    simp only [Bool.false_eq_true, false_or, if_false] at h1 h2
    obtain ⟨k, y, rfl, hy, hyg⟩ := volOk_in h1
    have hvl : volLen d (k : Int) = y.data.length := by simp [volLen, hy]
    rw [hvl] at h2
    obtain ⟨q1, q2, q3, q4⟩ := h.vol hy
    have e : (match d.vols[(k : Int).toNat]? with | some x => d.vols.set (k : Int).toNat ⟨x.data ++ bs, x.synced, x.gone⟩ | none => d.vols) = d.vols.set k ⟨y.data ++ bs, y.synced, y.gone⟩ := by
      simp only [Int.toNat_natCast, hy]
    simp only [Bool.false_eq_true, if_false, e]
    refine ⟨h.safe, h.rows, h.most, h.cache, ?_, ?_, (spent_fuel h.f1 h.f2).1, (spent_fuel h.f1 h.f2).2⟩
    · show ((d.vols.set _ _).length : Int) ≤ g.volumes
      rw [List.length_set]; exact h.many
    · intro x hx
      rcases List.mem_or_eq_of_mem_set (show x ∈ d.vols.set _ _ from hx) with hx | hx
      · exact h.vols x hx
      · subst hx
        refine vBad_mk ?_ q2 ?_ ?_
        · show ((y.data ++ bs).length : Int) ≤ g.volume
          simp; omega
        · show y.synced ≤ ((y.data ++ bs).length : Int)
          simp; omega
        · show y.gone = true → _
          rw [hyg]; simp
end
/-! ### what is read where -/
section
variable {g : Geo} {d : Dev}
theorem valTo_app (ok : Nat → Bool) (d : Dev) (x : Wr) (n : Nat) (d' : Dev) (hs : d'.safe = d.safe) (hc : d'.cache = d.cache ++ [x]) : ∀ i, i ≤ d.cache.length → valTo ok d' n i = valTo ok d n i
  | 0, _ => by simp [valTo, hs]
  | i + 1, hi => by
    have : d'.cache[i]? = d.cache[i]? := by rw [hc, List.getElem?_append_left (by omega)]
    unfold valTo
    rw [this, valTo_app ok d x n d' hs hc i (by omega)]
theorem content_put (d : Dev) (a : Int) (bs : List UInt8) (n : Nat) : content (putDev d a bs) n = if a = (n : Int) then sec bs else content d n := by
  unfold content
  have hl : (putDev d a bs).cache.length = d.cache.length + 1 := by simp [putDev]
  rw [hl, valTo]
  have : (putDev d a bs).cache[d.cache.length]? = some ⟨a, sec bs⟩ := by simp [putDev]
  rw [this]
  simp only [all_, Bool.true_and, decide_eq_true_eq]
  rw [valTo_app all_ d ⟨a, sec bs⟩ n (putDev d a bs) rfl rfl _ (Nat.le_refl _)]
theorem content_spent (d : Dev) (n : Nat) : content (spent d) n = content d n := by
  unfold content
  have : ∀ i, valTo all_ (spent d) n i = valTo all_ d n i := by
    intro i
    induction i with
    | zero => rfl
    | succ i ih => unfold valTo; rw [ih]; rfl
  exact this _
theorem content_flush (h : GoodDev g d) (n : Nat) (hn : n < d.safe.length) : content (flushDev d) n = content d n := by
  show (putsTo all_ d d.cache.length).getD n [] = _
  rw [List.getD_eq_getElem?_getD, puts_val h all_ n hn]
  rfl
theorem content_crash (h : GoodDev g d) (keep : List Bool) (t : Int) (n : Nat) (hn : n < d.safe.length) : content (crashDev d keep t) n = valTo (fun i => keep.getD i false) d n d.cache.length := by
  show (putsTo _ d d.cache.length).getD n [] = _
  rw [List.getD_eq_getElem?_getD, puts_val h _ n hn]
  rfl
end
end Go.Proofs.Ytomfladifefomaa
