/- The model of devices; Put, Flush, Arm, Fetch. Conditions: as each law states them. -/
import Derived.Test.YtomfladifefomaaB3
import Derived.Test.YtomfladifefomaaA3
import Derived.Test.YtomfladifefomaaTy
-- Dm: The model of devices: what each call makes of them; that they stay such that may be; what reads where. Conditions: none.
namespace Go.Proofs.Ytomfladifefomaa
open Go.RowKit
set_option linter.unusedSimpArgs false
/-- what a sector holds -/
def sec (bs : List UInt8) : List UInt8 := bs ++ List.replicate (64 - bs.length) 0
theorem sec_len (bs : List UInt8) (h : bs.length ≤ 64) : (sec bs).length = 64 := by simp [sec]; omega
theorem sec_enc (bs : List UInt8) : (sec bs).map enc8 = bs.map enc8 ++ List.replicate (64 - bs.length) (.int .u8 0) := by simp [sec, enc8]
def putErr (d : Dev) (a : Int) (n : Nat) : Int := if a < 0 ∨ (d.safe.length : Int) ≤ a then 2 else if 64 < n then 1 else if d.cache.length = 2000 then 8 else if d.fuel = 0 then 10 else 0
def putDev (d : Dev) (a : Int) (bs : List UInt8) : Dev := { spent d with cache := d.cache ++ [⟨a, sec bs⟩] }
def downErr (d : Dev) : Int := if d.fuel = 0 then 10 else 0
/-- the disk, when of the first i of those that were put the ones that are named are safe -/
def putsTo (ok : Nat → Bool) (d : Dev) : Nat → List (List UInt8)
  | 0 => d.safe
  | i + 1 => match d.cache[i]? with
    | some x => if ok i then (putsTo ok d i).set x.at_.toNat x.data else putsTo ok d i
    | none => putsTo ok d i
/-- what a sector reads then -/
def valTo (ok : Nat → Bool) (d : Dev) (n : Nat) : Nat → List UInt8
  | 0 => d.safe.getD n []
  | i + 1 => match d.cache[i]? with
    | some x => if ok i && decide (x.at_ = (n : Int)) then x.data else valTo ok d n i
    | none => valTo ok d n i
def all_ (_ : Nat) : Bool := true
def flushDev (d : Dev) : Dev := { spent d with safe := putsTo all_ d d.cache.length, cache := [] }
def content (d : Dev) (n : Nat) : List UInt8 := valTo all_ d n d.cache.length
def volCut (tail : Int) (x : Vol) : Vol := ⟨x.data.take (x.synced + min tail ((x.data.length : Int) - x.synced)).toNat, x.synced + min tail ((x.data.length : Int) - x.synced), x.gone⟩
def crashDev (d : Dev) (keep : List Bool) (tail : Int) : Dev := ⟨putsTo (fun i => keep.getD i false) d d.cache.length, [], d.vols.map (volCut tail), -1⟩
def markDev (d : Dev) : Dev := { spent d with vols := d.vols.map fun x => ⟨x.data, (x.data.length : Int), x.gone⟩ }
def appFresh (g : Geo) (d : Dev) (v : Int) : Bool := decide (v = (d.vols.length : Int)) && decide (v < g.volumes)
def volLen (d : Dev) (v : Int) : Nat := match d.vols[v.toNat]? with | some x => x.data.length | none => 0
def appLen (g : Geo) (d : Dev) (v : Int) (n : Nat) : Nat := (if appFresh g d v then 0 else volLen d v) + n
def appErr (g : Geo) (d : Dev) (v : Int) (n : Nat) : Int :=
  if appFresh g d v = false ∧ volOk d v = false then 6 else if g.volume < (appLen g d v n : Int) then 8 else if d.fuel = 0 then 10 else 0
def appDev (g : Geo) (d : Dev) (v : Int) (bs : List UInt8) : Dev :=
  if appFresh g d v then { spent d with vols := d.vols ++ [⟨bs, 0, false⟩] } else { spent d with vols := match d.vols[v.toNat]? with | some x => d.vols.set v.toNat ⟨x.data ++ bs, x.synced, x.gone⟩ | none => d.vols }
def fetErr (d : Dev) (v a n : Int) : Int := if volOk d v = false then 6 else if a < 0 ∨ n < 0 ∨ (volLen d v : Int) < a + n then 2 else 0
def fetBytes (d : Dev) (v a n : Int) : List UInt8 := match d.vols[v.toNat]? with | some x => (x.data.drop a.toNat).take n.toNat | none => []

theorem puts_len (ok : Nat → Bool) (d : Dev) : ∀ i, (putsTo ok d i).length = d.safe.length
  | 0 => rfl
  | i + 1 => by
    unfold putsTo
    split
    · split
      · rw [List.length_set, puts_len ok d i]
      · exact puts_len ok d i
    · exact puts_len ok d i
theorem wBad_no {a : Int} {n m : Nat} (h : wBad a n m = false) : 0 ≤ a ∧ a < n ∧ m = 64 := by
  simp [wBad] at h; omega
theorem vBad_no {n : Nat} {s : Int} {g : Bool} {m : Int} (h : vBad n s g m = false) : (n : Int) ≤ m ∧ 0 ≤ s ∧ s ≤ n ∧ (g = true → n = 0) := by
  simp [vBad] at h
  obtain ⟨⟨⟨h1, h2⟩, h3⟩, h4⟩ := h
  exact ⟨h1, h2, h3, h4⟩
theorem vBad_mk {n : Nat} {s : Int} {g : Bool} {m : Int} (h1 : (n : Int) ≤ m) (h2 : 0 ≤ s) (h3 : s ≤ n) (h4 : g = true → n = 0) : vBad n s g m = false := by
  simp [vBad]
  exact ⟨⟨⟨h1, h2⟩, h3⟩, h4⟩
section
variable {g : Geo} {d : Dev}
theorem GoodDev.wr (h : GoodDev g d) {i : Nat} {x : Wr} (hx : d.cache[i]? = some x) : 0 ≤ x.at_ ∧ x.at_ < d.safe.length ∧ x.data.length = 64 := wBad_no (h.cache x (List.mem_of_getElem? hx))
theorem GoodDev.vol (h : GoodDev g d) {i : Nat} {x : Vol} (hx : d.vols[i]? = some x) : (x.data.length : Int) ≤ g.volume ∧ 0 ≤ x.synced ∧ x.synced ≤ x.data.length ∧ (x.gone = true → x.data.length = 0) := vBad_no (h.vols x (List.mem_of_getElem? hx))
theorem puts_rows (h : GoodDev g d) (ok : Nat → Bool) : ∀ i, ∀ s ∈ putsTo ok d i, s.length = 64
  | 0 => h.rows
  | i + 1 => by
    unfold putsTo
    split
    · rename_i x hx
      split
      · intro s hs
        rcases List.mem_or_eq_of_mem_set hs with h1 | h1
        · exact puts_rows h ok i s h1
        · rw [h1]; exact (h.wr hx).2.2
      · exact puts_rows h ok i
    · exact puts_rows h ok i
theorem puts_val (h : GoodDev g d) (ok : Nat → Bool) (n : Nat) (hn : n < d.safe.length) : ∀ i, (putsTo ok d i)[n]? = some (valTo ok d n i)
  | 0 => by simp [putsTo, valTo, hn]
  | i + 1 => by
    have ih := puts_val h ok n hn i
    unfold putsTo valTo
    split
    · rename_i x hx
      obtain ⟨h1, h2, h3⟩ := h.wr hx
      cases hok : ok i with
      | false => simpa using ih
      | true =>
        simp only [if_true, Bool.true_and, decide_eq_true_eq]
        by_cases e : x.at_ = (n : Int)
        · rw [if_pos e]
          have : x.at_.toNat = n := by omega
          rw [this, List.getElem?_set_self (by rw [puts_len]; exact hn)]
        · rw [if_neg e, List.getElem?_set_ne (by omega)]
          exact ih
    · exact ih
theorem val_len (h : GoodDev g d) (ok : Nat → Bool) (n : Nat) (hn : n < d.safe.length) (i : Nat) : (valTo ok d n i).length = 64 := puts_rows h ok i _ (List.mem_of_getElem? (puts_val h ok n hn i))
theorem spent_fuel (h1 : -1 ≤ d.fuel) (h2 : d.fuel ≤ 1048576) : -1 ≤ (spent d).fuel ∧ (spent d).fuel ≤ 1048576 := by
  show -1 ≤ (if 0 < d.fuel then d.fuel - 1 else d.fuel) ∧ (if 0 < d.fuel then d.fuel - 1 else d.fuel) ≤ 1048576
  split <;> omega
theorem good_spent (h : GoodDev g d) : GoodDev g (spent d) :=
  ⟨h.safe, h.rows, h.most, h.cache, h.many, h.vols, (spent_fuel h.f1 h.f2).1, (spent_fuel h.f1 h.f2).2⟩
theorem putErr_zero {a : Int} {n : Nat} (h : putErr d a n = 0) : 0 ≤ a ∧ a < d.safe.length ∧ n ≤ 64 ∧ d.cache.length ≠ 2000 ∧ d.fuel ≠ 0 := by
  unfold putErr at h
  split at h
  · cases h
  · split at h
    · cases h
    · split at h
      · cases h
      · split at h
        · cases h
        · omega
theorem good_put (h : GoodDev g d) {a : Int} {bs : List UInt8} (he : putErr d a bs.length = 0) : GoodDev g (putDev d a bs) := by
  obtain ⟨h1, h2, h3, h4, h5⟩ := putErr_zero he
  refine ⟨h.safe, h.rows, ?_, ?_, h.many, h.vols, (spent_fuel h.f1 h.f2).1, (spent_fuel h.f1 h.f2).2⟩
  · have := h.most
    show (d.cache ++ [_]).length ≤ 2000
    simp; omega
  · intro x hx
    have hx' : x ∈ d.cache ++ [⟨a, sec bs⟩] := hx
    rcases List.mem_append.1 hx' with hx' | hx'
    · exact h.cache x hx'
    · simp at hx'
      subst hx'
      show wBad a d.safe.length (sec bs).length = false
      rw [sec_len bs h3]
      simp [wBad]; omega
theorem good_puts (h : GoodDev g d) (ok : Nat → Bool) (i : Nat) (V : List Vol) (f : Int) (hV : (V.length : Int) ≤ g.volumes) (hv : ∀ x ∈ V, vBad x.data.length x.synced x.gone g.volume = false) (h1 : -1 ≤ f) (h2 : f ≤ 1048576) : GoodDev g ⟨putsTo ok d i, [], V, f⟩ := by
  refine ⟨?_, puts_rows h ok i, Nat.zero_le _, fun x hx => (by cases hx), hV, hv, h1, h2⟩
  show ((putsTo ok d i).length : Int) = _
  rw [puts_len]; exact h.safe
theorem good_flush (h : GoodDev g d) : GoodDev g (flushDev d) := good_puts h _ _ _ _ h.many h.vols (spent_fuel h.f1 h.f2).1 (spent_fuel h.f1 h.f2).2
theorem volCut_good {t m : Int} (ht : 0 ≤ t) {x : Vol} (hx : vBad x.data.length x.synced x.gone m = false) : vBad (volCut t x).data.length (volCut t x).synced (volCut t x).gone m = false := by
  obtain ⟨h1, h2, h3, h4⟩ := vBad_no hx
  refine vBad_mk ?_ ?_ ?_ ?_
  · show ((x.data.take _).length : Int) ≤ m
    rw [List.length_take]; omega
  · show 0 ≤ x.synced + min t _
    omega
  · show x.synced + min t _ ≤ ((x.data.take _).length : Int)
    rw [List.length_take]; omega
  · intro hg
    show (x.data.take _).length = 0
    rw [List.length_take]
    have := h4 hg; omega
theorem good_crash (h : GoodDev g d) {keep : List Bool} {t : Int} (ht : 0 ≤ t) : GoodDev g (crashDev d keep t) := by
  refine good_puts h _ _ _ _ ?_ ?_ (by decide) (by decide)
  · rw [List.length_map]; exact h.many
  · intro x hx
    obtain ⟨y, hy, rfl⟩ := List.mem_map.1 hx
    exact volCut_good ht (h.vols y hy)
theorem good_mark (h : GoodDev g d) : GoodDev g (markDev d) := by
  refine ⟨h.safe, h.rows, h.most, h.cache, ?_, ?_, (spent_fuel h.f1 h.f2).1, (spent_fuel h.f1 h.f2).2⟩
  · show ((d.vols.map _).length : Int) ≤ _
    rw [List.length_map]; exact h.many
  · intro x hx
    obtain ⟨y, hy, rfl⟩ := List.mem_map.1 (show x ∈ d.vols.map _ from hx)
    obtain ⟨h1, h2, h3, h4⟩ := vBad_no (h.vols y hy)
    exact vBad_mk h1 (by show (0 : Int) ≤ (y.data.length : Int); omega) (Int.le_refl _) h4
theorem good_arm (h : GoodDev g d) {f : Int} (h1 : -1 ≤ f) (h2 : f ≤ 1048576) : GoodDev g { d with fuel := f } := ⟨h.safe, h.rows, h.most, h.cache, h.many, h.vols, h1, h2⟩
theorem appErr_zero {v : Int} {n : Nat} (h : appErr g d v n = 0) : (appFresh g d v = true ∨ volOk d v = true) ∧ (appLen g d v n : Int) ≤ g.volume ∧ d.fuel ≠ 0 := by
  unfold appErr at h
  split at h
  · cases h
  · split at h
    · cases h
    · split at h
      · cases h
      · rename_i h1 h2 h3
        refine ⟨?_, by omega, h3⟩
        cases h4 : appFresh g d v <;> cases h5 : volOk d v <;> simp_all
theorem good_app (h : GoodDev g d) {v : Int} {bs : List UInt8} (he : appErr g d v bs.length = 0) : GoodDev g (appDev g d v bs) := by
  obtain ⟨h1, h2, h3⟩ := appErr_zero he
  unfold appDev
  unfold appLen at h2
  cases hf : appFresh g d v with
  | true =>
    rw [hf] at h2
    simp only [if_true, Nat.zero_add] at h2
    simp only [appFresh, Bool.and_eq_true, decide_eq_true_eq] at hf
    refine ⟨h.safe, h.rows, h.most, h.cache, ?_, ?_, (spent_fuel h.f1 h.f2).1, (spent_fuel h.f1 h.f2).2⟩
    · show ((d.vols ++ [_]).length : Int) ≤ g.volumes
      simp; omega
    · intro x hx
      rcases List.mem_append.1 (show x ∈ d.vols ++ [_] from hx) with hx | hx
      · exact h.vols x hx
      · simp at hx
        subst hx
        exact vBad_mk h2 (by simp) (by simp) (by simp)
  | false =>
    rw [hf] at h1 h2
    simp only [Bool.false_eq_true, false_or, if_false] at h1 h2
    obtain ⟨k, y, rfl, hy, hyg⟩ := volOk_in h1
    have hvl : volLen d (k : Int) = y.data.length := by simp [volLen, hy]
    rw [hvl] at h2
    obtain ⟨q1, q2, q3, q4⟩ := h.vol hy
    have e : (match d.vols[(k : Int).toNat]? with | some x => d.vols.set (k : Int).toNat ⟨x.data ++ bs, x.synced, x.gone⟩ | none => d.vols) = d.vols.set k ⟨y.data ++ bs, y.synced, y.gone⟩ := by
      simp only [Int.toNat_natCast, hy]
    simp only [Bool.false_eq_true, if_false, e]
    refine ⟨h.safe, h.rows, h.most, h.cache, ?_, ?_, (spent_fuel h.f1 h.f2).1, (spent_fuel h.f1 h.f2).2⟩
    · show ((d.vols.set _ _).length : Int) ≤ g.volumes
      rw [List.length_set]; exact h.many
    · intro x hx
      rcases List.mem_or_eq_of_mem_set (show x ∈ d.vols.set _ _ from hx) with hx | hx
      · exact h.vols x hx
      · subst hx
        refine vBad_mk ?_ q2 ?_ ?_
        · show ((y.data ++ bs).length : Int) ≤ g.volume
          simp; omega
        · show y.synced ≤ ((y.data ++ bs).length : Int)
          simp; omega
        · show y.gone = true → _
          rw [hyg]; simp
end
/-! ### what is read where -/
section
variable {g : Geo} {d : Dev}
theorem valTo_app (ok : Nat → Bool) (d : Dev) (x : Wr) (n : Nat) (d' : Dev) (hs : d'.safe = d.safe) (hc : d'.cache = d.cache ++ [x]) : ∀ i, i ≤ d.cache.length → valTo ok d' n i = valTo ok d n i
  | 0, _ => by simp [valTo, hs]
  | i + 1, hi => by
    have : d'.cache[i]? = d.cache[i]? := by rw [hc, List.getElem?_append_left (by omega)]
    unfold valTo
    rw [this, valTo_app ok d x n d' hs hc i (by omega)]
theorem content_put (d : Dev) (a : Int) (bs : List UInt8) (n : Nat) : content (putDev d a bs) n = if a = (n : Int) then sec bs else content d n := by
  unfold content
  have hl : (putDev d a bs).cache.length = d.cache.length + 1 := by simp [putDev]
  rw [hl, valTo]
  have : (putDev d a bs).cache[d.cache.length]? = some ⟨a, sec bs⟩ := by simp [putDev]
  rw [this]
  simp only [all_, Bool.true_and, decide_eq_true_eq]
  rw [valTo_app all_ d ⟨a, sec bs⟩ n (putDev d a bs) rfl rfl _ (Nat.le_refl _)]
theorem content_spent (d : Dev) (n : Nat) : content (spent d) n = content d n := by
  unfold content
  have : ∀ i, valTo all_ (spent d) n i = valTo all_ d n i := by
    intro i
    induction i with
    | zero => rfl
    | succ i ih => unfold valTo; rw [ih]; rfl
  exact this _
theorem content_flush (h : GoodDev g d) (n : Nat) (hn : n < d.safe.length) : content (flushDev d) n = content d n := by
  show (putsTo all_ d d.cache.length).getD n [] = _
  rw [List.getD_eq_getElem?_getD, puts_val h all_ n hn]
  rfl
theorem content_crash (h : GoodDev g d) (keep : List Bool) (t : Int) (n : Nat) (hn : n < d.safe.length) : content (crashDev d keep t) n = valTo (fun i => keep.getD i false) d n d.cache.length := by
  show (putsTo _ d d.cache.length).getD n [] = _
  rw [List.getD_eq_getElem?_getD, puts_val h _ n hn]
  rfl
end
end Go.Proofs.Ytomfladifefomaa
-- Dg: Devices over worlds in which somebody writes: readings that stay; what own and spend hand over. Conditions: as each law states them.
namespace Go.Proofs.Ytomfladifefomaa
open Go.RowKit
set_option linter.unusedSimpArgs false
def ByG (G : GW) (v : Value) (bs : List UInt8) : Prop := Byt 5 G v bs
theorem ByG.mono {G G' : GW} {v : Value} {bs : List UInt8} (h : ByG G v bs) (hl : G.Le G') : ByG G' v bs := Sl.mono h hl
theorem ByG.r {G : GW} {v : Value} {bs : List UInt8} (h : ByG G v bs) : BytesR G.w v bs := Sl.tsl h
theorem ByG.form {G : GW} {v : Value} {bs : List UInt8} (h : ByG G v bs) : ∃ A c, v = .slice A bs.length c ∧ bs.length ≤ c ∧ c ≤ maxLen := let ⟨A, c, e, h1, h2, _⟩ := h; ⟨A, c, e, h1, h2⟩
def RowG (G : GW) (x : List UInt8) (cs : List Value) : Prop := ∃ u, cs = [u] ∧ ByG G u x
def WrG (G : GW) (x : Wr) (cs : List Value) : Prop := ∃ u, cs = [.int .i64 x.at_, u] ∧ ByG G u x.data
def VolG (G : GW) (x : Vol) (cs : List Value) : Prop := ∃ u, cs = [u, .int .i64 x.synced, .bool x.gone] ∧ ByG G u x.data
theorem rowG_mono : MonoR RowG := fun _ _ _ _ hl ⟨u, e, h⟩ => ⟨u, e, h.mono hl⟩
theorem wrG_mono : MonoR WrG := fun _ _ _ _ hl ⟨u, e, h⟩ => ⟨u, e, h.mono hl⟩
theorem volG_mono : MonoR VolG := fun _ _ _ _ hl ⟨u, e, h⟩ => ⟨u, e, h.mono hl⟩
def SafG (G : GW) (v : Value) (l : List (List UInt8)) : Prop := Sq RowG 23 1 G v l
def CacG (G : GW) (v : Value) (l : List Wr) : Prop := Sq WrG 61 2 G v l
def VosG (G : GW) (v : Value) (l : List Vol) : Prop := Sq VolG 104 3 G v l
def DevG (G : GW) (dv : Value) (d : Dev) : Prop := ∃ s c v, dv = .agg #[s, c, v, .int .i64 d.fuel] ∧ SafG G s d.safe ∧ CacG G c d.cache ∧ VosG G v d.vols
theorem DevG.mono {G G' : GW} {dv : Value} {d : Dev} (h : DevG G dv d) (hl : G.Le G') : DevG G' dv d := by
  obtain ⟨s, c, v, rfl, h1, h2, h3⟩ := h
  exact ⟨s, c, v, rfl, Sq.mono h1 rowG_mono hl, Sq.mono h2 wrG_mono hl, Sq.mono h3 volG_mono hl⟩
theorem sq_seq {α : Type} {R : GW → α → List Value → Prop} {R' : World → α → List Value → Prop} {G : GW} {t k : Nat} {v : Value} {l : List α} (h : Sq R t k G v l) (hr : ∀ x cs, R G x cs → R' G.w x cs) : SeqR R' t k G.w v l := by
  obtain ⟨css, he, hs⟩ := h
  exact ⟨css, ⟨he.1, he.2.1, fun i cs x h1 h2 => hr _ _ (he.2.2 i cs x h1 h2)⟩, hs.tsl⟩
theorem DevG.r {G : GW} {dv : Value} {d : Dev} (h : DevG G dv d) : DevR G.w dv d := by
  obtain ⟨s, c, v, rfl, h1, h2, h3⟩ := h
  exact ⟨s, c, v, rfl, sq_seq h1 fun _ _ ⟨u, e, h⟩ => ⟨u, e, h.r⟩, sq_seq h2 fun _ _ ⟨u, e, h⟩ => ⟨u, e, h.r⟩, sq_seq h3 fun _ _ ⟨u, e, h⟩ => ⟨u, e, h.r⟩⟩
theorem DevG.form {G : GW} {dv : Value} {d : Dev} (h : DevG G dv d) : ∃ A1 c1 A2 c2 A3 c3, dv = .agg #[.slice A1 d.safe.length c1, .slice A2 d.cache.length c2, .slice A3 d.vols.length c3, .int .i64 d.fuel] ∧
    SafG G (.slice A1 d.safe.length c1) d.safe ∧ CacG G (.slice A2 d.cache.length c2) d.cache ∧ VosG G (.slice A3 d.vols.length c3) d.vols := by
  obtain ⟨s', c', v', rfl, h1, h2, h3⟩ := h
  obtain ⟨A1, c1, rfl, _⟩ := Sq.form h1
  obtain ⟨A2, c2, rfl, _⟩ := Sq.form h2
  obtain ⟨A3, c3, rfl, _⟩ := Sq.form h3
  exact ⟨A1, c1, A2, c2, A3, c3, rfl, h1, h2, h3⟩
theorem sl_of {X : TypeId → Bool} {G : GW} {t k n : Nat} {v : Value} {cells : List Value} (h : TSl G.w t k n v cells) (hT : Tid X G) (hx : X t = true) : Sl G t k n v cells := by
  obtain ⟨A, c, rfl, h1, h2, h3, h4⟩ := h
  refine ⟨A, c, rfl, h1, h2, h3, fun hn => ?_⟩
  obtain ⟨g, o, cur, fr, e, hb, hc⟩ := h4 hn
  exact ⟨g, o, cur, fr, e, (fun hm => by have := hT g hm cur _ fr hb; rw [hx] at this; cases this), hb, hc⟩
theorem sq_of {X : TypeId → Bool} {α : Type} {R : GW → α → List Value → Prop} {R' : World → α → List Value → Prop} {G : GW} {t k : Nat} {v : Value} {l : List α} (h : SeqR R' t k G.w v l) (hr : ∀ x cs, R' G.w x cs → R G x cs) (hT : Tid X G) (hx : X t = true) : Sq R t k G v l := by
  obtain ⟨css, he, hs⟩ := h
  exact ⟨css, ⟨he.1, he.2.1, fun i cs x h1 h2 => hr _ _ (he.2.2 i cs x h1 h2)⟩, sl_of hs hT hx⟩
theorem DevG.of {G : GW} {dv : Value} {d : Dev} (h : DevR G.w dv d) (hT : Tid devX G) : DevG G dv d := by
  obtain ⟨s, c, v, rfl, h1, h2, h3⟩ := h
  have hb : ∀ u bs, BytesR G.w u bs → ByG G u bs := fun u bs h => sl_of h hT rfl
  exact ⟨s, c, v, rfl, sq_of h1 (fun _ _ ⟨u, e, h⟩ => ⟨u, e, hb _ _ h⟩) hT rfl, sq_of h2 (fun _ _ ⟨u, e, h⟩ => ⟨u, e, hb _ _ h⟩) hT rfl, sq_of h3 (fun _ _ ⟨u, e, h⟩ => ⟨u, e, hb _ _ h⟩) hT rfl⟩
/-- nobody writes bytes -/
def bX (t : TypeId) : Bool := t == 5
theorem bX_devX : ∀ t, bX t = true → devX t = true := fun t h => by
  have e : t = 5 := by simpa [bX] using h
  subst e; rfl
theorem sq_row {α : Type} {R : GW → α → List Value → Prop} {G G' : GW} {t k n : Nat} {v : Value} {css : List (List Value)} {l : List α} (he : ElG R k G css l) (hm : MonoR R) (hl : G.Le G') (hn : n = l.length) (hs : Sl G' t k n v css.flatten) : Sq R t k G' v l := by
  subst hn; exact ⟨css, he.mono hm hl, hs⟩
/-- what own hands over -/
def OwnT (d : Dev) (u : Value) (R : List Rw) (G : GW) : Prop := ∃ A1 k1 A2 k2 A3 k3 c1 c2 c3, u = .agg #[.slice A1 d.safe.length k1, .slice A2 d.cache.length k2, .slice A3 d.vols.length k3, .int .i64 d.fuel] ∧
  R = [⟨.slice A1 d.safe.length k1, 23, 1, d.safe.length, c1.flatten⟩, ⟨.slice A2 d.cache.length k2, 61, 2, d.cache.length, c2.flatten⟩, ⟨.slice A3 d.vols.length k3, 104, 3, d.vols.length, c3.flatten⟩] ∧
  ElG RowG 1 G c1 d.safe ∧ ElG WrG 2 G c2 d.cache ∧ ElG VolG 3 G c3 d.vols
theorem owns_type {w : World} {base t k n g : Nat} {v : Value} {xs : List Value} (h : w.ownsRow base t k v n xs) (hg : v.ownBlock = some g) : ∃ cur, w.heap[g]? = some (.cells cur t (0, 0)) := by
  rcases h.2 with ⟨e, _⟩ | ⟨g', cap, cur, e, _, hb, _⟩
  · rw [e] at hg; cases hg
  · rw [e] at hg; cases hg; exact ⟨cur, hb⟩
theorem owns_apart {w : World} {b1 b2 t1 t2 k1 k2 n1 n2 : Nat} {v1 v2 : Value} {x1 x2 : List Value} (h1 : w.ownsRow b1 t1 k1 v1 n1 x1) (h2 : w.ownsRow b2 t2 k2 v2 n2 x2) (ht : t1 ≠ t2) : ∀ k, v1.ownBlock = some k → v2.ownBlock ≠ some k := by
  intro k e1 e2
  obtain ⟨c1, g1⟩ := owns_type h1 e1
  obtain ⟨c2, g2⟩ := owns_type h2 e2
  rw [g1] at g2
  cases g2
  exact ht rfl
theorem tid_chg {X : TypeId → Bool} {G : GW} {w' : World} (hT : Tid X G) (hW : G.Wf) (hc : Chg Non G.w w') : Tid X ⟨G.M, w'⟩ := fun k hk cur t fr hb => hT k hk cur t fr ((hc.block k (hW k hk) id).symm.trans hb)
theorem own_rows {G : GW} {w' : World} {dv : Value} {d : Dev} (h : OwnDev G.w.heap.size w' dv d) (hT : Tid bX G) (hW : G.Wf) (hc : Chg Non G.w w') :
    ∃ R, (∀ r ∈ R, w'.ownsRow G.w.heap.size r.t r.k r.v r.n r.xs) ∧ RApart R ∧ OwnT d dv R ⟨fun k => G.M k ∨ ∃ r ∈ R, r.v.ownBlock = some k, w'⟩ := by
  obtain ⟨s, c, v, V, css, rfl, ⟨c1, e1, o1⟩, ⟨c2, e2, o2⟩, hk, hb, e3, o3, hp⟩ := h
  obtain ⟨A1, k1, rfl, _⟩ := ownsRow_form o1
  obtain ⟨A2, k2, rfl, _⟩ := ownsRow_form o2
  obtain ⟨A3, k3, rfl, _⟩ := ownsRow_form o3
  have o1' := ownsRow_keep o1 hk rfl
  have o2' := ownsRow_keep o2 hk rfl
  obtain ⟨R, hR⟩ : ∃ R : List Rw, R = [⟨.slice A1 d.safe.length k1, 23, 1, d.safe.length, c1.flatten⟩, ⟨.slice A2 d.cache.length k2, 61, 2, d.cache.length, c2.flatten⟩, ⟨.slice A3 d.vols.length k3, 104, 3, d.vols.length, css.flatten⟩] := ⟨_, rfl⟩
  have hown : ∀ r ∈ R, w'.ownsRow G.w.heap.size r.t r.k r.v r.n r.xs := by
    rw [hR]
    simp only [List.forall_mem_cons]
    exact ⟨o1', o2', o3, fun _ h => by cases h⟩
  have hTy : ∀ r ∈ R, bX r.t = false := by
    rw [hR]
    simp only [List.forall_mem_cons]
    exact ⟨rfl, rfl, rfl, fun _ h => by cases h⟩
  have hT' : Tid bX ⟨fun k => G.M k ∨ ∃ r ∈ R, r.v.ownBlock = some k, w'⟩ := by
    intro k hk cur t fr hb
    rcases hk with hk | ⟨r, hr, e⟩
    · exact tid_chg hT hW hc k hk cur t fr hb
    · obtain ⟨cur', hb'⟩ := owns_type (hown r hr) e
      have hb2 : w'.heap[k]? = some (.cells cur t fr) := hb
      rw [hb'] at hb2
      cases hb2
      exact hTy r hr
  have hby : ∀ u bs, BytesR w' u bs → ByG ⟨fun k => G.M k ∨ ∃ r ∈ R, r.v.ownBlock = some k, w'⟩ u bs := fun u bs h => sl_of (X := bX) (G := ⟨fun k => G.M k ∨ ∃ r ∈ R, r.v.ownBlock = some k, w'⟩) h hT' rfl
  refine ⟨R, hown, ?_, A1, k1, A2, k2, A3, k3, c1, c2, css, rfl, hR, ?_, ?_, ?_⟩
  · rw [hR]
    refine List.Pairwise.cons (fun r hr => ?_) (List.Pairwise.cons (fun r hr => ?_) (List.pairwise_singleton _ _))
    · simp only [List.mem_cons, List.not_mem_nil, or_false] at hr
      rcases hr with rfl | rfl
      · exact owns_apart o1' o2' (by decide)
      · exact owns_apart o1' o3 (by decide)
    · simp only [List.mem_cons, List.not_mem_nil, or_false] at hr
      subst hr
      exact owns_apart o2' o3 (by decide)
  · exact ⟨e1.1, e1.2.1, fun i cs x h1 h2 => let ⟨u, e, h⟩ := e1.2.2 i cs x h1 h2; ⟨u, e, hby _ _ (h.keep (X := diskX) rfl hk)⟩⟩
  · exact ⟨e2.1, e2.2.1, fun i cs x h1 h2 => let ⟨u, e, h⟩ := e2.2.2 i cs x h1 h2; ⟨u, e, hby _ _ (h.keep (X := diskX) rfl hk)⟩⟩
  · exact ⟨e3.1, e3.2.1, fun i cs x h1 h2 => let ⟨u, e, h⟩ := e3.2.2 i cs x h1 h2; ⟨u, e, hby _ _ (TSl.of_own h)⟩⟩
theorem own_does (d : Dev) (dv : Value) (G : GW) (h : DevG G dv d) (hT : Tid bX G) (hW : G.Wf) {g : Geo} (hg : GoodGeo g) (hd : GoodDev g d) :
    Calls Try.prog 62 #[dv] G.w (RetO G fun u R G' => OwnT d u R G') := by
  obtain ⟨l1, l2, l3, l4, l5, l6⟩ := hd.lens hg
  refine (own_any d dv G.w h.r l1 l2 l3 l4 l5 l6).mono ?_
  rintro e w' ⟨dv', rfl, ho, hb⟩
  obtain ⟨R, h1, h2, h3⟩ := own_rows ho hT hW (Chg.of_below hb)
  exact ⟨dv', R, rfl, h1, h2, h3, Chg.of_below hb⟩
theorem spend_does (g : Geo) (hg : GoodGeo g) (d : Dev) (hd : GoodDev g d) (hf : d.fuel ≠ 0) (dv : Value) (G : GW) (h : DevG G dv d) (hT : Tid bX G) (hW : G.Wf) :
    Calls Try.prog 60 #[geoV g, dv] G.w (RetO G fun v R G' => ∃ u, v = .tuple #[u, .int .i64 0] ∧ OwnT (spent d) u R G') := by
  refine (spend_ok g hg d hd hf dv G.w h.r).mono ?_
  rintro e w' ⟨dv', rfl, ho, hb⟩
  obtain ⟨R, h1, h2, h3⟩ := own_rows ho hT hW (Chg.of_below hb)
  exact ⟨_, R, rfl, h1, h2, ⟨dv', rfl, h3⟩, Chg.of_below hb⟩
/-- devices, or an error -/
def DevE (G : GW) (v : Value) (err : Int) (d : Dev) : Prop := ∃ dv, v = .tuple #[dv, .int .i64 err] ∧ (err = 0 → DevG G dv d) ∧ (err ≠ 0 → dv = zeroDev)
end Go.Proofs.Ytomfladifefomaa
-- D1: dev.Check, dev.sector, dev.Put, over devices that may be: total contracts. Conditions: as each law states them.
namespace Go.Proofs.Ytomfladifefomaa
open Go.RowKit
set_option linter.unusedSimpArgs false
theorem sector_ret (bv : Value) (bs : List UInt8) (G0 : GW) (hW : G0.Wf) (hb : ByG G0 bv bs) (hl : bs.length ≤ 64) :
    Calls Try.prog 70 #[bv] G0.w (Ret G0 fun v G => ∃ A c, v = .slice A 64 c ∧ ByG G v (sec bs)) := by
  obtain ⟨A, c, rfl, _, _⟩ := hb.form
  refine enter (G := G0) (n := 9) 3000 hW Try.func70 rfl Try.ntmps70 (by simp) ?_
  simp only [go_sem, Nat.reduceAdd, Nat.reduceSub, Nat.reduceMul, Nat.reduceEqDiff, Nat.reduceLT, Nat.reduceLeDiff, Nat.reduceBEq, Nat.reduceBNe, Int.reduceLT, Int.reduceLE, Int.reduceEq, Int.reduceAdd, Int.reduceSub, Int.reduceNeg, decide_true, decide_false, Bool.not_true, Bool.not_false, cond_true, cond_false, beq_self_eq_true, and_self, ne_eq, not_true_eq_false, not_false_eq_true, reduceCtorEq, Bool.true_beq, Bool.false_beq]
  refine plain_ok (N := 3000) (callO_does (fun v R _ => ∃ A c, v = .slice A bs.length c ∧ R = [⟨.slice A bs.length c, 5, 1, bs.length, bs.map enc8⟩]) rfl rfl (by kernel_rfl) rfl (by simp only [dOk_some, dOk_none, Nat.reduceLT]) (fun G hG => (clone_any _ bs _ (hb.mono (hG.le G0 (by simp))).r (by omega)).mono ?_)) (QOk_body _ _ _) (by first | exact .inl rfl | exact .inr ⟨_, _, rfl, rfl⟩) ?_
  · rintro e w' ⟨A, c, rfl, hown, hb⟩
    exact ⟨_, [⟨_, 5, 1, _, _⟩], rfl, by simpa using hown, List.pairwise_singleton _ _, ⟨A, c, rfl, rfl⟩, Chg.of_below hb⟩
  rintro _ ⟨v, R, G1, ⟨A1, c1, rfl, rfl⟩, hn1, rfl⟩
  simp only [List.cons_append, List.nil_append]
  simp only [go_sem, Nat.reduceAdd, Nat.reduceSub, Nat.reduceMul, Nat.reduceEqDiff, Nat.reduceLT, Nat.reduceLeDiff, Nat.reduceBEq, Nat.reduceBNe, Int.reduceLT, Int.reduceLE, Int.reduceEq, Int.reduceAdd, Int.reduceSub, Int.reduceNeg, decide_true, decide_false, Bool.not_true, Bool.not_false, cond_true, cond_false, beq_self_eq_true, and_self, ne_eq, not_true_eq_false, not_false_eq_true, reduceCtorEq, Bool.true_beq, Bool.false_beq]
  refine ⟨by omega, ?_⟩
  refine plain_ok (N := 3000) (append_fill_does (R1 := []) (m := 64 - bs.length) rfl tySlice23 tyInt3 tyApp5 tyZero5 rfl rfl rfl (by omega) (by simp only [dOk_some, dOk_none, Nat.reduceLT]) rfl (by unfold maxLen; omega) (by omega)) (QOk_body _ _ _) (by first | exact .inl rfl | exact .inr ⟨_, _, rfl, rfl⟩) ?_
  rintro _ ⟨A2, c2, rfl⟩
  rw [show bs.length + (64 - bs.length) = 64 by omega]
  simp only [go_sem, Nat.reduceAdd, Nat.reduceSub, Nat.reduceMul, Nat.reduceEqDiff, Nat.reduceLT, Nat.reduceLeDiff, Nat.reduceBEq, Nat.reduceBNe, Int.reduceLT, Int.reduceLE, Int.reduceEq, Int.reduceAdd, Int.reduceSub, Int.reduceNeg, decide_true, decide_false, Bool.not_true, Bool.not_false, cond_true, cond_false, beq_self_eq_true, and_self, ne_eq, not_true_eq_false, not_false_eq_true, reduceCtorEq, Bool.true_beq, Bool.false_beq]
  refine read_ok (R1 := []) rfl fun G2 hle hs => ?_
  simp only [go_sem, Nat.reduceAdd, Nat.reduceSub, Nat.reduceMul, Nat.reduceEqDiff, Nat.reduceLT, Nat.reduceLeDiff, Nat.reduceBEq, Nat.reduceBNe, Int.reduceLT, Int.reduceLE, Int.reduceEq, Int.reduceAdd, Int.reduceSub, Int.reduceNeg, decide_true, decide_false, Bool.not_true, Bool.not_false, cond_true, cond_false, beq_self_eq_true, and_self, ne_eq, not_true_eq_false, not_false_eq_true, reduceCtorEq, Bool.true_beq, Bool.false_beq]
  refine fin_ret (G := G0) Try.results70 ?_
  simp only [go_sem, Nat.reduceAdd, Nat.reduceSub, Nat.reduceMul, Nat.reduceEqDiff, Nat.reduceLT, Nat.reduceLeDiff, Nat.reduceBEq, Nat.reduceBNe, Int.reduceLT, Int.reduceLE, Int.reduceEq, Int.reduceAdd, Int.reduceSub, Int.reduceNeg, decide_true, decide_false, Bool.not_true, Bool.not_false, cond_true, cond_false, beq_self_eq_true, and_self, ne_eq, not_true_eq_false, not_false_eq_true, reduceCtorEq, Bool.true_beq, Bool.false_beq]
  intro a w' _ hl2
  refine ⟨A2, c2, rfl, ?_⟩
  show Sl ⟨G0.M, w'⟩ 5 1 (sec bs).length _ ((sec bs).map enc8)
  rw [sec_len bs hl, sec_enc]
  exact Sl.mono hs (hl2 G2 (by simp))
theorem chk {g : Geo} (hg : GoodGeo g) {d : Dev} (hd : GoodDev g d) {dv : Value} {G : GW} (h : DevG G dv d) : Calls Try.prog 35 #[geoV g, dv] G.w (Ret G fun v _ => v = .int .i64 0) :=
  ret_of (check_good g hg d hd dv G.w h.r) fun _ _ ⟨he, hb⟩ => ⟨_, he, rfl, hb⟩
@[go_sem] theorem spent_safe (d : Dev) : (spent d).safe = d.safe := rfl
@[go_sem] theorem spent_cache (d : Dev) : (spent d).cache = d.cache := rfl
@[go_sem] theorem spent_vols (d : Dev) : (spent d).vols = d.vols := rfl
theorem tidB {E : Env} {σ : St} {G0 G : GW} (hn : Now E σ G) (hA : ∀ k, ¬ E.A k) (h0 : Tid bX G0) (hW : G0.Wf) (e1 : E.M = G0.M) (e2 : E.W = G0.w) (hr : ∀ r ∈ σ.rows, bX r.t = false) (hb : ∀ b ∈ σ.blks, bX b.t = false) : Tid bX G := by
  obtain ⟨M, w⟩ := G0
  subst e1; subst e2
  exact tid_now hn hA h0 (fun k hk => hW k hk) hr hb
theorem dev_err {G : GW} (d : Dev) (err : Int) (h : err ≠ 0) : DevE G (.tuple #[zeroDev, .int .i64 err]) err d := ⟨_, rfl, fun e => absurd e h, fun _ => rfl⟩
theorem dev_ok {G : GW} {v : Value} {d : Dev} {err : Int} (he : err = 0) (h : ∃ dv, v = .tuple #[dv, .int .i64 0] ∧ DevG G dv d) : DevE G v err d := by
  subst he
  obtain ⟨dv, e, h⟩ := h
  exact ⟨dv, e, fun _ => h, fun e => absurd rfl e⟩
set_option maxRecDepth 100000 in
set_option maxHeartbeats 4000000 in
theorem put_does {g : Geo} (hg : GoodGeo g) {d : Dev} (hd : GoodDev g d) {dv bv : Value} {n : Int} {bs : List UInt8} {G0 : GW} (hW : G0.Wf) (hT : Tid bX G0) (h : DevG G0 dv d) (hb : ByG G0 bv bs) :
    Calls Try.prog 38 #[geoV g, dv, .int .i64 n, bv] G0.w (Ret G0 fun v G => DevE G v (putErr d n bs.length) (putDev d n bs)) := by
  obtain ⟨A, c, rfl, _, _⟩ := hb.form
  obtain ⟨A1, k1, A2, k2, A3, k3, rfl, hs, hc, hv⟩ := h.form
  refine enter (G := G0) (n := 62) 3000 hW Try.func38 rfl Try.ntmps38 (by simp) ?_
  simp only [go_sem, Nat.reduceAdd, Nat.reduceSub, Nat.reduceMul, Nat.reduceEqDiff, Nat.reduceLT, Nat.reduceLeDiff, Nat.reduceBEq, Nat.reduceBNe, Int.reduceLT, Int.reduceLE, Int.reduceEq, Int.reduceAdd, Int.reduceSub, Int.reduceNeg, decide_true, decide_false, Bool.not_true, Bool.not_false, cond_true, cond_false, beq_self_eq_true, and_self, ne_eq, not_true_eq_false, not_false_eq_true, reduceCtorEq, Bool.true_beq, Bool.false_beq, geoV]
  intro g1 g2 g3
  refine plain_ok (N := 3000) (call_does (fun v G => v = .int .i64 0) rfl rfl (by kernel_rfl) rfl (by simp only [dOk_some, dOk_none, Nat.reduceLT]) (fun G hG => chk hg hd (h.mono (hG.le G0 (by simp))))) (QOk_body _ _ _) (by first | exact .inl rfl | exact .inr ⟨_, _, rfl, rfl⟩) ?_
  rintro _ ⟨v, G1, rfl, hn1, rfl⟩
  clear hn1
  by_cases e1 : n < 0
  · have he : putErr d n bs.length = 2 := by unfold putErr; rw [if_pos (.inl e1)]
    have q1 : decide (n < 0) = true := by simpa using e1
    simp only [go_sem, Nat.reduceAdd, Nat.reduceSub, Nat.reduceMul, Nat.reduceEqDiff, Nat.reduceLT, Nat.reduceLeDiff, Nat.reduceBEq, Nat.reduceBNe, Int.reduceLT, Int.reduceLE, Int.reduceEq, Int.reduceAdd, Int.reduceSub, Int.reduceNeg, decide_true, decide_false, Bool.not_true, Bool.not_false, cond_true, cond_false, beq_self_eq_true, and_self, ne_eq, not_true_eq_false, not_false_eq_true, reduceCtorEq, Bool.true_beq, Bool.false_beq, q1]
    refine fin_ret (G := G0) Try.results38 ?_
    simp only [go_sem, Nat.reduceAdd, Nat.reduceSub, Nat.reduceMul, Nat.reduceEqDiff, Nat.reduceLT, Nat.reduceLeDiff, Nat.reduceBEq, Nat.reduceBNe, Int.reduceLT, Int.reduceLE, Int.reduceEq, Int.reduceAdd, Int.reduceSub, Int.reduceNeg, decide_true, decide_false, Bool.not_true, Bool.not_false, cond_true, cond_false, beq_self_eq_true, and_self, ne_eq, not_true_eq_false, not_false_eq_true, reduceCtorEq, Bool.true_beq, Bool.false_beq]
    intro a w' _ _
    exact he.symm ▸ dev_err _ _ (by decide)
  have q1 : decide (n < 0) = false := by simpa using e1
  by_cases e2 : (d.safe.length : Int) ≤ n
  · have he : putErr d n bs.length = 2 := by unfold putErr; rw [if_pos (.inr e2)]
    have q2 : decide ((d.safe.length : Int) ≤ n) = true := by simpa using e2
    simp only [go_sem, Nat.reduceAdd, Nat.reduceSub, Nat.reduceMul, Nat.reduceEqDiff, Nat.reduceLT, Nat.reduceLeDiff, Nat.reduceBEq, Nat.reduceBNe, Int.reduceLT, Int.reduceLE, Int.reduceEq, Int.reduceAdd, Int.reduceSub, Int.reduceNeg, decide_true, decide_false, Bool.not_true, Bool.not_false, cond_true, cond_false, beq_self_eq_true, and_self, ne_eq, not_true_eq_false, not_false_eq_true, reduceCtorEq, Bool.true_beq, Bool.false_beq, q1, q2]
    refine fin_ret (G := G0) Try.results38 ?_
    simp only [go_sem, Nat.reduceAdd, Nat.reduceSub, Nat.reduceMul, Nat.reduceEqDiff, Nat.reduceLT, Nat.reduceLeDiff, Nat.reduceBEq, Nat.reduceBNe, Int.reduceLT, Int.reduceLE, Int.reduceEq, Int.reduceAdd, Int.reduceSub, Int.reduceNeg, decide_true, decide_false, Bool.not_true, Bool.not_false, cond_true, cond_false, beq_self_eq_true, and_self, ne_eq, not_true_eq_false, not_false_eq_true, reduceCtorEq, Bool.true_beq, Bool.false_beq]
    intro a w' _ _
    exact he.symm ▸ dev_err _ _ (by decide)
  have q2 : decide ((d.safe.length : Int) ≤ n) = false := by simpa using e2
  by_cases e3 : 64 < bs.length
  · have he : putErr d n bs.length = 1 := by unfold putErr; rw [if_neg (by omega), if_pos e3]
    have q3 : decide ((64 : Int) < (bs.length : Int)) = true := by simp; omega
    simp only [go_sem, Nat.reduceAdd, Nat.reduceSub, Nat.reduceMul, Nat.reduceEqDiff, Nat.reduceLT, Nat.reduceLeDiff, Nat.reduceBEq, Nat.reduceBNe, Int.reduceLT, Int.reduceLE, Int.reduceEq, Int.reduceAdd, Int.reduceSub, Int.reduceNeg, decide_true, decide_false, Bool.not_true, Bool.not_false, cond_true, cond_false, beq_self_eq_true, and_self, ne_eq, not_true_eq_false, not_false_eq_true, reduceCtorEq, Bool.true_beq, Bool.false_beq, q1, q2, q3]
    refine fin_ret (G := G0) Try.results38 ?_
    simp only [go_sem, Nat.reduceAdd, Nat.reduceSub, Nat.reduceMul, Nat.reduceEqDiff, Nat.reduceLT, Nat.reduceLeDiff, Nat.reduceBEq, Nat.reduceBNe, Int.reduceLT, Int.reduceLE, Int.reduceEq, Int.reduceAdd, Int.reduceSub, Int.reduceNeg, decide_true, decide_false, Bool.not_true, Bool.not_false, cond_true, cond_false, beq_self_eq_true, and_self, ne_eq, not_true_eq_false, not_false_eq_true, reduceCtorEq, Bool.true_beq, Bool.false_beq]
    intro a w' _ _
    exact he.symm ▸ dev_err _ _ (by decide)
  have q3 : decide ((64 : Int) < (bs.length : Int)) = false := by simp; omega
  by_cases e4 : d.cache.length = 2000
  · have he : putErr d n bs.length = 8 := by unfold putErr; rw [if_neg (by omega), if_neg e3, if_pos e4]
    have q4 : decide ((d.cache.length : Int) = 2000) = true := by simp; omega
    simp only [go_sem, Nat.reduceAdd, Nat.reduceSub, Nat.reduceMul, Nat.reduceEqDiff, Nat.reduceLT, Nat.reduceLeDiff, Nat.reduceBEq, Nat.reduceBNe, Int.reduceLT, Int.reduceLE, Int.reduceEq, Int.reduceAdd, Int.reduceSub, Int.reduceNeg, decide_true, decide_false, Bool.not_true, Bool.not_false, cond_true, cond_false, beq_self_eq_true, and_self, ne_eq, not_true_eq_false, not_false_eq_true, reduceCtorEq, Bool.true_beq, Bool.false_beq, q1, q2, q3, q4]
    refine fin_ret (G := G0) Try.results38 ?_
    simp only [go_sem, Nat.reduceAdd, Nat.reduceSub, Nat.reduceMul, Nat.reduceEqDiff, Nat.reduceLT, Nat.reduceLeDiff, Nat.reduceBEq, Nat.reduceBNe, Int.reduceLT, Int.reduceLE, Int.reduceEq, Int.reduceAdd, Int.reduceSub, Int.reduceNeg, decide_true, decide_false, Bool.not_true, Bool.not_false, cond_true, cond_false, beq_self_eq_true, and_self, ne_eq, not_true_eq_false, not_false_eq_true, reduceCtorEq, Bool.true_beq, Bool.false_beq]
    intro a w' _ _
    exact he.symm ▸ dev_err _ _ (by decide)
  have q4 : decide ((d.cache.length : Int) = 2000) = false := by simp; omega
  simp only [go_sem, Nat.reduceAdd, Nat.reduceSub, Nat.reduceMul, Nat.reduceEqDiff, Nat.reduceLT, Nat.reduceLeDiff, Nat.reduceBEq, Nat.reduceBNe, Int.reduceLT, Int.reduceLE, Int.reduceEq, Int.reduceAdd, Int.reduceSub, Int.reduceNeg, decide_true, decide_false, Bool.not_true, Bool.not_false, cond_true, cond_false, beq_self_eq_true, and_self, ne_eq, not_true_eq_false, not_false_eq_true, reduceCtorEq, Bool.true_beq, Bool.false_beq, q1, q2, q3, q4]
  by_cases e5 : d.fuel = 0
  · have he : putErr d n bs.length = 10 := by unfold putErr; rw [if_neg (by omega), if_neg e3, if_neg e4, if_pos e5]
    refine plain_ok (N := 3000) (call_does (fun v G => v = .tuple #[.agg #[.slice none 0 0, .slice none 0 0, .slice none 0 0, .int .i64 0], .int .i64 10]) rfl rfl (by kernel_rfl) rfl (by simp only [dOk_some, dOk_none, Nat.reduceLT]) (fun G hG => ret_of (spend_down g hg d hd e5 _ _ (h.mono (hG.le G0 (by simp))).r) fun _ _ ⟨he, hb⟩ => ⟨_, he, rfl, hb⟩)) (QOk_body _ _ _) (by first | exact .inl rfl | exact .inr ⟨_, _, rfl, rfl⟩) ?_
    rintro _ ⟨v, G2, rfl, hn2, rfl⟩
    clear hn2
    simp only [go_sem, Nat.reduceAdd, Nat.reduceSub, Nat.reduceMul, Nat.reduceEqDiff, Nat.reduceLT, Nat.reduceLeDiff, Nat.reduceBEq, Nat.reduceBNe, Int.reduceLT, Int.reduceLE, Int.reduceEq, Int.reduceAdd, Int.reduceSub, Int.reduceNeg, decide_true, decide_false, Bool.not_true, Bool.not_false, cond_true, cond_false, beq_self_eq_true, and_self, ne_eq, not_true_eq_false, not_false_eq_true, reduceCtorEq, Bool.true_beq, Bool.false_beq]
    intro g4
    refine fin_ret (G := G0) Try.results38 ?_
    simp only [go_sem, Nat.reduceAdd, Nat.reduceSub, Nat.reduceMul, Nat.reduceEqDiff, Nat.reduceLT, Nat.reduceLeDiff, Nat.reduceBEq, Nat.reduceBNe, Int.reduceLT, Int.reduceLE, Int.reduceEq, Int.reduceAdd, Int.reduceSub, Int.reduceNeg, decide_true, decide_false, Bool.not_true, Bool.not_false, cond_true, cond_false, beq_self_eq_true, and_self, ne_eq, not_true_eq_false, not_false_eq_true, reduceCtorEq, Bool.true_beq, Bool.false_beq]
    intro a w' _ _
    exact he.symm ▸ dev_err _ _ (by decide)
  have he : putErr d n bs.length = 0 := by unfold putErr; rw [if_neg (by omega), if_neg e3, if_neg e4, if_neg e5]
  refine plain_ok (N := 3000) (callO_does (fun v R G => ∃ u, v = .tuple #[u, .int .i64 0] ∧ OwnT (spent d) u R G) rfl rfl (by kernel_rfl) rfl (by simp only [dOk_some, dOk_none, Nat.reduceLT]) (fun G hG => spend_does g hg d hd e5 _ _ (h.mono (hG.le G0 (by simp))) (tidB hG (fun _ h => h) hT hW rfl rfl (by simp) (by simp; decide)) hG.wf)) (QOk_body _ _ _) (by first | exact .inl rfl | exact .inr ⟨_, _, rfl, rfl⟩) ?_
  rintro _ ⟨v, R, G2, ⟨u, rfl, A4, c4, A5, c5, A6, c6, C1, C2, C3, rfl, rfl, E1, E2, E3⟩, hn2, rfl⟩
  clear hn2
  simp only [List.cons_append, List.nil_append]
  simp only [go_sem, Nat.reduceAdd, Nat.reduceSub, Nat.reduceMul, Nat.reduceEqDiff, Nat.reduceLT, Nat.reduceLeDiff, Nat.reduceBEq, Nat.reduceBNe, Int.reduceLT, Int.reduceLE, Int.reduceEq, Int.reduceAdd, Int.reduceSub, Int.reduceNeg, decide_true, decide_false, Bool.not_true, Bool.not_false, cond_true, cond_false, beq_self_eq_true, and_self, ne_eq, not_true_eq_false, not_false_eq_true, reduceCtorEq, Bool.true_beq, Bool.false_beq]
  intro g4
  refine draw_ok (N := 3000) (.take 0 (.take 2 (.take 3 (.alt 1 (.alt 4 (.take 5 (.alt 6 (.alt 7 (.take 8 (.alt 9 .done .last)) .last) .last)) .last) (.alt 4 (.take 5 (.alt 1 (.alt 6 (.alt 7 (.take 8 (.alt 9 .done .last)) .last) .last) (.alt 6 (.alt 1 (.alt 7 (.take 8 (.alt 9 .done .last)) .last) .last) .last))) .last))))) [3] (QOk_body _ _ _) follows_mixed (by kernel_rfl) (by kernel_rfl) ?_
  simp only [go_sem, Nat.reduceAdd, Nat.reduceSub, Nat.reduceMul, Nat.reduceEqDiff, Nat.reduceLT, Nat.reduceLeDiff, Nat.reduceBEq, Nat.reduceBNe, Int.reduceLT, Int.reduceLE, Int.reduceEq, Int.reduceAdd, Int.reduceSub, Int.reduceNeg, decide_true, decide_false, Bool.not_true, Bool.not_false, cond_true, cond_false, beq_self_eq_true, and_self, ne_eq, not_true_eq_false, not_false_eq_true, reduceCtorEq, Bool.true_beq, Bool.false_beq]
  refine ⟨?_, ?_⟩
  · refine any_ok2 (N := 3000) (call_does (fun v G => ∃ A c, v = .slice A 64 c ∧ ByG G v (sec bs)) rfl rfl (by kernel_rfl) rfl (by simp only [dOk_some, dOk_none, Nat.reduceLT]) (fun G hG => sector_ret _ bs G hG.wf (hb.mono (hG.le G0 (by simp))) (by omega))) (QOk_body _ _ _) rfl (by first | exact .inl rfl | exact .inr ⟨_, _, rfl, rfl⟩) (by intro _ hK; first | (obtain ⟨_, _, _, _, rfl⟩ := hK; exact ⟨rfl, fun _ h => h⟩) | (obtain ⟨_, _, rfl⟩ := hK; exact ⟨rfl, fun _ h => h⟩) | (obtain ⟨_, _, _, _, _, _, rfl⟩ := hK; exact ⟨rfl, fun _ h => List.mem_cons_of_mem _ h⟩) | (obtain ⟨_, _, _, _, _, _, _, rfl⟩ := hK; exact ⟨rfl, fun _ h => List.mem_cons_of_mem _ h⟩) | (obtain rfl := hK; exact ⟨rfl, fun _ h => h⟩)) ?_
    rintro _ ⟨_, G3, ⟨A7, c7, rfl, hb3⟩, hn3, rfl⟩
    clear hn3
    simp only [go_sem, Nat.reduceAdd, Nat.reduceSub, Nat.reduceMul, Nat.reduceEqDiff, Nat.reduceLT, Nat.reduceLeDiff, Nat.reduceBEq, Nat.reduceBNe, Int.reduceLT, Int.reduceLE, Int.reduceEq, Int.reduceAdd, Int.reduceSub, Int.reduceNeg, decide_true, decide_false, Bool.not_true, Bool.not_false, cond_true, cond_false, beq_self_eq_true, and_self, ne_eq, not_true_eq_false, not_false_eq_true, reduceCtorEq, Bool.true_beq, Bool.false_beq]
    intro g5
    refine any_ok2 (N := 3000) (append_does (R1 := [_]) (news := [.int .i64 n, .slice A7 64 c7]) rfl tySlice34 tyApp61 rfl rfl rfl rfl (by simp only [dOk_some, dOk_none, Nat.reduceLT]) (by intro u hu; simp at hu; rcases hu with rfl | rfl <;> rfl) (by have := hd.most; unfold maxLen; omega) (by have := hd.most; omega) (fun G hG => tsl_blk hG (b := ⟨4, g5, 61, [.v (.int .i64 n), .v (.slice A7 64 c7)]⟩) (by simp) rfl (by unfold maxLen; omega))) (QOk_body _ _ _) rfl (by first | exact .inl rfl | exact .inr ⟨_, _, rfl, rfl⟩) (by intro _ hK; first | (obtain ⟨_, _, _, _, rfl⟩ := hK; exact ⟨rfl, fun _ h => h⟩) | (obtain ⟨_, _, rfl⟩ := hK; exact ⟨rfl, fun _ h => h⟩) | (obtain ⟨_, _, _, _, _, _, rfl⟩ := hK; exact ⟨rfl, fun _ h => List.mem_cons_of_mem _ h⟩) | (obtain ⟨_, _, _, _, _, _, _, rfl⟩ := hK; exact ⟨rfl, fun _ h => List.mem_cons_of_mem _ h⟩) | (obtain rfl := hK; exact ⟨rfl, fun _ h => h⟩)) ?_
    rintro _ ⟨A8, c8, rfl⟩
    simp only [List.cons_append, List.nil_append]
    simp only [go_sem, Nat.reduceAdd, Nat.reduceSub, Nat.reduceMul, Nat.reduceEqDiff, Nat.reduceLT, Nat.reduceLeDiff, Nat.reduceBEq, Nat.reduceBNe, Int.reduceLT, Int.reduceLE, Int.reduceEq, Int.reduceAdd, Int.reduceSub, Int.reduceNeg, decide_true, decide_false, Bool.not_true, Bool.not_false, cond_true, cond_false, beq_self_eq_true, and_self, ne_eq, not_true_eq_false, not_false_eq_true, reduceCtorEq, Bool.true_beq, Bool.false_beq]
    refine read_ok (R1 := []) rfl fun G4 _ hs4 => ?_
    simp only [go_sem, Nat.reduceAdd, Nat.reduceSub, Nat.reduceMul, Nat.reduceEqDiff, Nat.reduceLT, Nat.reduceLeDiff, Nat.reduceBEq, Nat.reduceBNe, Int.reduceLT, Int.reduceLE, Int.reduceEq, Int.reduceAdd, Int.reduceSub, Int.reduceNeg, decide_true, decide_false, Bool.not_true, Bool.not_false, cond_true, cond_false, beq_self_eq_true, and_self, ne_eq, not_true_eq_false, not_false_eq_true, reduceCtorEq, Bool.true_beq, Bool.false_beq]
    refine read_ok (R1 := []) rfl fun G5 _ hs5 => ?_
    simp only [go_sem, Nat.reduceAdd, Nat.reduceSub, Nat.reduceMul, Nat.reduceEqDiff, Nat.reduceLT, Nat.reduceLeDiff, Nat.reduceBEq, Nat.reduceBNe, Int.reduceLT, Int.reduceLE, Int.reduceEq, Int.reduceAdd, Int.reduceSub, Int.reduceNeg, decide_true, decide_false, Bool.not_true, Bool.not_false, cond_true, cond_false, beq_self_eq_true, and_self, ne_eq, not_true_eq_false, not_false_eq_true, reduceCtorEq, Bool.true_beq, Bool.false_beq]
    refine read_ok (R1 := []) rfl fun G6 _ hs6 => ?_
    simp only [go_sem, Nat.reduceAdd, Nat.reduceSub, Nat.reduceMul, Nat.reduceEqDiff, Nat.reduceLT, Nat.reduceLeDiff, Nat.reduceBEq, Nat.reduceBNe, Int.reduceLT, Int.reduceLE, Int.reduceEq, Int.reduceAdd, Int.reduceSub, Int.reduceNeg, decide_true, decide_false, Bool.not_true, Bool.not_false, cond_true, cond_false, beq_self_eq_true, and_self, ne_eq, not_true_eq_false, not_false_eq_true, reduceCtorEq, Bool.true_beq, Bool.false_beq]
    refine fin_ret (G := G0) Try.results38 ?_
    simp only [go_sem, Nat.reduceAdd, Nat.reduceSub, Nat.reduceMul, Nat.reduceEqDiff, Nat.reduceLT, Nat.reduceLeDiff, Nat.reduceBEq, Nat.reduceBNe, Int.reduceLT, Int.reduceLE, Int.reduceEq, Int.reduceAdd, Int.reduceSub, Int.reduceNeg, decide_true, decide_false, Bool.not_true, Bool.not_false, cond_true, cond_false, beq_self_eq_true, and_self, ne_eq, not_true_eq_false, not_false_eq_true, reduceCtorEq, Bool.true_beq, Bool.false_beq]
    intro a w' _ hl
    refine dev_ok he ⟨_, rfl, _, _, _, rfl, sq_row E1 rowG_mono (hl G2 (by simp)) rfl (hs4.mono (hl G4 (by simp))), ?_, sq_row E3 volG_mono (hl G2 (by simp)) rfl (hs6.mono (hl G6 (by simp)))⟩
    refine sq_row (l := d.cache ++ [⟨n, sec bs⟩]) (n := d.cache.length + 1) (css := C2 ++ [[.int .i64 n, .slice A7 64 c7]]) (ElG.snoc (E2.mono wrG_mono (hl G2 (by simp))) rfl ⟨_, rfl, hb3.mono (hl G3 (by simp))⟩) wrG_mono (GW.Le.refl _) (by simp) ?_
    have := hs5.mono (hl G5 (by simp))
    simpa [SC.den] using this
  · refine any_ok2 (N := 3000) (call_does (fun v G => ∃ A c, v = .slice A 64 c ∧ ByG G v (sec bs)) rfl rfl (by kernel_rfl) rfl (by simp only [dOk_some, dOk_none, Nat.reduceLT]) (fun G hG => sector_ret _ bs G hG.wf (hb.mono (hG.le G0 (by simp))) (by omega))) (QOk_body _ _ _) rfl (by first | exact .inl rfl | exact .inr ⟨_, _, rfl, rfl⟩) (by intro _ hK; first | (obtain ⟨_, _, _, _, rfl⟩ := hK; exact ⟨rfl, fun _ h => h⟩) | (obtain ⟨_, _, rfl⟩ := hK; exact ⟨rfl, fun _ h => h⟩) | (obtain ⟨_, _, _, _, _, _, rfl⟩ := hK; exact ⟨rfl, fun _ h => List.mem_cons_of_mem _ h⟩) | (obtain ⟨_, _, _, _, _, _, _, rfl⟩ := hK; exact ⟨rfl, fun _ h => List.mem_cons_of_mem _ h⟩) | (obtain rfl := hK; exact ⟨rfl, fun _ h => h⟩)) ?_
    rintro _ ⟨_, G3, ⟨A7, c7, rfl, hb3⟩, hn3, rfl⟩
    clear hn3
    simp only [go_sem, Nat.reduceAdd, Nat.reduceSub, Nat.reduceMul, Nat.reduceEqDiff, Nat.reduceLT, Nat.reduceLeDiff, Nat.reduceBEq, Nat.reduceBNe, Int.reduceLT, Int.reduceLE, Int.reduceEq, Int.reduceAdd, Int.reduceSub, Int.reduceNeg, decide_true, decide_false, Bool.not_true, Bool.not_false, cond_true, cond_false, beq_self_eq_true, and_self, ne_eq, not_true_eq_false, not_false_eq_true, reduceCtorEq, Bool.true_beq, Bool.false_beq]
    refine ⟨fun g5 => ?_, fun g5 => ?_⟩
    · refine any_ok2 (N := 3000) (append_does (R1 := [_]) (news := [.int .i64 n, .slice A7 64 c7]) rfl tySlice34 tyApp61 rfl rfl rfl rfl (by simp only [dOk_some, dOk_none, Nat.reduceLT]) (by intro u hu; simp at hu; rcases hu with rfl | rfl <;> rfl) (by have := hd.most; unfold maxLen; omega) (by have := hd.most; omega) (fun G hG => tsl_blk hG (b := ⟨4, g5, 61, [.v (.int .i64 n), .v (.slice A7 64 c7)]⟩) (by simp) rfl (by unfold maxLen; omega))) (QOk_body _ _ _) rfl (by first | exact .inl rfl | exact .inr ⟨_, _, rfl, rfl⟩) (by intro _ hK; first | (obtain ⟨_, _, _, _, rfl⟩ := hK; exact ⟨rfl, fun _ h => h⟩) | (obtain ⟨_, _, rfl⟩ := hK; exact ⟨rfl, fun _ h => h⟩) | (obtain ⟨_, _, _, _, _, _, rfl⟩ := hK; exact ⟨rfl, fun _ h => List.mem_cons_of_mem _ h⟩) | (obtain ⟨_, _, _, _, _, _, _, rfl⟩ := hK; exact ⟨rfl, fun _ h => List.mem_cons_of_mem _ h⟩) | (obtain rfl := hK; exact ⟨rfl, fun _ h => h⟩)) ?_
      rintro _ ⟨A8, c8, rfl⟩
      simp only [List.cons_append, List.nil_append]
      simp only [go_sem, Nat.reduceAdd, Nat.reduceSub, Nat.reduceMul, Nat.reduceEqDiff, Nat.reduceLT, Nat.reduceLeDiff, Nat.reduceBEq, Nat.reduceBNe, Int.reduceLT, Int.reduceLE, Int.reduceEq, Int.reduceAdd, Int.reduceSub, Int.reduceNeg, decide_true, decide_false, Bool.not_true, Bool.not_false, cond_true, cond_false, beq_self_eq_true, and_self, ne_eq, not_true_eq_false, not_false_eq_true, reduceCtorEq, Bool.true_beq, Bool.false_beq]
      refine read_ok (R1 := []) rfl fun G4 _ hs4 => ?_
      simp only [go_sem, Nat.reduceAdd, Nat.reduceSub, Nat.reduceMul, Nat.reduceEqDiff, Nat.reduceLT, Nat.reduceLeDiff, Nat.reduceBEq, Nat.reduceBNe, Int.reduceLT, Int.reduceLE, Int.reduceEq, Int.reduceAdd, Int.reduceSub, Int.reduceNeg, decide_true, decide_false, Bool.not_true, Bool.not_false, cond_true, cond_false, beq_self_eq_true, and_self, ne_eq, not_true_eq_false, not_false_eq_true, reduceCtorEq, Bool.true_beq, Bool.false_beq]
      refine read_ok (R1 := []) rfl fun G5 _ hs5 => ?_
      simp only [go_sem, Nat.reduceAdd, Nat.reduceSub, Nat.reduceMul, Nat.reduceEqDiff, Nat.reduceLT, Nat.reduceLeDiff, Nat.reduceBEq, Nat.reduceBNe, Int.reduceLT, Int.reduceLE, Int.reduceEq, Int.reduceAdd, Int.reduceSub, Int.reduceNeg, decide_true, decide_false, Bool.not_true, Bool.not_false, cond_true, cond_false, beq_self_eq_true, and_self, ne_eq, not_true_eq_false, not_false_eq_true, reduceCtorEq, Bool.true_beq, Bool.false_beq]
      refine read_ok (R1 := []) rfl fun G6 _ hs6 => ?_
      simp only [go_sem, Nat.reduceAdd, Nat.reduceSub, Nat.reduceMul, Nat.reduceEqDiff, Nat.reduceLT, Nat.reduceLeDiff, Nat.reduceBEq, Nat.reduceBNe, Int.reduceLT, Int.reduceLE, Int.reduceEq, Int.reduceAdd, Int.reduceSub, Int.reduceNeg, decide_true, decide_false, Bool.not_true, Bool.not_false, cond_true, cond_false, beq_self_eq_true, and_self, ne_eq, not_true_eq_false, not_false_eq_true, reduceCtorEq, Bool.true_beq, Bool.false_beq]
      refine fin_ret (G := G0) Try.results38 ?_
      simp only [go_sem, Nat.reduceAdd, Nat.reduceSub, Nat.reduceMul, Nat.reduceEqDiff, Nat.reduceLT, Nat.reduceLeDiff, Nat.reduceBEq, Nat.reduceBNe, Int.reduceLT, Int.reduceLE, Int.reduceEq, Int.reduceAdd, Int.reduceSub, Int.reduceNeg, decide_true, decide_false, Bool.not_true, Bool.not_false, cond_true, cond_false, beq_self_eq_true, and_self, ne_eq, not_true_eq_false, not_false_eq_true, reduceCtorEq, Bool.true_beq, Bool.false_beq]
      intro a w' _ hl
      refine dev_ok he ⟨_, rfl, _, _, _, rfl, sq_row E1 rowG_mono (hl G2 (by simp)) rfl (hs4.mono (hl G4 (by simp))), ?_, sq_row E3 volG_mono (hl G2 (by simp)) rfl (hs6.mono (hl G6 (by simp)))⟩
      refine sq_row (l := d.cache ++ [⟨n, sec bs⟩]) (n := d.cache.length + 1) (css := C2 ++ [[.int .i64 n, .slice A7 64 c7]]) (ElG.snoc (E2.mono wrG_mono (hl G2 (by simp))) rfl ⟨_, rfl, hb3.mono (hl G3 (by simp))⟩) wrG_mono (GW.Le.refl _) (by simp) ?_
      have := hs5.mono (hl G5 (by simp))
      simpa [SC.den] using this
    · refine any_ok2 (N := 3000) (append_does (R1 := [_]) (news := [.int .i64 n, .slice A7 64 c7]) rfl tySlice34 tyApp61 rfl rfl rfl rfl (by simp only [dOk_some, dOk_none, Nat.reduceLT]) (by intro u hu; simp at hu; rcases hu with rfl | rfl <;> rfl) (by have := hd.most; unfold maxLen; omega) (by have := hd.most; omega) (fun G hG => tsl_blk hG (b := ⟨4, g5, 61, [.v (.int .i64 n), .v (.slice A7 64 c7)]⟩) (by simp) rfl (by unfold maxLen; omega))) (QOk_body _ _ _) rfl (by first | exact .inl rfl | exact .inr ⟨_, _, rfl, rfl⟩) (by intro _ hK; first | (obtain ⟨_, _, _, _, rfl⟩ := hK; exact ⟨rfl, fun _ h => h⟩) | (obtain ⟨_, _, rfl⟩ := hK; exact ⟨rfl, fun _ h => h⟩) | (obtain ⟨_, _, _, _, _, _, rfl⟩ := hK; exact ⟨rfl, fun _ h => List.mem_cons_of_mem _ h⟩) | (obtain ⟨_, _, _, _, _, _, _, rfl⟩ := hK; exact ⟨rfl, fun _ h => List.mem_cons_of_mem _ h⟩) | (obtain rfl := hK; exact ⟨rfl, fun _ h => h⟩)) ?_
      rintro _ ⟨A8, c8, rfl⟩
      simp only [List.cons_append, List.nil_append]
      simp only [go_sem, Nat.reduceAdd, Nat.reduceSub, Nat.reduceMul, Nat.reduceEqDiff, Nat.reduceLT, Nat.reduceLeDiff, Nat.reduceBEq, Nat.reduceBNe, Int.reduceLT, Int.reduceLE, Int.reduceEq, Int.reduceAdd, Int.reduceSub, Int.reduceNeg, decide_true, decide_false, Bool.not_true, Bool.not_false, cond_true, cond_false, beq_self_eq_true, and_self, ne_eq, not_true_eq_false, not_false_eq_true, reduceCtorEq, Bool.true_beq, Bool.false_beq]
      refine read_ok (R1 := []) rfl fun G4 _ hs4 => ?_
      simp only [go_sem, Nat.reduceAdd, Nat.reduceSub, Nat.reduceMul, Nat.reduceEqDiff, Nat.reduceLT, Nat.reduceLeDiff, Nat.reduceBEq, Nat.reduceBNe, Int.reduceLT, Int.reduceLE, Int.reduceEq, Int.reduceAdd, Int.reduceSub, Int.reduceNeg, decide_true, decide_false, Bool.not_true, Bool.not_false, cond_true, cond_false, beq_self_eq_true, and_self, ne_eq, not_true_eq_false, not_false_eq_true, reduceCtorEq, Bool.true_beq, Bool.false_beq]
      refine read_ok (R1 := []) rfl fun G5 _ hs5 => ?_
      simp only [go_sem, Nat.reduceAdd, Nat.reduceSub, Nat.reduceMul, Nat.reduceEqDiff, Nat.reduceLT, Nat.reduceLeDiff, Nat.reduceBEq, Nat.reduceBNe, Int.reduceLT, Int.reduceLE, Int.reduceEq, Int.reduceAdd, Int.reduceSub, Int.reduceNeg, decide_true, decide_false, Bool.not_true, Bool.not_false, cond_true, cond_false, beq_self_eq_true, and_self, ne_eq, not_true_eq_false, not_false_eq_true, reduceCtorEq, Bool.true_beq, Bool.false_beq]
      refine read_ok (R1 := []) rfl fun G6 _ hs6 => ?_
      simp only [go_sem, Nat.reduceAdd, Nat.reduceSub, Nat.reduceMul, Nat.reduceEqDiff, Nat.reduceLT, Nat.reduceLeDiff, Nat.reduceBEq, Nat.reduceBNe, Int.reduceLT, Int.reduceLE, Int.reduceEq, Int.reduceAdd, Int.reduceSub, Int.reduceNeg, decide_true, decide_false, Bool.not_true, Bool.not_false, cond_true, cond_false, beq_self_eq_true, and_self, ne_eq, not_true_eq_false, not_false_eq_true, reduceCtorEq, Bool.true_beq, Bool.false_beq]
      refine fin_ret (G := G0) Try.results38 ?_
      simp only [go_sem, Nat.reduceAdd, Nat.reduceSub, Nat.reduceMul, Nat.reduceEqDiff, Nat.reduceLT, Nat.reduceLeDiff, Nat.reduceBEq, Nat.reduceBNe, Int.reduceLT, Int.reduceLE, Int.reduceEq, Int.reduceAdd, Int.reduceSub, Int.reduceNeg, decide_true, decide_false, Bool.not_true, Bool.not_false, cond_true, cond_false, beq_self_eq_true, and_self, ne_eq, not_true_eq_false, not_false_eq_true, reduceCtorEq, Bool.true_beq, Bool.false_beq]
      intro a w' _ hl
      refine dev_ok he ⟨_, rfl, _, _, _, rfl, sq_row E1 rowG_mono (hl G2 (by simp)) rfl (hs4.mono (hl G4 (by simp))), ?_, sq_row E3 volG_mono (hl G2 (by simp)) rfl (hs6.mono (hl G6 (by simp)))⟩
      refine sq_row (l := d.cache ++ [⟨n, sec bs⟩]) (n := d.cache.length + 1) (css := C2 ++ [[.int .i64 n, .slice A7 64 c7]]) (ElG.snoc (E2.mono wrG_mono (hl G2 (by simp))) rfl ⟨_, rfl, hb3.mono (hl G3 (by simp))⟩) wrG_mono (GW.Le.refl _) (by simp) ?_
      have := hs5.mono (hl G5 (by simp))
      simpa [SC.den] using this
end Go.Proofs.Ytomfladifefomaa
-- D2: dev.Flush, over devices that may be: a total contract. Conditions: as each law states them.
namespace Go.Proofs.Ytomfladifefomaa
open Go.RowKit
set_option linter.unusedSimpArgs false
theorem wrcells {G : GW} {x : Wr} {cs : List Value} (h : WrG G x cs) : ∃ A c, cs = [.int .i64 x.at_, .slice A x.data.length c] ∧ ByG G (.slice A x.data.length c) x.data := by
  obtain ⟨u, rfl, h⟩ := h
  obtain ⟨A, c, rfl, _⟩ := h.form
  exact ⟨A, c, rfl, h⟩
theorem puts_succ {d : Dev} {i : Nat} {x : Wr} (ok : Nat → Bool) (hx : d.cache[i]? = some x) : putsTo ok d (i + 1) = if ok i then (putsTo ok d i).set x.at_.toNat x.data else putsTo ok d i := by
  simp [putsTo, hx]
set_option maxRecDepth 100000 in
set_option maxHeartbeats 4000000 in
theorem flush_does {g : Geo} (hg : GoodGeo g) {d : Dev} (hd : GoodDev g d) {dv : Value} {G0 : GW} (hW : G0.Wf) (hT : Tid bX G0) (h : DevG G0 dv d) :
    Calls Try.prog 39 #[geoV g, dv] G0.w (Ret G0 fun v G => DevE G v (downErr d) (flushDev d)) := by
  obtain ⟨A1, k1, A2, k2, A3, k3, rfl, hs, hc, hv⟩ := h.form
  refine enter (G := G0) (n := 37) 3000 hW Try.func39 rfl Try.ntmps39 (by simp) ?_
  simp only [go_sem, Nat.reduceAdd, Nat.reduceSub, Nat.reduceMul, Nat.reduceEqDiff, Nat.reduceLT, Nat.reduceLeDiff, Nat.reduceBEq, Nat.reduceBNe, Int.reduceLT, Int.reduceLE, Int.reduceEq, Int.reduceAdd, Int.reduceSub, Int.reduceNeg, decide_true, decide_false, Bool.not_true, Bool.not_false, cond_true, cond_false, beq_self_eq_true, and_self, ne_eq, not_true_eq_false, not_false_eq_true, reduceCtorEq, Bool.true_beq, Bool.false_beq, geoV]
  intro g1 g2 g3
  by_cases e5 : d.fuel = 0
  · have he : downErr d = 10 := by unfold downErr; rw [if_pos e5]
    refine plain_ok (N := 3000) (call_does (fun v G => v = .tuple #[.agg #[.slice none 0 0, .slice none 0 0, .slice none 0 0, .int .i64 0], .int .i64 10]) rfl rfl (by kernel_rfl) rfl (by simp only [dOk_some, dOk_none, Nat.reduceLT]) (fun G hG => ret_of (spend_down g hg d hd e5 _ _ (h.mono (hG.le G0 (by simp))).r) fun _ _ ⟨he, hb⟩ => ⟨_, he, rfl, hb⟩)) (QOk_body _ _ _) (by first | exact .inl rfl | exact .inr ⟨_, _, rfl, rfl⟩) ?_
    rintro _ ⟨v, G2, rfl, hn2, rfl⟩
    clear hn2
    simp only [go_sem, Nat.reduceAdd, Nat.reduceSub, Nat.reduceMul, Nat.reduceEqDiff, Nat.reduceLT, Nat.reduceLeDiff, Nat.reduceBEq, Nat.reduceBNe, Int.reduceLT, Int.reduceLE, Int.reduceEq, Int.reduceAdd, Int.reduceSub, Int.reduceNeg, decide_true, decide_false, Bool.not_true, Bool.not_false, cond_true, cond_false, beq_self_eq_true, and_self, ne_eq, not_true_eq_false, not_false_eq_true, reduceCtorEq, Bool.true_beq, Bool.false_beq]
    intro g4
    refine fin_ret (G := G0) Try.results39 ?_
    simp only [go_sem, Nat.reduceAdd, Nat.reduceSub, Nat.reduceMul, Nat.reduceEqDiff, Nat.reduceLT, Nat.reduceLeDiff, Nat.reduceBEq, Nat.reduceBNe, Int.reduceLT, Int.reduceLE, Int.reduceEq, Int.reduceAdd, Int.reduceSub, Int.reduceNeg, decide_true, decide_false, Bool.not_true, Bool.not_false, cond_true, cond_false, beq_self_eq_true, and_self, ne_eq, not_true_eq_false, not_false_eq_true, reduceCtorEq, Bool.true_beq, Bool.false_beq]
    intro a w' _ _
    exact he.symm ▸ dev_err _ _ (by decide)
  have he : downErr d = 0 := by unfold downErr; rw [if_neg e5]
  refine plain_ok (N := 3000) (callO_does (fun v R G => ∃ u, v = .tuple #[u, .int .i64 0] ∧ OwnT (spent d) u R G) rfl rfl (by kernel_rfl) rfl (by simp only [dOk_some, dOk_none, Nat.reduceLT]) (fun G hG => spend_does g hg d hd e5 _ _ (h.mono (hG.le G0 (by simp))) (tidB hG (fun _ h => h) hT hW rfl rfl (by simp) (by simp; decide)) hG.wf)) (QOk_body _ _ _) (by first | exact .inl rfl | exact .inr ⟨_, _, rfl, rfl⟩) ?_
  rintro _ ⟨v, R, G2, ⟨u, rfl, A4, c4, A5, c5, A6, c6, C1, C2, C3, rfl, rfl, E1, E2, E3⟩, hn2, rfl⟩
  clear hn2
  simp only [List.cons_append, List.nil_append]
  have hn0 : 0 < d.safe.length := by
    have := hd.safe
    unfold sectorsOf at this
    have := hg.r1; have := hg.a1; have := hg.h1; omega
  simp only [go_sem, Nat.reduceAdd, Nat.reduceSub, Nat.reduceMul, Nat.reduceEqDiff, Nat.reduceLT, Nat.reduceLeDiff, Nat.reduceBEq, Nat.reduceBNe, Int.reduceLT, Int.reduceLE, Int.reduceEq, Int.reduceAdd, Int.reduceSub, Int.reduceNeg, decide_true, decide_false, Bool.not_true, Bool.not_false, cond_true, cond_false, beq_self_eq_true, and_self, ne_eq, not_true_eq_false, not_false_eq_true, reduceCtorEq, Bool.true_beq, Bool.false_beq]
  intro g4
  refine rowBlk_ok (R1 := []) (r := ⟨.slice A4 (spent d).safe.length c4, 23, 1, (spent d).safe.length, C1.flatten⟩) rfl hn0 fun gs cap S hAs hcap hmax hSl hS => ?_
  cases hAs
  refine read_ok (R1 := []) rfl fun G3 hle3 hs3 => ?_
  have hl23 : G2.Le G3 := hle3 G2 (by simp)
  clear hle3
  have hP0 : PW RowG G3 S (putsTo all_ d 0) := (PW.of (l := d.safe) E1 hS).mono rowG_mono hl23
  have hC0 : CacG G3 (.slice A5 d.cache.length c5) d.cache := sq_row (E2.mono wrG_mono hl23) wrG_mono (GW.Le.refl _) rfl hs3
  have hV0 : ElG VolG 3 G3 C3 d.vols := E3.mono volG_mono hl23
  have hS0 : S.length = c4 := by simpa using hSl
  have hcap' : d.safe.length ≤ c4 := hcap
  clear hS hSl hcap hs3 E1 E2 E3
  simp only [go_sem, Nat.reduceAdd, Nat.reduceSub, Nat.reduceMul, Nat.reduceEqDiff, Nat.reduceLT, Nat.reduceLeDiff, Nat.reduceBEq, Nat.reduceBNe, Int.reduceLT, Int.reduceLE, Int.reduceEq, Int.reduceAdd, Int.reduceSub, Int.reduceNeg, decide_true, decide_false, Bool.not_true, Bool.not_false, cond_true, cond_false, beq_self_eq_true, and_self, ne_eq, not_true_eq_false, not_false_eq_true, reduceCtorEq, Bool.true_beq, Bool.false_beq]
  refine loop_ok (N := 3000) (ι := Nat × List Value × GW)
    (fun i => match i with | (v, S, G) => ⟨[(4, .c (.p 2 g3 0)), (6, .c (.p 3 g4 0)), (21, .c (.v (.slice A5 d.cache.length c5))), (22, .c (.v (.int .i64 (d.cache.length : Int)))), (23, .c (.v (.int .i64 (v : Int))))],
      [⟨4, gs, 23, S.map .v⟩, ⟨3, g4, 37, [.v (.slice (some ⟨gs, 0, none⟩) d.safe.length c4), .v (.slice A5 d.cache.length c5), .v (.slice A6 d.vols.length c6), .v (.int .i64 (spent d).fuel)]⟩, ⟨2, g3, 37, [.v (.slice none 0 0), .v (.slice none 0 0), .v (.slice none 0 0), .v (.int .i64 0)]⟩],
      [⟨.slice A6 d.vols.length c6, 104, 3, d.vols.length, C3.flatten⟩], [], [G], 5⟩)
    (fun i => match i with | (v, S, G) => v ≤ d.cache.length ∧ S.length = c4 ∧ PW RowG G S (putsTo all_ d v) ∧ CacG G (.slice A5 d.cache.length c5) d.cache ∧ ElG VolG 3 G C3 d.vols ∧ G2.Le G)
    (fun i => d.cache.length - i.1) (QOk_body _ _ _) (0, S, G3) ⟨by omega, hS0, hP0, hC0, hV0, hl23⟩ (by simp only [go_sem, Nat.reduceAdd, Nat.reduceSub, Nat.reduceMul, Nat.reduceEqDiff, Nat.reduceLT, Nat.reduceLeDiff, Nat.reduceBEq, Nat.reduceBNe, Int.reduceLT, Int.reduceLE, Int.reduceEq, Int.reduceAdd, Int.reduceSub, Int.reduceNeg, decide_true, decide_false, Bool.not_true, Bool.not_false, cond_true, cond_false, beq_self_eq_true, and_self, ne_eq, not_true_eq_false, not_false_eq_true, reduceCtorEq, Bool.true_beq, Bool.false_beq]; simp) ?_
  clear hS0 hP0 hC0 hV0 hl23 S G3
  rintro ⟨v, S, G3⟩ ⟨hv, hS0, hP0, hC0, hV0, hl23⟩
  simp only
  simp only [go_sem, Nat.reduceAdd, Nat.reduceSub, Nat.reduceMul, Nat.reduceEqDiff, Nat.reduceLT, Nat.reduceLeDiff, Nat.reduceBEq, Nat.reduceBNe, Int.reduceLT, Int.reduceLE, Int.reduceEq, Int.reduceAdd, Int.reduceSub, Int.reduceNeg, decide_true, decide_false, Bool.not_true, Bool.not_false, cond_true, cond_false, beq_self_eq_true, and_self, ne_eq, not_true_eq_false, not_false_eq_true, reduceCtorEq, Bool.true_beq, Bool.false_beq]
  refine Wb_mk (fun hlt => ?_) (fun hge => ?_)
  · have hlt' : v < d.cache.length := by simpa using hlt
    have hmo := hd.most
    obtain ⟨x, hx⟩ : ∃ x, d.cache[v]? = some x := ⟨_, List.getElem?_eq_getElem hlt'⟩
    obtain ⟨x1, x2, x3⟩ := hd.wr hx
    refine plain_ok (N := 3000) (elemC_does (R := WrG) (l := d.cache) (m := v) rfl tySlice34 tySize61 rfl rfl (by simp only [dOk_some, dOk_none, Nat.reduceLT]) rfl hx (fun G hG => (Sq.mono hC0 wrG_mono (hG.le G3 (by simp))).sc)) (QOk_body _ _ _) (by first | exact .inl rfl | exact .inr ⟨_, _, rfl, rfl⟩) ?_
    rintro _ ⟨gw, ow, cs, G4, hcl, hcR, hn4, rfl⟩
    have hl34 : G3.Le G4 := hn4.le G3 (by simp)
    clear hn4 hcl
    obtain ⟨A7, c7, rfl, hb7⟩ := wrcells hcR
    simp only [go_sem, Nat.reduceAdd, Nat.reduceSub, Nat.reduceMul, Nat.reduceEqDiff, Nat.reduceLT, Nat.reduceLeDiff, Nat.reduceBEq, Nat.reduceBNe, Int.reduceLT, Int.reduceLE, Int.reduceEq, Int.reduceAdd, Int.reduceSub, Int.reduceNeg, decide_true, decide_false, Bool.not_true, Bool.not_false, cond_true, cond_false, beq_self_eq_true, and_self, ne_eq, not_true_eq_false, not_false_eq_true, reduceCtorEq, Bool.true_beq, Bool.false_beq]
    intro g9
    refine plain_ok (N := 3000) (own_elem_does (id := 4) (m := x.at_.toNat) rfl tySlice29 tySize23 rfl rfl (by simp only [dOk_some, dOk_none, Nat.reduceLT]) (by omega) (by omega)) (QOk_body _ _ _) (by first | exact .inl rfl | exact .inr ⟨_, _, rfl, rfl⟩) ?_
    rintro _ rfl
    have hoff : x.at_.toNat + 1 ≤ S.length := by omega
    simp only [go_sem, Nat.reduceAdd, Nat.reduceSub, Nat.reduceMul, Nat.reduceEqDiff, Nat.reduceLT, Nat.reduceLeDiff, Nat.reduceBEq, Nat.reduceBNe, Int.reduceLT, Int.reduceLE, Int.reduceEq, Int.reduceAdd, Int.reduceSub, Int.reduceNeg, decide_true, decide_false, Bool.not_true, Bool.not_false, cond_true, cond_false, beq_self_eq_true, and_self, ne_eq, not_true_eq_false, not_false_eq_true, reduceCtorEq, Bool.true_beq, Bool.false_beq, List.length_map, List.map_cons, List.map_nil, Nat.mul_one, Nat.add_zero, hoff]
    refine ⟨by omega, again_ok (v + 1, S.set x.at_.toNat (.slice A7 x.data.length c7), G4) ⟨by omega, by simpa using hS0, ?_, Sq.mono hC0 wrG_mono hl34, hV0.mono volG_mono hl34, hl23.trans hl34⟩ (by simp only; omega) (by simp only [go_sem, Nat.reduceAdd, Nat.reduceSub, Nat.reduceMul, Nat.reduceEqDiff, Nat.reduceLT, Nat.reduceLeDiff, Nat.reduceBEq, Nat.reduceBNe, Int.reduceLT, Int.reduceLE, Int.reduceEq, Int.reduceAdd, Int.reduceSub, Int.reduceNeg, decide_true, decide_false, Bool.not_true, Bool.not_false, cond_true, cond_false, beq_self_eq_true, and_self, ne_eq, not_true_eq_false, not_false_eq_true, reduceCtorEq, Bool.true_beq, Bool.false_beq]; simp)⟩
    show PW RowG G4 (S.set _ _) (putsTo all_ d (v + 1))
    rw [puts_succ _ hx]
    exact (hP0.mono rowG_mono hl34).set_ (by omega) ⟨_, rfl, hb7⟩
  · have hv2 : v = d.cache.length := by simp at hge; omega
    subst hv2
    refine blkRead_ok (B1 := []) rfl 1 d.safe.length c4 hcap' hmax (by simpa using hS0) id fun G5 hle5 hs5 => ?_
    have hl35 : G3.Le G5 := hle5 G3 (by simp)
    clear hle5
    simp only [go_sem, Nat.reduceAdd, Nat.reduceSub, Nat.reduceMul, Nat.reduceEqDiff, Nat.reduceLT, Nat.reduceLeDiff, Nat.reduceBEq, Nat.reduceBNe, Int.reduceLT, Int.reduceLE, Int.reduceEq, Int.reduceAdd, Int.reduceSub, Int.reduceNeg, decide_true, decide_false, Bool.not_true, Bool.not_false, cond_true, cond_false, beq_self_eq_true, and_self, ne_eq, not_true_eq_false, not_false_eq_true, reduceCtorEq, Bool.true_beq, Bool.false_beq]
    refine read_ok (R1 := []) rfl fun G6 _ hs6 => ?_
    simp only [go_sem, Nat.reduceAdd, Nat.reduceSub, Nat.reduceMul, Nat.reduceEqDiff, Nat.reduceLT, Nat.reduceLeDiff, Nat.reduceBEq, Nat.reduceBNe, Int.reduceLT, Int.reduceLE, Int.reduceEq, Int.reduceAdd, Int.reduceSub, Int.reduceNeg, decide_true, decide_false, Bool.not_true, Bool.not_false, cond_true, cond_false, beq_self_eq_true, and_self, ne_eq, not_true_eq_false, not_false_eq_true, reduceCtorEq, Bool.true_beq, Bool.false_beq]
    refine fin_ret (G := G0) Try.results39 ?_
    simp only [go_sem, Nat.reduceAdd, Nat.reduceSub, Nat.reduceMul, Nat.reduceEqDiff, Nat.reduceLT, Nat.reduceLeDiff, Nat.reduceBEq, Nat.reduceBNe, Int.reduceLT, Int.reduceLE, Int.reduceEq, Int.reduceAdd, Int.reduceSub, Int.reduceNeg, decide_true, decide_false, Bool.not_true, Bool.not_false, cond_true, cond_false, beq_self_eq_true, and_self, ne_eq, not_true_eq_false, not_false_eq_true, reduceCtorEq, Bool.true_beq, Bool.false_beq]
    intro a w' _ hl
    refine dev_ok he ⟨_, rfl, _, _, _, rfl, ?_, Sq.nil, sq_row hV0 volG_mono (hl G3 (by simp)) rfl (hs6.mono (hl G6 (by simp)))⟩
    simp only [map_den_v] at hs5
    exact ((hP0.mono rowG_mono (hl G3 (by simp))).sq (t := 23) (n := d.safe.length) (by rw [puts_len]) (by omega) (hs5.mono (hl G5 (by simp))))
end Go.Proofs.Ytomfladifefomaa
-- D3: dev.Arm, dev.Fetch, over devices that may be: total contracts; clones. Conditions: as each law states them.
namespace Go.Proofs.Ytomfladifefomaa
open Go.RowKit
set_option linter.unusedSimpArgs false
theorem sl_own {G : GW} {w' : World} {t k n : Nat} {v : Value} {xs : List Value} (hW : G.Wf) (h : w'.ownsRow G.w.heap.size t k v n xs) : Sl ⟨G.M, w'⟩ t k n v xs := by
  obtain ⟨h1, h2⟩ := h
  rcases h2 with ⟨rfl, rfl⟩ | ⟨g, cap, cur, rfl, hb, hg, q1, q2, q3, q4⟩
  · exact ⟨none, 0, rfl, Nat.le_refl _, Nat.zero_le _, h1, fun h => absurd h (by omega)⟩
  · refine ⟨_, cap, rfl, q1, q2, h1, fun _ => ⟨g, 0, cur, (0, 0), rfl, fun hm => ?_, hg, fun j u hu => ?_⟩⟩
    · have : g < G.w.heap.size := hW g hm
      omega
    · rw [← q4, List.getElem?_take] at hu
      split at hu
      · simpa using hu
      · cases hu
theorem clone_ret {G : GW} (hW : G.Wf) {v : Value} {bs : List UInt8} (h : ByG G v bs) (hn : bs.length ≤ 1000000000) :
    Calls Try.prog 61 #[v] G.w (Ret G fun u G' => ∃ A c, u = .slice A bs.length c ∧ ByG G' u bs) :=
  ret_of (clone_any v bs G.w h.r hn) fun _ _ ⟨A, c, he, ho, hb⟩ => ⟨_, he, ⟨A, c, rfl, sl_own hW ho⟩, hb⟩
theorem byG_cut {G : GW} {A : Option Addr} {c l n : Nat} {bs : List UInt8} (h : Sl G 5 1 n (.slice A n c) (((bs.map enc8).drop (l * 1)).take (n * 1))) (hl : l + n ≤ bs.length) : ByG G (.slice A n c) ((bs.drop l).take n) := by
  show Sl G _ 1 ((bs.drop l).take n).length _ (((bs.drop l).take n).map enc8)
  have e : ((bs.drop l).take n).length = n := by rw [List.length_take, List.length_drop]; omega
  rw [e, List.map_take, List.map_drop]
  simpa using h
/-- bytes, or an error -/
def BytE (G : GW) (v : Value) (err : Int) (bs : List UInt8) : Prop := ∃ u, v = .tuple #[u, .int .i64 err] ∧ (err = 0 → ByG G u bs) ∧ (err ≠ 0 → u = .slice none 0 0)
theorem byt_err {G : GW} (bs : List UInt8) (err : Int) (h : err ≠ 0) : BytE G (.tuple #[.slice none 0 0, .int .i64 err]) err bs := ⟨_, rfl, fun e => absurd e h, fun _ => rfl⟩
theorem byt_ok {G : GW} {v : Value} {bs : List UInt8} {err : Int} (he : err = 0) (h : ∃ u, v = .tuple #[u, .int .i64 0] ∧ ByG G u bs) : BytE G v err bs := by
  subst he
  obtain ⟨dv, e, h⟩ := h
  exact ⟨dv, e, fun _ => h, fun e => absurd rfl e⟩
theorem vol_ret {G : GW} {dv : Value} {d : Dev} (h : DevG G dv d) (v : Int) : Calls Try.prog 59 #[dv, .int .i64 v] G.w (Ret G fun u _ => u = .bool (volOk d v)) := by
  cases hv : volOk d v with
  | false => exact ret_of (volume_no dv d v G.w h.r hv) fun _ _ ⟨he, hb⟩ => ⟨_, he, rfl, hb⟩
  | true =>
    obtain ⟨k, x, rfl, hx, hg⟩ := volOk_in hv
    exact ret_of (volume_in dv d k x G.w h.r hx) fun _ _ ⟨he, hb⟩ => ⟨_, he, by rw [hg]; rfl, hb⟩
theorem volcells {G : GW} {x : Vol} {cs : List Value} (h : VolG G x cs) : ∃ A c, cs = [.slice A x.data.length c, .int .i64 x.synced, .bool x.gone] ∧ ByG G (.slice A x.data.length c) x.data := by
  obtain ⟨u, rfl, h⟩ := h
  obtain ⟨A, c, rfl, _⟩ := h.form
  exact ⟨A, c, rfl, h⟩
def armErr (f : Int) : Int := if f < 0 ∨ 1048576 < f then 2 else 0
set_option maxRecDepth 100000 in
set_option maxHeartbeats 4000000 in
theorem arm_does {g : Geo} (hg : GoodGeo g) {d : Dev} (hd : GoodDev g d) {dv : Value} {f : Int} {G0 : GW} (hW : G0.Wf) (hT : Tid bX G0) (h : DevG G0 dv d) :
    Calls Try.prog 48 #[geoV g, dv, .int .i64 f] G0.w (Ret G0 fun v G => DevE G v (armErr f) { d with fuel := f }) := by
  obtain ⟨A1, k1, A2, k2, A3, k3, rfl, hs, hc, hv⟩ := h.form
  refine enter (G := G0) (n := 29) 3000 hW Try.func48 rfl Try.ntmps48 (by simp) ?_
  simp only [go_sem, Nat.reduceAdd, Nat.reduceSub, Nat.reduceMul, Nat.reduceEqDiff, Nat.reduceLT, Nat.reduceLeDiff, Nat.reduceBEq, Nat.reduceBNe, Int.reduceLT, Int.reduceLE, Int.reduceEq, Int.reduceAdd, Int.reduceSub, Int.reduceNeg, decide_true, decide_false, Bool.not_true, Bool.not_false, cond_true, cond_false, beq_self_eq_true, and_self, ne_eq, not_true_eq_false, not_false_eq_true, reduceCtorEq, Bool.true_beq, Bool.false_beq, geoV]
  intro g1 g2 g3
  refine plain_ok (N := 3000) (call_does (fun v G => v = .int .i64 0) rfl rfl (by kernel_rfl) rfl (by simp only [dOk_some, dOk_none, Nat.reduceLT]) (fun G hG => chk hg hd (h.mono (hG.le G0 (by simp))))) (QOk_body _ _ _) (by first | exact .inl rfl | exact .inr ⟨_, _, rfl, rfl⟩) ?_
  rintro _ ⟨v, G1, rfl, hn1, rfl⟩
  clear hn1
  by_cases e1 : f < 0
  · have he : armErr f = 2 := by unfold armErr; rw [if_pos (.inl e1)]
    have q1 : decide (f < 0) = true := by simpa using e1
    simp only [go_sem, Nat.reduceAdd, Nat.reduceSub, Nat.reduceMul, Nat.reduceEqDiff, Nat.reduceLT, Nat.reduceLeDiff, Nat.reduceBEq, Nat.reduceBNe, Int.reduceLT, Int.reduceLE, Int.reduceEq, Int.reduceAdd, Int.reduceSub, Int.reduceNeg, decide_true, decide_false, Bool.not_true, Bool.not_false, cond_true, cond_false, beq_self_eq_true, and_self, ne_eq, not_true_eq_false, not_false_eq_true, reduceCtorEq, Bool.true_beq, Bool.false_beq, q1]
    refine fin_ret (G := G0) Try.results48 ?_
    simp only [go_sem, Nat.reduceAdd, Nat.reduceSub, Nat.reduceMul, Nat.reduceEqDiff, Nat.reduceLT, Nat.reduceLeDiff, Nat.reduceBEq, Nat.reduceBNe, Int.reduceLT, Int.reduceLE, Int.reduceEq, Int.reduceAdd, Int.reduceSub, Int.reduceNeg, decide_true, decide_false, Bool.not_true, Bool.not_false, cond_true, cond_false, beq_self_eq_true, and_self, ne_eq, not_true_eq_false, not_false_eq_true, reduceCtorEq, Bool.true_beq, Bool.false_beq]
    intro a w' _ _
    exact he.symm ▸ dev_err _ _ (by decide)
  have q1 : decide (f < 0) = false := by simpa using e1
  by_cases e2 : 1048576 < f
  · have he : armErr f = 2 := by unfold armErr; rw [if_pos (.inr e2)]
    have q2 : decide (1048576 < f) = true := by simpa using e2
    simp only [go_sem, Nat.reduceAdd, Nat.reduceSub, Nat.reduceMul, Nat.reduceEqDiff, Nat.reduceLT, Nat.reduceLeDiff, Nat.reduceBEq, Nat.reduceBNe, Int.reduceLT, Int.reduceLE, Int.reduceEq, Int.reduceAdd, Int.reduceSub, Int.reduceNeg, decide_true, decide_false, Bool.not_true, Bool.not_false, cond_true, cond_false, beq_self_eq_true, and_self, ne_eq, not_true_eq_false, not_false_eq_true, reduceCtorEq, Bool.true_beq, Bool.false_beq, q1, q2]
    refine fin_ret (G := G0) Try.results48 ?_
    simp only [go_sem, Nat.reduceAdd, Nat.reduceSub, Nat.reduceMul, Nat.reduceEqDiff, Nat.reduceLT, Nat.reduceLeDiff, Nat.reduceBEq, Nat.reduceBNe, Int.reduceLT, Int.reduceLE, Int.reduceEq, Int.reduceAdd, Int.reduceSub, Int.reduceNeg, decide_true, decide_false, Bool.not_true, Bool.not_false, cond_true, cond_false, beq_self_eq_true, and_self, ne_eq, not_true_eq_false, not_false_eq_true, reduceCtorEq, Bool.true_beq, Bool.false_beq]
    intro a w' _ _
    exact he.symm ▸ dev_err _ _ (by decide)
  have q2 : decide (1048576 < f) = false := by simpa using e2
  have he : armErr f = 0 := by unfold armErr; rw [if_neg (by omega)]
  simp only [go_sem, Nat.reduceAdd, Nat.reduceSub, Nat.reduceMul, Nat.reduceEqDiff, Nat.reduceLT, Nat.reduceLeDiff, Nat.reduceBEq, Nat.reduceBNe, Int.reduceLT, Int.reduceLE, Int.reduceEq, Int.reduceAdd, Int.reduceSub, Int.reduceNeg, decide_true, decide_false, Bool.not_true, Bool.not_false, cond_true, cond_false, beq_self_eq_true, and_self, ne_eq, not_true_eq_false, not_false_eq_true, reduceCtorEq, Bool.true_beq, Bool.false_beq, q1, q2]
  refine plain_ok (N := 3000) (callO_does (OwnT d) rfl rfl (by kernel_rfl) rfl (by simp only [dOk_some, dOk_none, Nat.reduceLT]) (fun G hG => own_does d _ G (h.mono (hG.le G0 (by simp))) (tidB hG (fun _ h => h) hT hW rfl rfl (by simp) (by simp; decide)) hG.wf hg hd)) (QOk_body _ _ _) (by first | exact .inl rfl | exact .inr ⟨_, _, rfl, rfl⟩) ?_
  rintro _ ⟨v, R, G2, ⟨A4, c4, A5, c5, A6, c6, C1, C2, C3, rfl, rfl, E1, E2, E3⟩, hn2, rfl⟩
  clear hn2
  simp only [List.cons_append, List.nil_append]
  simp only [go_sem, Nat.reduceAdd, Nat.reduceSub, Nat.reduceMul, Nat.reduceEqDiff, Nat.reduceLT, Nat.reduceLeDiff, Nat.reduceBEq, Nat.reduceBNe, Int.reduceLT, Int.reduceLE, Int.reduceEq, Int.reduceAdd, Int.reduceSub, Int.reduceNeg, decide_true, decide_false, Bool.not_true, Bool.not_false, cond_true, cond_false, beq_self_eq_true, and_self, ne_eq, not_true_eq_false, not_false_eq_true, reduceCtorEq, Bool.true_beq, Bool.false_beq]
  intro g4
  refine read_ok (R1 := []) rfl fun G4 _ hs4 => ?_
  simp only [go_sem, Nat.reduceAdd, Nat.reduceSub, Nat.reduceMul, Nat.reduceEqDiff, Nat.reduceLT, Nat.reduceLeDiff, Nat.reduceBEq, Nat.reduceBNe, Int.reduceLT, Int.reduceLE, Int.reduceEq, Int.reduceAdd, Int.reduceSub, Int.reduceNeg, decide_true, decide_false, Bool.not_true, Bool.not_false, cond_true, cond_false, beq_self_eq_true, and_self, ne_eq, not_true_eq_false, not_false_eq_true, reduceCtorEq, Bool.true_beq, Bool.false_beq]
  refine read_ok (R1 := []) rfl fun G5 _ hs5 => ?_
  simp only [go_sem, Nat.reduceAdd, Nat.reduceSub, Nat.reduceMul, Nat.reduceEqDiff, Nat.reduceLT, Nat.reduceLeDiff, Nat.reduceBEq, Nat.reduceBNe, Int.reduceLT, Int.reduceLE, Int.reduceEq, Int.reduceAdd, Int.reduceSub, Int.reduceNeg, decide_true, decide_false, Bool.not_true, Bool.not_false, cond_true, cond_false, beq_self_eq_true, and_self, ne_eq, not_true_eq_false, not_false_eq_true, reduceCtorEq, Bool.true_beq, Bool.false_beq]
  refine read_ok (R1 := []) rfl fun G6 _ hs6 => ?_
  simp only [go_sem, Nat.reduceAdd, Nat.reduceSub, Nat.reduceMul, Nat.reduceEqDiff, Nat.reduceLT, Nat.reduceLeDiff, Nat.reduceBEq, Nat.reduceBNe, Int.reduceLT, Int.reduceLE, Int.reduceEq, Int.reduceAdd, Int.reduceSub, Int.reduceNeg, decide_true, decide_false, Bool.not_true, Bool.not_false, cond_true, cond_false, beq_self_eq_true, and_self, ne_eq, not_true_eq_false, not_false_eq_true, reduceCtorEq, Bool.true_beq, Bool.false_beq]
  refine fin_ret (G := G0) Try.results48 ?_
  simp only [go_sem, Nat.reduceAdd, Nat.reduceSub, Nat.reduceMul, Nat.reduceEqDiff, Nat.reduceLT, Nat.reduceLeDiff, Nat.reduceBEq, Nat.reduceBNe, Int.reduceLT, Int.reduceLE, Int.reduceEq, Int.reduceAdd, Int.reduceSub, Int.reduceNeg, decide_true, decide_false, Bool.not_true, Bool.not_false, cond_true, cond_false, beq_self_eq_true, and_self, ne_eq, not_true_eq_false, not_false_eq_true, reduceCtorEq, Bool.true_beq, Bool.false_beq]
  intro a w' _ hl
  exact dev_ok he ⟨_, rfl, _, _, _, rfl, sq_row E1 rowG_mono (hl G2 (by simp)) rfl (hs4.mono (hl G4 (by simp))), sq_row E2 wrG_mono (hl G2 (by simp)) rfl (hs5.mono (hl G5 (by simp))), sq_row E3 volG_mono (hl G2 (by simp)) rfl (hs6.mono (hl G6 (by simp)))⟩
set_option maxRecDepth 100000 in
set_option maxHeartbeats 4000000 in
theorem fetch_does {g : Geo} (hg : GoodGeo g) {d : Dev} (hd : GoodDev g d) {dv : Value} {v a n : Int} (ha : a ≤ 9223372036854775807) {G0 : GW} (hW : G0.Wf) (h : DevG G0 dv d) :
    Calls Try.prog 31 #[geoV g, dv, .int .i64 v, .int .i64 a, .int .i64 n] G0.w (Ret G0 fun u G => BytE G u (fetErr d v a n) (fetBytes d v a n)) := by
  obtain ⟨A1, k1, A2, k2, A3, k3, rfl, hs, hc, hv⟩ := h.form
  refine enter (G := G0) (n := 57) 3000 hW Try.func31 rfl Try.ntmps31 (by simp) ?_
  simp only [go_sem, Nat.reduceAdd, Nat.reduceSub, Nat.reduceMul, Nat.reduceEqDiff, Nat.reduceLT, Nat.reduceLeDiff, Nat.reduceBEq, Nat.reduceBNe, Int.reduceLT, Int.reduceLE, Int.reduceEq, Int.reduceAdd, Int.reduceSub, Int.reduceNeg, decide_true, decide_false, Bool.not_true, Bool.not_false, cond_true, cond_false, beq_self_eq_true, and_self, ne_eq, not_true_eq_false, not_false_eq_true, reduceCtorEq, Bool.true_beq, Bool.false_beq, geoV]
  intro g1 g2
  refine plain_ok (N := 3000) (call_does (fun v G => v = .int .i64 0) rfl rfl (by kernel_rfl) rfl (by simp only [dOk_some, dOk_none, Nat.reduceLT]) (fun G hG => chk hg hd (h.mono (hG.le G0 (by simp))))) (QOk_body _ _ _) (by first | exact .inl rfl | exact .inr ⟨_, _, rfl, rfl⟩) ?_
  rintro _ ⟨_, G1, rfl, hn1, rfl⟩
  clear hn1
  simp only [go_sem, Nat.reduceAdd, Nat.reduceSub, Nat.reduceMul, Nat.reduceEqDiff, Nat.reduceLT, Nat.reduceLeDiff, Nat.reduceBEq, Nat.reduceBNe, Int.reduceLT, Int.reduceLE, Int.reduceEq, Int.reduceAdd, Int.reduceSub, Int.reduceNeg, decide_true, decide_false, Bool.not_true, Bool.not_false, cond_true, cond_false, beq_self_eq_true, and_self, ne_eq, not_true_eq_false, not_false_eq_true, reduceCtorEq, Bool.true_beq, Bool.false_beq]
  refine plain_ok (N := 3000) (call_does (fun u G => u = .bool (volOk d v)) rfl rfl (by kernel_rfl) rfl (by simp only [dOk_some, dOk_none, Nat.reduceLT]) (fun G hG => vol_ret (h.mono (hG.le G0 (by simp))) v)) (QOk_body _ _ _) (by first | exact .inl rfl | exact .inr ⟨_, _, rfl, rfl⟩) ?_
  rintro _ ⟨_, G2, rfl, hn2, rfl⟩
  clear hn2
  cases hvo : volOk d v with
  | false =>
    have he : fetErr d v a n = 6 := by unfold fetErr; rw [if_pos hvo]
    simp only [go_sem, Nat.reduceAdd, Nat.reduceSub, Nat.reduceMul, Nat.reduceEqDiff, Nat.reduceLT, Nat.reduceLeDiff, Nat.reduceBEq, Nat.reduceBNe, Int.reduceLT, Int.reduceLE, Int.reduceEq, Int.reduceAdd, Int.reduceSub, Int.reduceNeg, decide_true, decide_false, Bool.not_true, Bool.not_false, cond_true, cond_false, beq_self_eq_true, and_self, ne_eq, not_true_eq_false, not_false_eq_true, reduceCtorEq, Bool.true_beq, Bool.false_beq]
    refine fin_ret (G := G0) Try.results31 ?_
    simp only [go_sem, Nat.reduceAdd, Nat.reduceSub, Nat.reduceMul, Nat.reduceEqDiff, Nat.reduceLT, Nat.reduceLeDiff, Nat.reduceBEq, Nat.reduceBNe, Int.reduceLT, Int.reduceLE, Int.reduceEq, Int.reduceAdd, Int.reduceSub, Int.reduceNeg, decide_true, decide_false, Bool.not_true, Bool.not_false, cond_true, cond_false, beq_self_eq_true, and_self, ne_eq, not_true_eq_false, not_false_eq_true, reduceCtorEq, Bool.true_beq, Bool.false_beq]
    intro a w' _ _
    exact he.symm ▸ byt_err _ _ (by decide)
  | true =>
    obtain ⟨k, x, rfl, hx, hgo⟩ := volOk_in hvo
    obtain ⟨m1, m2, m3, _⟩ := hd.vol hx
    have m4 := hg.v2
    have hvl : volLen d (k : Int) = x.data.length := by simp [volLen, hx]
    have hvb : fetBytes d (k : Int) a n = (x.data.drop a.toNat).take n.toNat := by simp [fetBytes, hx]
    simp only [go_sem, Nat.reduceAdd, Nat.reduceSub, Nat.reduceMul, Nat.reduceEqDiff, Nat.reduceLT, Nat.reduceLeDiff, Nat.reduceBEq, Nat.reduceBNe, Int.reduceLT, Int.reduceLE, Int.reduceEq, Int.reduceAdd, Int.reduceSub, Int.reduceNeg, decide_true, decide_false, Bool.not_true, Bool.not_false, cond_true, cond_false, beq_self_eq_true, and_self, ne_eq, not_true_eq_false, not_false_eq_true, reduceCtorEq, Bool.true_beq, Bool.false_beq]
    refine plain_ok (N := 3000) (elemC_does (R := VolG) (l := d.vols) (m := k) rfl tySlice35 tySize104 rfl rfl (by simp only [dOk_some, dOk_none, Nat.reduceLT]) rfl hx (fun G hG => (Sq.mono hv volG_mono (hG.le G0 (by simp))).sc)) (QOk_body _ _ _) (by first | exact .inl rfl | exact .inr ⟨_, _, rfl, rfl⟩) ?_
    rintro _ ⟨gw, ow, cs, G4, hcl, hcR, hn4, rfl⟩
    obtain ⟨A7, c7, rfl, hb7⟩ := volcells hcR
    clear hn4 hcl hcR
    have hE : ∀ e, fetErr d (k : Int) a n = e ↔ (if a < 0 ∨ n < 0 ∨ (x.data.length : Int) < a + n then (2 : Int) else 0) = e := by
      intro e; unfold fetErr; rw [if_neg (by rw [hvo]; decide), hvl]
    by_cases e1 : a < 0
    · have he : fetErr d (k : Int) a n = 2 := by rw [hE, if_pos (.inl e1)]
      have q1 : decide (a < 0) = true := by simpa using e1
      simp only [go_sem, Nat.reduceAdd, Nat.reduceSub, Nat.reduceMul, Nat.reduceEqDiff, Nat.reduceLT, Nat.reduceLeDiff, Nat.reduceBEq, Nat.reduceBNe, Int.reduceLT, Int.reduceLE, Int.reduceEq, Int.reduceAdd, Int.reduceSub, Int.reduceNeg, decide_true, decide_false, Bool.not_true, Bool.not_false, cond_true, cond_false, beq_self_eq_true, and_self, ne_eq, not_true_eq_false, not_false_eq_true, reduceCtorEq, Bool.true_beq, Bool.false_beq, q1]
      refine fin_ret (G := G0) Try.results31 ?_
      simp only [go_sem, Nat.reduceAdd, Nat.reduceSub, Nat.reduceMul, Nat.reduceEqDiff, Nat.reduceLT, Nat.reduceLeDiff, Nat.reduceBEq, Nat.reduceBNe, Int.reduceLT, Int.reduceLE, Int.reduceEq, Int.reduceAdd, Int.reduceSub, Int.reduceNeg, decide_true, decide_false, Bool.not_true, Bool.not_false, cond_true, cond_false, beq_self_eq_true, and_self, ne_eq, not_true_eq_false, not_false_eq_true, reduceCtorEq, Bool.true_beq, Bool.false_beq]
      intro a w' _ _
      exact he.symm ▸ byt_err _ _ (by decide)
    have q1 : decide (a < 0) = false := by simpa using e1
    by_cases e2 : n < 0
    · have he : fetErr d (k : Int) a n = 2 := by rw [hE, if_pos (.inr (.inl e2))]
      have q2 : decide (n < 0) = true := by simpa using e2
      simp only [go_sem, Nat.reduceAdd, Nat.reduceSub, Nat.reduceMul, Nat.reduceEqDiff, Nat.reduceLT, Nat.reduceLeDiff, Nat.reduceBEq, Nat.reduceBNe, Int.reduceLT, Int.reduceLE, Int.reduceEq, Int.reduceAdd, Int.reduceSub, Int.reduceNeg, decide_true, decide_false, Bool.not_true, Bool.not_false, cond_true, cond_false, beq_self_eq_true, and_self, ne_eq, not_true_eq_false, not_false_eq_true, reduceCtorEq, Bool.true_beq, Bool.false_beq, q1, q2]
      refine fin_ret (G := G0) Try.results31 ?_
      simp only [go_sem, Nat.reduceAdd, Nat.reduceSub, Nat.reduceMul, Nat.reduceEqDiff, Nat.reduceLT, Nat.reduceLeDiff, Nat.reduceBEq, Nat.reduceBNe, Int.reduceLT, Int.reduceLE, Int.reduceEq, Int.reduceAdd, Int.reduceSub, Int.reduceNeg, decide_true, decide_false, Bool.not_true, Bool.not_false, cond_true, cond_false, beq_self_eq_true, and_self, ne_eq, not_true_eq_false, not_false_eq_true, reduceCtorEq, Bool.true_beq, Bool.false_beq]
      intro a w' _ _
      exact he.symm ▸ byt_err _ _ (by decide)
    have q2 : decide (n < 0) = false := by simpa using e2
    by_cases e3 : (x.data.length : Int) < a
    · have he : fetErr d (k : Int) a n = 2 := by rw [hE, if_pos (.inr (.inr (by omega)))]
      have q3 : decide ((x.data.length : Int) < a) = true := by simpa using e3
      simp only [go_sem, Nat.reduceAdd, Nat.reduceSub, Nat.reduceMul, Nat.reduceEqDiff, Nat.reduceLT, Nat.reduceLeDiff, Nat.reduceBEq, Nat.reduceBNe, Int.reduceLT, Int.reduceLE, Int.reduceEq, Int.reduceAdd, Int.reduceSub, Int.reduceNeg, decide_true, decide_false, Bool.not_true, Bool.not_false, cond_true, cond_false, beq_self_eq_true, and_self, ne_eq, not_true_eq_false, not_false_eq_true, reduceCtorEq, Bool.true_beq, Bool.false_beq, q1, q2, q3]
      refine fin_ret (G := G0) Try.results31 ?_
      simp only [go_sem, Nat.reduceAdd, Nat.reduceSub, Nat.reduceMul, Nat.reduceEqDiff, Nat.reduceLT, Nat.reduceLeDiff, Nat.reduceBEq, Nat.reduceBNe, Int.reduceLT, Int.reduceLE, Int.reduceEq, Int.reduceAdd, Int.reduceSub, Int.reduceNeg, decide_true, decide_false, Bool.not_true, Bool.not_false, cond_true, cond_false, beq_self_eq_true, and_self, ne_eq, not_true_eq_false, not_false_eq_true, reduceCtorEq, Bool.true_beq, Bool.false_beq]
      intro a w' _ _
      exact he.symm ▸ byt_err _ _ (by decide)
    have q3 : decide ((x.data.length : Int) < a) = false := by simpa using e3
    by_cases e4 : (x.data.length : Int) - a < n
    · have he : fetErr d (k : Int) a n = 2 := by rw [hE, if_pos (.inr (.inr (by omega)))]
      have q4 : decide ((x.data.length : Int) - a < n) = true := by simpa using e4
      simp only [go_sem, Nat.reduceAdd, Nat.reduceSub, Nat.reduceMul, Nat.reduceEqDiff, Nat.reduceLT, Nat.reduceLeDiff, Nat.reduceBEq, Nat.reduceBNe, Int.reduceLT, Int.reduceLE, Int.reduceEq, Int.reduceAdd, Int.reduceSub, Int.reduceNeg, decide_true, decide_false, Bool.not_true, Bool.not_false, cond_true, cond_false, beq_self_eq_true, and_self, ne_eq, not_true_eq_false, not_false_eq_true, reduceCtorEq, Bool.true_beq, Bool.false_beq, q1, q2, q3, q4]
      refine ⟨by omega, ?_⟩
      refine fin_ret (G := G0) Try.results31 ?_
      simp only [go_sem, Nat.reduceAdd, Nat.reduceSub, Nat.reduceMul, Nat.reduceEqDiff, Nat.reduceLT, Nat.reduceLeDiff, Nat.reduceBEq, Nat.reduceBNe, Int.reduceLT, Int.reduceLE, Int.reduceEq, Int.reduceAdd, Int.reduceSub, Int.reduceNeg, decide_true, decide_false, Bool.not_true, Bool.not_false, cond_true, cond_false, beq_self_eq_true, and_self, ne_eq, not_true_eq_false, not_false_eq_true, reduceCtorEq, Bool.true_beq, Bool.false_beq]
      intro a w' _ _
      exact he.symm ▸ byt_err _ _ (by decide)
    have q4 : decide ((x.data.length : Int) - a < n) = false := by simpa using e4
    have he : fetErr d (k : Int) a n = 0 := by rw [hE, if_neg (by omega)]
    simp only [go_sem, Nat.reduceAdd, Nat.reduceSub, Nat.reduceMul, Nat.reduceEqDiff, Nat.reduceLT, Nat.reduceLeDiff, Nat.reduceBEq, Nat.reduceBNe, Int.reduceLT, Int.reduceLE, Int.reduceEq, Int.reduceAdd, Int.reduceSub, Int.reduceNeg, decide_true, decide_false, Bool.not_true, Bool.not_false, cond_true, cond_false, beq_self_eq_true, and_self, ne_eq, not_true_eq_false, not_false_eq_true, reduceCtorEq, Bool.true_beq, Bool.false_beq, q1, q2, q3, q4]
    refine ⟨by omega, by omega, ?_⟩
    obtain ⟨l, rfl⟩ := Int.eq_ofNat_of_zero_le (by omega : 0 ≤ a)
    obtain ⟨m, rfl⟩ := Int.eq_ofNat_of_zero_le (by omega : 0 ≤ n)
    have hcc : x.data.length ≤ c7 := by obtain ⟨_, _, e, q, _⟩ := hb7.form; cases e; exact q
    refine plain_ok (N := 3000) (cut_does l m (c7 - l) rfl tySlice23 tySize5 rfl ⟨_, _, rfl, rfl⟩ ⟨_, _, rfl, by omega⟩ (show l + (c7 - l) = c7 from by omega) (by simp) (by simp only [dOk_some, dOk_none, Nat.reduceLT]) (by omega) (by omega) (by omega) (fun G hG => (hb7.mono (hG.le G4 (by simp)) : Sl _ _ _ _ _ _))) (QOk_body _ _ _) (by first | exact .inl rfl | exact .inr ⟨_, _, rfl, rfl⟩) ?_
    rintro _ ⟨A9, G5, hs9, hn5, rfl⟩
    clear hn5
    have hb9 := byG_cut hs9 (by omega)
    simp only [go_sem, Nat.reduceAdd, Nat.reduceSub, Nat.reduceMul, Nat.reduceEqDiff, Nat.reduceLT, Nat.reduceLeDiff, Nat.reduceBEq, Nat.reduceBNe, Int.reduceLT, Int.reduceLE, Int.reduceEq, Int.reduceAdd, Int.reduceSub, Int.reduceNeg, decide_true, decide_false, Bool.not_true, Bool.not_false, cond_true, cond_false, beq_self_eq_true, and_self, ne_eq, not_true_eq_false, not_false_eq_true, reduceCtorEq, Bool.true_beq, Bool.false_beq]
    refine plain_ok (N := 3000) (call_does (fun u G => ∃ A c, u = .slice A ((x.data.drop l).take m).length c ∧ ByG G u ((x.data.drop l).take m)) rfl rfl (by kernel_rfl) rfl (by simp only [dOk_some, dOk_none, Nat.reduceLT]) (fun G hG => clone_ret hG.wf (hb9.mono (hG.le G5 (by simp))) (by simp; omega))) (QOk_body _ _ _) (by first | exact .inl rfl | exact .inr ⟨_, _, rfl, rfl⟩) ?_
    rintro _ ⟨_, G6, ⟨A10, c10, rfl, hb10⟩, hn6, rfl⟩
    clear hn6
    simp only [go_sem, Nat.reduceAdd, Nat.reduceSub, Nat.reduceMul, Nat.reduceEqDiff, Nat.reduceLT, Nat.reduceLeDiff, Nat.reduceBEq, Nat.reduceBNe, Int.reduceLT, Int.reduceLE, Int.reduceEq, Int.reduceAdd, Int.reduceSub, Int.reduceNeg, decide_true, decide_false, Bool.not_true, Bool.not_false, cond_true, cond_false, beq_self_eq_true, and_self, ne_eq, not_true_eq_false, not_false_eq_true, reduceCtorEq, Bool.true_beq, Bool.false_beq]
    refine fin_ret (G := G0) Try.results31 ?_
    simp only [go_sem, Nat.reduceAdd, Nat.reduceSub, Nat.reduceMul, Nat.reduceEqDiff, Nat.reduceLT, Nat.reduceLeDiff, Nat.reduceBEq, Nat.reduceBNe, Int.reduceLT, Int.reduceLE, Int.reduceEq, Int.reduceAdd, Int.reduceSub, Int.reduceNeg, decide_true, decide_false, Bool.not_true, Bool.not_false, cond_true, cond_false, beq_self_eq_true, and_self, ne_eq, not_true_eq_false, not_false_eq_true, reduceCtorEq, Bool.true_beq, Bool.false_beq]
    intro a w' _ hl
    refine byt_ok he ⟨_, rfl, ?_⟩
    rw [hvb]
    exact hb10.mono (hl G6 (by simp))
end Go.Proofs.Ytomfladifefomaa
