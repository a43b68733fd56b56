/- What a commit leaves on devices that die in it. Conditions: as each law states them. -/
import Derived.Test.YtomfladifefomaaR5
import Derived.Test.YtomfladifefomaaU18
namespace Go.Proofs.Ytomfladifefomaa
open Go.RowKit
set_option linter.unusedSimpArgs false
theorem valTo_puts (ok : Nat → Bool) (d : Dev) (a : Int) (bs : List UInt8) (n : Nat) : valTo ok (putDev d a bs) n (putDev d a bs).cache.length = if (ok d.cache.length && decide (a = (n : Int))) = true then sec bs else valTo ok d n d.cache.length := by
  have hl : (putDev d a bs).cache.length = d.cache.length + 1 := putDev_cache d a bs
  have hx : (putDev d a bs).cache[d.cache.length]? = some ⟨a, sec bs⟩ := by
    show (d.cache ++ [⟨a, sec bs⟩])[d.cache.length]? = _
    rw [List.getElem?_append_right (Nat.le_refl _), Nat.sub_self]
    rfl
  rw [hl, valTo, hx]
  simp only
  split
  · rfl
  · exact valTo_app ok d ⟨a, sec bs⟩ n (putDev d a bs) rfl rfl d.cache.length (Nat.le_refl _)
theorem txGo_same {g : Geo} {c c' : Nat → List UInt8} {place n low : Int} (h : ∀ p, c' (ringAt g p) = c (ringAt g p)) : ∀ {f i : Nat} {ep : Int} {out : List UInt8}, txGo g c' place n low f i ep out = txGo g c place n low f i ep out
  | 0, _, _, _ => rfl
  | f + 1, i, ep, out => by
    unfold txGo
    rw [h, txGo_same h (f := f)]
/-- what may have become of a sector behind a crash -/
def Either (g : Geo) (j : Jr) (b : List UInt8) (m : Nat) (old v : List UInt8) (n : Nat) : Prop := v = old ∨ ∃ i : Nat, i < m ∧ n = ringAt g (j.place + (i : Int)) ∧ v = sec (frB (frAt j.epoch j.next b i))
theorem Either.more {g : Geo} {j : Jr} {b : List UInt8} {m m' : Nat} (hm : m ≤ m') {old v : List UInt8} {n : Nat} (h : Either g j b m old v n) : Either g j b m' old v n := by
  rcases h with h | ⟨i, hi, h⟩
  · exact .inl h
  · exact .inr ⟨i, by omega, h⟩
/-- frames put one behind the other, on devices that may die -/
theorem commitTo_any {g : Geo} (hg : GoodGeo g) {d : Dev} (hd : GoodDev g d) (hc : d.cache.length = 0) {j : Jr} {b : List UInt8} (hcn : (cnt b : Int) ≤ g.ring) : ∀ m, m ≤ cnt b → ∃ x e, commitTo g d j b m = (x, e) ∧ x.safe = d.safe ∧ x.cache.length ≤ m ∧ (∀ (ok : Nat → Bool) (n : Nat), Either g j b m (content d n) (valTo ok x n x.cache.length) n) ∧ (e = 10 ∨ (e = 0 ∧
    (∀ i : Nat, i < m → content x (ringAt g (j.place + (i : Int))) = sec (frB (frAt j.epoch j.next b i))) ∧ (∀ n, (∀ i : Nat, i < m → n ≠ ringAt g (j.place + (i : Int))) → content x n = content d n)))
  | 0, _ => ⟨d, 0, rfl, rfl, by omega, fun ok n => .inl (by unfold content; rw [hc]; rfl), .inr ⟨rfl, fun i hi => absurd hi (by omega), fun _ _ => rfl⟩⟩
  | m + 1, hm => by
    obtain ⟨x, e, h1, h2, h3, h4, h5⟩ := commitTo_any hg hd hc (j := j) hcn m (by omega)
    have hr2 := hg.r2
    have hlt := ringAt_lt hg hd (j.place + (m : Int))
    have heq := ringAt_eq hg (j.place + (m : Int))
    rcases h5 with rfl | ⟨rfl, h6, h7⟩
    · exact ⟨x, 10, by rw [commitTo, h1]; rfl, h2, by omega, fun ok n => (h4 ok n).more (by omega), .inl rfl⟩
    · by_cases hf : x.fuel = 0
      · refine ⟨x, 10, ?_, h2, by omega, fun ok n => (h4 ok n).more (by omega), .inl rfl⟩
        rw [commitTo, h1]
        have hp : putErr x (2 + HMod.hMod (j.place + (m : Int)) g.ring) (frB (frAt j.epoch j.next b m)).length = 10 := by
          have := fr_len (e := j.epoch) (n := j.next) (b := b) (i := m) (by omega)
          unfold putErr
          rw [if_neg (by rw [h2]; omega), if_neg (by omega), if_neg (by omega), if_pos hf]
        simp [hPut, hp]
      · refine ⟨putDev x (2 + HMod.hMod (j.place + (m : Int)) g.ring) (frB (frAt j.epoch j.next b m)), 0, ?_, h2, by rw [putDev_cache]; omega, fun ok n => ?_, .inr ⟨rfl, fun i hi => ?_, fun n hn => ?_⟩⟩
        · rw [commitTo, h1]
          exact hPut_ok (by omega) (by rw [h2]; omega) (fr_len (by omega)) (by omega) hf
        · rw [valTo_puts]
          split
          · rename_i q
            rw [Bool.and_eq_true, decide_eq_true_eq] at q
            exact .inr ⟨m, by omega, (ringAt_int hg _ _).1 q.2, rfl⟩
          · exact (h4 ok n).more (by omega)
        · rw [content_put]
          by_cases ei : i = m
          · subst ei
            rw [if_pos heq]
          · rw [if_neg, h6 i (by omega)]
            intro q
            have q2 := (ringAt_int hg _ _).1 q
            have := ringAt_inj hg (by omega) (by omega) q2
            omega
        · rw [content_put, if_neg, h7 n fun i hi => hn i (by omega)]
          intro q
          exact hn m (by omega) ((ringAt_int hg _ _).1 q)
/-- behind a crash the transaction is there whole, or it is none -/
theorem die_kept {g : Geo} (hg : GoodGeo g) {d : Dev} (hd : GoodDev g d) (hc : d.cache.length = 0) {j : Jr} {b : List UInt8} {snap : List UInt8} {l : List (Int × List UInt8)} (hk : Kept g (content d) j snap l 0) (hfit : ¬ fullJ g j b) :
    ((hFlush (commitTo g d j b (cnt b))).2 = 0 ∨ (hFlush (commitTo g d j b (cnt b))).2 = 10) ∧ GoodDev g (hFlush (commitTo g d j b (cnt b))).1 ∧
    ∀ keep, Kept g (content (crashDev (hFlush (commitTo g d j b (cnt b))).1 keep 0)) (moreJ g j b) snap (l ++ [(j.epoch, b)]) 0 ∨
      ((hFlush (commitTo g d j b (cnt b))).2 = 10 ∧ Kept g (content (crashDev (hFlush (commitTo g d j b (cnt b))).1 keep 0)) j snap l 1 ∧
        Stops g (content (crashDev (hFlush (commitTo g d j b (cnt b))).1 keep 0)) (j.start + (total l : Int)) (j.first + (l.length : Int)) (lastE 0 l) (total l)) := by
  have hj := of_decide_eq_true hk.ok
  have hfit1 : j.used + (cnt b : Int) ≤ g.ring ∧ j.next ≠ 1048576 := by
    unfold fullJ at hfit
    omega
  have hgx := commitTo_good hd j b (cnt b)
  obtain ⟨x, e, h1, h2, h3, h4, h5⟩ := commitTo_any hg hd hc (j := j) (b := b) (by omega) (cnt b) (Nat.le_refl _)
  rw [h1] at hgx ⊢
  have hdie : ∀ keep, Kept g (content (crashDev x keep 0)) (moreJ g j b) snap (l ++ [(j.epoch, b)]) 0 ∨ (Kept g (content (crashDev x keep 0)) j snap l 1 ∧ Stops g (content (crashDev x keep 0)) (j.start + (total l : Int)) (j.first + (l.length : Int)) (lastE 0 l) (total l)) := fun keep => by
    have hcr : ∀ n, n < d.safe.length → Either g j b (cnt b) (content d n) (content (crashDev x keep 0) n) n := fun n hn => by
      rw [content_crash hgx keep 0 n (by rw [h2]; exact hn)]
      exact h4 _ n
    have ht := hk.torn (c' := fun n => if n < d.safe.length then content (crashDev x keep 0) n else content d n) hg hfit1.1 (by omega) (fun n => by
      by_cases hn : n < d.safe.length
      · show (if n < d.safe.length then _ else _) = _ ∨ _
        rw [if_pos hn]
        rcases hcr n hn with q | ⟨i, hi, e1, e2⟩
        · exact .inl q
        · exact .inr ⟨i, hi, e1, e2⟩
      · exact .inl (if_neg hn))
    have hon : ∀ n, n < d.safe.length → content (crashDev x keep 0) n = (fun n => if n < d.safe.length then content (crashDev x keep 0) n else content d n) n := fun n hn => (if_pos hn).symm
    rcases ht with q | ⟨q1, q2⟩
    · exact .inl (q.on hg hd hon)
    · refine .inr ⟨q1.on hg hd hon, ?_⟩
      rcases q2 with q2 | q2
      · exact .inl q2
      · refine .inr ?_
        rw [← q2]
        exact txGo_same fun p => hon _ (ringAt_lt hg hd p)
  rcases h5 with rfl | ⟨rfl, h6, h7⟩
  · have e1 : hFlush (x, 10) = (x, 10) := by simp [hFlush]
    rw [e1]
    exact ⟨.inr rfl, hgx, fun keep => (hdie keep).imp id fun q => ⟨rfl, q⟩⟩
  · by_cases hf : x.fuel = 0
    · have e1 : hFlush (x, 0) = (x, 10) := by
        have : downErr x = 10 := by unfold downErr; rw [if_pos hf]
        simp [hFlush, this]
      rw [e1]
      exact ⟨.inr rfl, hgx, fun keep => (hdie keep).imp id fun q => ⟨rfl, q⟩⟩
    · rw [hFlush_ok hf]
      refine ⟨.inl rfl, good_flush hgx, fun keep => .inl ?_⟩
      have hcon : ∀ n, n < d.safe.length → content (flushDev x) n = content x n := fun n hn => content_flush hgx n (by rw [h2]; exact hn)
      have hkk := ((kept_weak hk).commit (c' := content x) hg hfit1.1 (by omega) h6 h7).on hg hd hcon
      exact hkk.on hg (good_flush hgx) fun n hn => crash_same (good_flush hgx) rfl keep hn
end Go.Proofs.Ytomfladifefomaa
