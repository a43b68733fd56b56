/- The plain law of pieces on a tape. Conditions: as each law states them. -/
import Derived.Test.YtomfladifefomaaY3
import Derived.Test.YtomfladifefomaaK1
namespace Go.Proofs.Ytomfladifefomaa
open Go.RowKit
set_option linter.unusedSimpArgs false
theorem packTo_split (ids : List Int) (bs : List (List UInt8)) : ∀ n k, k < n → ∃ rest, packTo ids bs n = packTo ids bs k ++ ((headB (ids.getD k 0) ((bs.getD k []).length : Int) ++ bs.getD k []) ++ rest)
  | 0, k, h => absurd h (by omega)
  | n + 1, k, h => by
    by_cases e : k = n
    · subst e
      exact ⟨[], by simp [packTo]⟩
    · obtain ⟨rest, hr⟩ := packTo_split ids bs n k (by omega)
      refine ⟨rest ++ (headB (ids.getD n 0) ((bs.getD n []).length : Int) ++ bs.getD n []), ?_⟩
      conv => lhs; unfold packTo
      rw [hr]
      simp only [List.append_assoc]
theorem piecesTo_at (at_ : Int) (ids : List Int) (bs : List (List UInt8)) : ∀ n k, k < n → (piecesTo at_ ids bs n)[k]? = some ⟨ids.getD k 0, at_ + ((packTo ids bs k).length : Int), ((bs.getD k []).length : Int)⟩
  | 0, k, h => absurd h (by omega)
  | n + 1, k, h => by
    unfold piecesTo
    by_cases e : k < n
    · rw [List.getElem?_append_left (by rw [piecesTo_len]; exact e)]
      exact piecesTo_at at_ ids bs n k e
    · have : k = n := by omega
      subst this
      rw [List.getElem?_append_right (by rw [piecesTo_len]; exact Nat.le_refl _), piecesTo_len, Nat.sub_self]
      rfl
theorem packTo_take {ids : List Int} {bs : List (List UInt8)} {n : Nat} : ∀ k, k ≤ n → packTo (ids.take n) (bs.take n) k = packTo ids bs k
  | 0, _ => rfl
  | k + 1, h => by
    unfold packTo
    have e1 : (ids.take n).getD k 0 = ids.getD k 0 := by rw [List.getD_eq_getElem?_getD, List.getD_eq_getElem?_getD, List.getElem?_take_of_lt (by omega)]
    have e2 : (bs.take n).getD k [] = bs.getD k [] := by rw [List.getD_eq_getElem?_getD, List.getD_eq_getElem?_getD, List.getElem?_take_of_lt (by omega)]
    rw [packTo_take k (by omega), e1, e2]
theorem piece_fetch {d : Dev} {a : List UInt8} {ids : List Int} {bs : List (List UInt8)} {n k : Nat} {sy : Int} (hv : d.vols[0]? = some ⟨a ++ packTo ids bs n, sy, false⟩) (hk : k < n) :
    fetErr d 0 ((a.length : Int) + ((packTo ids bs k).length : Int)) (6 + ((bs.getD k []).length : Int)) = 0 ∧
    fetBytes d 0 ((a.length : Int) + ((packTo ids bs k).length : Int)) (6 + ((bs.getD k []).length : Int)) = headB (ids.getD k 0) ((bs.getD k []).length : Int) ++ bs.getD k [] := by
  obtain ⟨rest, hr⟩ := packTo_split ids bs n k hk
  generalize hH : headB (ids.getD k 0) ((bs.getD k []).length : Int) = H at hr
  have hH6 : H.length = 6 := by rw [← hH]; rfl
  generalize bs.getD k [] = b at hr
  generalize packTo ids bs k = p at hr
  have hvl : volLen d 0 = a.length + (p.length + (6 + b.length + rest.length)) := by
    simp only [volLen]
    show (match d.vols[0]? with | some x => x.data.length | none => 0) = _
    rw [hv, hr]
    simp only [List.length_append, hH6]
  constructor
  · unfold fetErr
    have hok : volOk d 0 = true := by
      unfold volOk
      show (decide (0 ≤ (0 : Int)) && match d.vols[0]? with | some x => !x.gone | none => false) = true
      rw [hv]
      rfl
    rw [if_neg (by rw [hok]; simp), if_neg (by rw [hvl]; omega)]
  · unfold fetBytes
    show (match d.vols[0]? with | some x => (x.data.drop ((a.length : Int) + (p.length : Int)).toNat).take (6 + (b.length : Int)).toNat | none => []) = _
    rw [hv]
    have e1 : ((a.length : Int) + (p.length : Int)).toNat = (a ++ p).length := by rw [List.length_append]; omega
    have e2 : (6 + (b.length : Int)).toNat = (H ++ b).length := by rw [List.length_append, hH6]; omega
    simp only [e1, e2, hr]
    rw [← List.append_assoc, List.drop_left', List.take_left']
    · rfl
    · rfl
theorem head_next {i : Int} {n m : Int} : headB i n ≠ headB (i + 1) m := by
  intro h
  unfold headB at h
  simp only [List.cons.injEq] at h
  have := byteOf_inj h.2.2.2.1
  omega
def idOf (z : Raw) : Int := 1 + pick z.a 1000
def bodyB (z : Raw) : List UInt8 := ((bodyOf z.text z.c).extract (Int.toNat 0) (min ((bodyOf z.text z.c).size : Int) 250).toNat).data.toList
theorem bodyB_len (z : Raw) : (bodyB z).length ≤ 250 := by
  unfold bodyB
  rw [Array.length_toList]
  show ((bodyOf z.text z.c).extract _ _).size ≤ 250
  simp
  omega
theorem vol_fresh {g : Geo} {d : Dev} {bs : List UInt8} (h1 : d.vols = []) (h2 : 1 ≤ g.volumes) (h3 : (bs.length : Int) ≤ g.volume) (h4 : d.fuel = -1) : appErr g d 0 bs.length = 0 ∧ (appDev g d 0 bs).vols[0]? = some ⟨bs, 0, false⟩ ∧ (appDev g d 0 bs).fuel = -1 := by
  have hf : appFresh g d 0 = true := by simp only [appFresh, Bool.and_eq_true, decide_eq_true_eq, h1]; exact ⟨rfl, by omega⟩
  refine ⟨?_, ?_, app_fuel h4⟩
  · unfold appErr appLen
    rw [if_neg (by simp [hf]), if_neg (by simp [hf]; omega), if_neg (by omega)]
  · simp [appDev, hf, h1]
theorem vol_more {g : Geo} {d : Dev} {x bs : List UInt8} {sy : Int} (hx : d.vols[0]? = some ⟨x, sy, false⟩) (h3 : (x.length : Int) + (bs.length : Int) ≤ g.volume) (h4 : d.fuel = -1) : appErr g d 0 bs.length = 0 ∧ (appDev g d 0 bs).vols[0]? = some ⟨x ++ bs, sy, false⟩ := by
  have hkl : 0 < d.vols.length := (List.getElem?_eq_some_iff.1 hx).1
  have hf : appFresh g d 0 = false := by simp [appFresh]; omega
  have hv : volOk d 0 = true := by
    unfold volOk
    show (decide (0 ≤ (0 : Int)) && match d.vols[0]? with | some x => !x.gone | none => false) = true
    rw [hx]
    rfl
  have hvl : volLen d 0 = x.length := by
    simp only [volLen]
    show (match d.vols[0]? with | some x => x.data.length | none => 0) = _
    rw [hx]
  constructor
  · unfold appErr appLen
    rw [if_neg (by simp [hv]), if_neg (by simp only [hf, hvl]; simp; omega), if_neg (by omega)]
  · have : (appDev g d 0 bs).vols = d.vols.set 0 ⟨x ++ bs, sy, false⟩ := by
      unfold appDev
      simp only [hf, Bool.false_eq_true, if_false]
      show (match d.vols[0]? with | some y => d.vols.set 0 ⟨y.data ++ bs, y.synced, y.gone⟩ | none => d.vols) = _
      rw [hx]
    rw [this, List.getElem?_set_self hkl]
theorem saf_of {G : GW} {v : Value} {us : List Value} {l : List (List UInt8)} (h : Sl G 23 1 l.length v us) (hu : ∀ (j : Nat) (u : Value) (x : List UInt8), us[j]? = some u → l[j]? = some x → ByG G u x) : SafG G v l := by
  have hlen : us.length = l.length := by obtain ⟨_, _, _, _, _, q, _⟩ := h; omega
  refine ⟨us.map fun u => [u], ⟨by simp [hlen], by simp, fun i cs x h1 h2 => ?_⟩, ?_⟩
  · rw [List.getElem?_map] at h1
    cases hx : us[i]? with
    | none => rw [hx] at h1; cases h1
    | some u =>
      rw [hx] at h1
      cases h1
      exact ⟨u, rfl, hu i u x hx h2⟩
  · have : (us.map fun u => [u]).flatten = us := by
      clear h hu hlen
      induction us with
      | nil => rfl
      | cons a r ih => simp [ih]
    rw [this]
    exact h
end Go.Proofs.Ytomfladifefomaa
