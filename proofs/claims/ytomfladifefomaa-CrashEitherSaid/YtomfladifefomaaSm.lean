/- Rows of elements of some cells that are written in their midst. Names no program. Conditions: as each law states them. -/
import Derived.Test.YtomfladifefomaaSk
import Derived.Test.YtomfladifefomaaOp
namespace Go.Proofs.Ytomfladifefomaa
open Go.RowKit
/-- cells of rows of k cells each, place by place -/
def PWk {α : Type} (R : GW → α → List Value → Prop) (k : Nat) (G : GW) (S : List Value) (l : List α) : Prop := ∀ (j : Nat) (x : α), l[j]? = some x → ∃ cs : List Value, cs.length = k ∧ R G x cs ∧ ∀ (i : Nat) (u : Value), cs[i]? = some u → S[j * k + i]? = some u
section
variable {α : Type} {R : GW → α → List Value → Prop} {G G' : GW} {S : List Value} {l : List α} {k : Nat}
theorem PWk.mono (h : PWk R k G S l) (hR : MonoR R) (hl : G.Le G') : PWk R k G' S l := fun j x hx => let ⟨cs, h1, h2, h3⟩ := h j x hx; ⟨cs, h1, hR _ _ _ _ hl h2, h3⟩
theorem PWk.of {css : List (List Value)} {cur : List Value} (h : ElG R k G css l) (hc : cur.take (l.length * k) = css.flatten) : PWk R k G cur l := by
  intro j x hx
  obtain ⟨cs, h1, h2, h3⟩ := h.at_ hx
  refine ⟨cs, h2, h3, fun i u hu => ?_⟩
  have hi : i < k := by rw [← h2]; exact (List.getElem?_eq_some_iff.1 hu).1
  have hj : j < l.length := (List.getElem?_eq_some_iff.1 hx).1
  have := flatten_at css h.2.1 j i cs h1 hi
  rw [← hc, List.getElem?_take_of_lt (show j * k + i < l.length * k from by
    have : (j + 1) * k ≤ l.length * k := Nat.mul_le_mul_right k hj
    rw [Nat.succ_mul] at this; omega)] at this
  rw [this, hu]
/-- one cell of one element is written -/
theorem PWk.set_ (h : PWk R k G S l) {m i : Nat} {u : Value} {x y : α} (hm : l[m]? = some x) (hi : i < k) (hr : ∀ cs : List Value, cs.length = k → R G x cs → (∀ (i : Nat) (u : Value), cs[i]? = some u → S[m * k + i]? = some u) → R G y (cs.set i u)) : PWk R k G (S.set (m * k + i) u) (l.set m y) := by
  intro j z hz
  have hml : m < l.length := (List.getElem?_eq_some_iff.1 hm).1
  by_cases e : m = j
  · subst e
    rw [List.getElem?_set_self hml] at hz
    cases hz
    obtain ⟨cs, h1, h2, h3⟩ := h m x hm
    refine ⟨cs.set i u, by simpa using h1, hr cs h1 h2 h3, fun i' u' hu => ?_⟩
    by_cases e' : i = i'
    · subst e'
      rw [List.getElem?_set_self (by omega)] at hu
      cases hu
      have hS : m * k + i < S.length := by
        have := h3 i cs[i] (List.getElem?_eq_getElem (by omega))
        exact (List.getElem?_eq_some_iff.1 this).1
      exact List.getElem?_set_self hS
    · rw [List.getElem?_set_ne e'] at hu
      rw [List.getElem?_set_ne (by omega)]
      exact h3 i' u' hu
  · rw [List.getElem?_set_ne e] at hz
    obtain ⟨cs, h1, h2, h3⟩ := h j z hz
    refine ⟨cs, h1, h2, fun i' u' hu => ?_⟩
    have hi' : i' < k := by rw [← h1]; exact (List.getElem?_eq_some_iff.1 hu).1
    rw [List.getElem?_set_ne (fun q => e ?_)]
    · exact h3 i' u' hu
    · have q1 : (m * k + i) / k = m := by rw [Nat.mul_comm, Nat.mul_add_div (by omega), Nat.div_eq_of_lt hi, Nat.add_zero]
      have q2 : (j * k + i') / k = j := by rw [Nat.mul_comm, Nat.mul_add_div (by omega), Nat.div_eq_of_lt hi', Nat.add_zero]
      rw [← q1, ← q2, q]
theorem PWk.sq {t n : Nat} {v : Value} (h : PWk R k G S l) (h0 : 0 < k) (hn : n = l.length) (hs : Sl G t k n v (S.take (n * k))) : Sq R t k G v l := by
  subst hn
  obtain ⟨css, hl, hp⟩ := choose_list (α := List Value) (p := fun j cs => cs.length = k ∧ (∀ x, l[j]? = some x → R G x cs) ∧ ∀ (i : Nat) (u : Value), cs[i]? = some u → S[j * k + i]? = some u) l.length fun j hj => by
    obtain ⟨cs, h1, h2, h3⟩ := h j l[j] (List.getElem?_eq_getElem hj)
    exact ⟨cs, h1, fun x hx => by rw [List.getElem?_eq_getElem hj] at hx; cases hx; exact h2, h3⟩
  have hlen : ∀ cs ∈ css, cs.length = k := fun cs hcs => by
    obtain ⟨i, hi⟩ := List.mem_iff_getElem?.1 hcs
    exact (hp i cs hi).1
  have hsl : (S.take (l.length * k)).length = l.length * k := by obtain ⟨_, _, _, _, _, q, _⟩ := hs; exact q
  have hfl : css.flatten = S.take (l.length * k) := by
    refine flatten_ext css h0 hlen _ (by rw [hsl, hl]) fun i j cs hcs hj => ?_
    have hjl : j < cs.length := by rw [hlen cs (List.mem_of_getElem? hcs)]; exact hj
    have hcj : cs[j]? = some cs[j] := List.getElem?_eq_getElem hjl
    have hi : i < l.length := by rw [← hl]; exact (List.getElem?_eq_some_iff.1 hcs).1
    rw [List.getElem?_take_of_lt (show i * k + j < l.length * k from by
      have : (i + 1) * k ≤ l.length * k := Nat.mul_le_mul_right k hi
      rw [Nat.succ_mul] at this; omega), (hp i cs hcs).2.2 j _ hcj, hcj]
  exact ⟨css, ⟨hl, hlen, fun i cs x h1 h2 => (hp i cs h1).2.1 x h2⟩, hfl.symm ▸ hs⟩
end
theorem take_cells {S : List Value} {n k : Nat} {css : List (List Value)} (hS : S.take (n * k) = css.flatten) (hl : ∀ cs ∈ css, cs.length = k) (hn : css.length = n) {j : Nat} {cs : List Value} (hj : css[j]? = some cs) (i : Nat) (u : Value) (hu : cs[i]? = some u) : S[j * k + i]? = some u := by
  have hi : i < k := by rw [← hl cs (List.mem_of_getElem? hj)]; exact (List.getElem?_eq_some_iff.1 hu).1
  have hjn : j < n := by rw [← hn]; exact (List.getElem?_eq_some_iff.1 hj).1
  have := flatten_at css hl j i cs hj hi
  rw [← hS, List.getElem?_take_of_lt (show j * k + i < n * k from by
    have : (j + 1) * k ≤ n * k := Nat.mul_le_mul_right k hjn
    rw [Nat.succ_mul] at this; omega)] at this
  rw [this, hu]
theorem row3 {S : List Value} {o : Nat} {a b c : Value} (h0 : S[o]? = some a) (h1 : S[o + 1]? = some b) (h2 : S[o + 2]? = some c) : ((S.map SC.v).drop o).take 3 = [.v a, .v b, .v c] := by
  apply List.ext_getElem?
  intro i
  match i with
  | 0 => simp [List.getElem?_drop, h0]
  | 1 => simp [List.getElem?_drop, h1]
  | 2 => simp [List.getElem?_drop, h2]
  | n + 3 => rw [List.getElem?_take, if_neg (by omega)]; rfl
theorem row2 {S : List Value} {o : Nat} {a b : Value} (h0 : S[o]? = some a) (h1 : S[o + 1]? = some b) : ((S.map SC.v).drop o).take 2 = [.v a, .v b] := by
  apply List.ext_getElem?
  intro i
  match i with
  | 0 => simp [List.getElem?_drop, h0]
  | 1 => simp [List.getElem?_drop, h1]
  | n + 2 => rw [List.getElem?_take, if_neg (by omega)]; rfl
/-- a list, of which the first i are turned -/
def setTo {α : Type} (f : α → α) (l : List α) : Nat → List α
  | 0 => l
  | i + 1 => match l[i]? with
    | some x => (setTo f l i).set i (f x)
    | none => setTo f l i
theorem setTo_len {α : Type} (f : α → α) (l : List α) : ∀ i, (setTo f l i).length = l.length
  | 0 => rfl
  | i + 1 => by
    unfold setTo
    split
    · rw [List.length_set]; exact setTo_len f l i
    · exact setTo_len f l i
theorem setTo_at {α : Type} (f : α → α) (l : List α) (j : Nat) : ∀ i, (setTo f l i)[j]? = if j < i then l[j]?.map f else l[j]?
  | 0 => by simp [setTo]
  | i + 1 => by
    have ih := setTo_at f l j i
    unfold setTo
    split
    · rename_i x hx
      have hi : i < l.length := (List.getElem?_eq_some_iff.1 hx).1
      by_cases e : i = j
      · subst e
        rw [List.getElem?_set_self (by rw [setTo_len]; exact hi), if_pos (by omega), hx]; rfl
      · rw [List.getElem?_set_ne e, ih]
        by_cases h : j < i
        · rw [if_pos h, if_pos (by omega)]
        · rw [if_neg h, if_neg (by omega)]
    · rename_i hx
      rw [ih]
      by_cases h : j < i
      · rw [if_pos h, if_pos (by omega)]
      · rw [if_neg h]
        by_cases h' : j < i + 1
        · have : j = i := by omega
          subst this
          rw [if_pos h', hx]; rfl
        · rw [if_neg h']
theorem setTo_all {α : Type} (f : α → α) (l : List α) : setTo f l l.length = l.map f := by
  apply List.ext_getElem?
  intro j
  rw [setTo_at, List.getElem?_map]
  split
  · rfl
  · rw [List.getElem?_eq_none (by omega)]; rfl
theorem setTo_here {α : Type} (f : α → α) (l : List α) (i : Nat) : (setTo f l i)[i]? = l[i]? := by rw [setTo_at, if_neg (by omega)]
theorem setTo_succ {α : Type} (f : α → α) {l : List α} {i : Nat} {x : α} (h : l[i]? = some x) : setTo f l (i + 1) = (setTo f l i).set i (f x) := by simp [setTo, h]
end Go.Proofs.Ytomfladifefomaa
