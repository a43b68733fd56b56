/- Keys that are pairs of texts: the map of those that have a version without a number of its own. Conditions: as each law states them. -/
import Derived.Test.YtohdfcnjcpjdcaaGreatS7w
import Derived.DeepKeys4
namespace Go.Proofs.YtohdfcnjcpjdcaaGreat
open Go.RowKit
set_option linter.unusedSimpArgs false
theorem pairLaw : WideMaps.KeyLaw Tryz.prog 155 := deep_law_laid (m := 9) (by kernel_rfl) (by omega) (of_decide_eq_true (by kernel_rfl)) (by kernel_rfl) (by kernel_rfl)
theorem pairKeyed : Go.Maps.Keyed Tryz.prog 155 := Go.Maps.Keyed.of_law pairLaw
def pairV (k : ByteArray × ByteArray) : Value := .agg #[.string k.1, .string k.2]
theorem pair_key (k : ByteArray × ByteArray) (h1 : k.1.size ≤ maxLen) (h2 : k.2.size ≤ maxLen) : ∃ l, keyOf Tryz.prog 155 (pairV k) = some l := by
 have hk : (Tryz.prog).keyType 155 = true := by kernel_rfl
 have hs : (Tryz.prog).types.size + 1 = ((Tryz.prog).types.size - 1) + 1 + 1 := by
  have : 1 ≤ (Tryz.prog).types.size := of_decide_eq_true (by kernel_rfl)
  omega
 have hc : (Tryz.prog).cellsOf 155 = 2 := by kernel_rfl
 have hc2 : (Tryz.prog).cellsOf 9 = 1 := by kernel_rfl
 have hf : (pairV k).formed Tryz.prog 155 = true := by
  unfold Value.formed pairV
  simp [Tryz.underlying155, hc]
 unfold keyOf
 rw [Tryz.underlying155]
 simp only [hk, hf, Bool.and_self, if_true, hs]
 unfold Program.keyLits
 simp only [Tryz.underlying155, hc, hc2, pairV, Value.cells]
 unfold Program.keyLits
 simp [Tryz.underlying9, h1, h2, List.range_succ]
theorem pair_inj {a b : ByteArray × ByteArray} (h : pairV a = pairV b) : a = b := by
 unfold pairV at h
 simp only [Value.agg.injEq, Array.mk.injEq, List.cons.injEq, Value.string.injEq, and_true] at h
 exact Prod.ext h.1 h.2
def hasK (k : ByteArray × ByteArray) (nl : List (ByteArray × ByteArray)) : Bool := nl.any fun x => decide (x = k)
theorem hasK_iff {k : ByteArray × ByteArray} {nl : List (ByteArray × ByteArray)} : hasK k nl = true ↔ k ∈ nl := by
 unfold hasK
 rw [List.any_eq_true]
 exact ⟨fun ⟨x, hx, e⟩ => of_decide_eq_true e ▸ hx, fun h => ⟨k, h, decide_eq_true rfl⟩⟩
theorem hasK_no {k : ByteArray × ByteArray} {nl : List (ByteArray × ByteArray)} (h : k ∉ nl) : hasK k nl = false := by
 cases hb : hasK k nl with
 | false => rfl
 | true => exact absurd (hasK_iff.1 hb) h
theorem hasK_eq {k k' : ByteArray × ByteArray} {nl nl' : List (ByteArray × ByteArray)} (h : k ∈ nl ↔ k' ∈ nl') : hasK k nl = hasK k' nl' := by
 by_cases hk : k ∈ nl
 ·rw [hasK_iff.2 hk, hasK_iff.2 (h.1 hk)]
 ·rw [hasK_no hk, hasK_no fun q => hk (h.2 q)]
/-- which keys are marked -/
structure NulR (al : List (Value × Value)) (nl : List (ByteArray × ByteArray)) : Prop where
 keys : KeysIn Tryz.prog 155 al
 all : ∀ e ∈ al, ∃ k : ByteArray × ByteArray, e = (pairV k, .bool (hasK k nl)) 
 has : ∀ k ∈ nl, (pairV k, Value.bool true) ∈ al
theorem NulR.nil : NulR [] [] := ⟨⟨fun e h => (by cases h), List.Pairwise.nil⟩, fun e h => (by cases h), fun k h => (by cases h)⟩
/-- what is found at a key -/
theorem NulR.look {al : List (Value × Value)} {nl : List (ByteArray × ByteArray)} (h : NulR al nl) (k : ByteArray × ByteArray) : (pairV k, Value.bool (hasK k nl)) ∈ al ∨ ((∀ e ∈ al, e.1 ≠ pairV k) ∧ Value.bool (hasK k nl) = .bool false) := by
 by_cases hk : k ∈ nl
 ·rw [hasK_iff.2 hk]
  exact .inl (h.has k hk)
 ·rw [hasK_no hk]
  by_cases hx : ∃ e ∈ al, e.1 = pairV k
  ·obtain ⟨e, he, hek⟩ := hx
   obtain ⟨k', rfl⟩ := h.all e he
   have := pair_inj hek
   subst this
   rw [hasK_no hk] at he
   exact .inl he
  ·exact .inr ⟨fun e he hek => hx ⟨e, he, hek⟩, rfl⟩
/-- a key that is marked, or is left as it was -/
def mark (k : ByteArray × ByteArray) (b : Bool) (nl : List (ByteArray × ByteArray)) : List (ByteArray × ByteArray) := if b = true then k :: nl else nl
theorem mark_mem (k x : ByteArray × ByteArray) (b : Bool) (nl : List (ByteArray × ByteArray)) : x ∈ mark k b nl ↔ (x = k ∧ b = true) ∨ x ∈ nl := by
 unfold mark
 split
 ·rename_i h
  simp [h]
 ·rename_i h
  simp [h]
theorem NulR.new {al : List (Value × Value)} {nl : List (ByteArray × ByteArray)} (h : NulR al nl) {k : ByteArray × ByteArray} (hk : ∃ l, keyOf Tryz.prog 155 (pairV k) = some l) (hno : ∀ e ∈ al, e.1 ≠ pairV k) (b : Bool) :
  NulR (al ++ [(pairV k, .bool b)]) (mark k b nl) := by
 have hn : k ∉ nl := fun q => hno _ (h.has k q) rfl
 refine ⟨⟨fun e he => ?_, ?_⟩, fun e he => ?_, fun x hx => ?_⟩
 ·rcases List.mem_append.1 he with he | he
  ·exact h.keys.1 e he
  ·rw [List.mem_singleton] at he; rw [he]; exact hk
 ·rw [List.pairwise_append]
  refine ⟨h.keys.2, List.pairwise_singleton _ _, fun e he e' he' => ?_⟩
  rw [List.mem_singleton] at he'
  rw [he']
  exact hno e he
 ·rcases List.mem_append.1 he with he | he
  ·obtain ⟨k', rfl⟩ := h.all e he
   have hne : k' ≠ k := fun q => hno _ he (by rw [q])
   refine ⟨k', ?_⟩
   congr 2
   exact hasK_eq (by rw [mark_mem]; simp [hne])
  ·rw [List.mem_singleton] at he
   refine ⟨k, ?_⟩
   rw [he]
   congr 2
   have : k ∈ mark k b nl ↔ b = true := by rw [mark_mem]; simp [hn]
   cases b with
   | true => exact (hasK_iff.2 (this.2 rfl)).symm
   | false => exact (hasK_no (fun q => by cases this.1 q)).symm
 ·rw [mark_mem] at hx
  rcases hx with ⟨rfl, rfl⟩ | hx
  ·exact List.mem_append_right _ (List.mem_singleton.2 rfl)
  ·exact List.mem_append_left _ (h.has x hx)
theorem NulR.old {al : List (Value × Value)} {nl : List (ByteArray × ByteArray)} (h : NulR al nl) {k : ByteArray × ByteArray} {j : Nat} {v0 : Value} (hj : al[j]? = some (pairV k, v0)) (b : Bool) (hb : k ∈ nl → b = true) :
  NulR (al.set j (pairV k, .bool b)) (mark k b nl) := by
 have hjl : j < al.length := (List.getElem?_eq_some_iff.1 hj).1
 have hmem : ∀ e, e ∈ al.set j (pairV k, .bool b) → e = (pairV k, .bool b) ∨ (e ∈ al ∧ e.1 ≠ pairV k) := by
  intro e he
  obtain ⟨i, hi⟩ := List.mem_iff_getElem?.1 he
  rw [List.getElem?_set] at hi
  split at hi
  ·rename_i e1
   subst e1
   first
   | exact .inl (Option.some.inj hi).symm
   | (rw [if_pos hjl] at hi; exact .inl (Option.some.inj hi).symm)
  ·rename_i hne
   refine .inr ⟨List.mem_of_getElem? hi, fun q => ?_⟩
   have hil : i < al.length := (List.getElem?_eq_some_iff.1 hi).1
   have hp := List.pairwise_iff_getElem.1 h.keys.2
   have e2 : al[i] = e := by rw [List.getElem?_eq_getElem hil] at hi; exact Option.some.inj hi
   have e3 : al[j] = (pairV k, v0) := by rw [List.getElem?_eq_getElem hjl] at hj; exact Option.some.inj hj
   rcases Nat.lt_or_gt_of_ne hne with q2 | q2
   ·exact hp j i hjl hil q2 (by rw [e2, e3, q])
   ·exact hp i j hil hjl q2 (by rw [e2, e3, q])
 refine ⟨⟨fun e he => ?_, ?_⟩, fun e he => ?_, fun x hx => ?_⟩
 ·rcases hmem e he with rfl | ⟨he, _⟩
  ·exact h.keys.1 (pairV k, v0) (List.mem_of_getElem? hj)
  ·exact h.keys.1 e he
 ·have hp := List.pairwise_map.2 h.keys.2
  have : (al.set j (pairV k, Value.bool b)).map (·.1) = al.map (·.1) := by
   rw [List.map_set]
   apply List.ext_getElem?
   intro i
   rw [List.getElem?_set]
   split
   ·rename_i e1
    subst e1
    rw [List.length_map, if_pos hjl, List.getElem?_map, hj]
    rfl
   ·rfl
  exact List.pairwise_map.1 (by rw [this]; exact hp)
 ·rcases hmem e he with rfl | ⟨he, hne⟩
  ·refine ⟨k, ?_⟩
   congr 2
   have : k ∈ mark k b nl ↔ b = true := by rw [mark_mem]; exact ⟨fun q => q.elim (·.2) hb, fun q => .inl ⟨rfl, q⟩⟩
   cases b with
   | true => exact (hasK_iff.2 (this.2 rfl)).symm
   | false => exact (hasK_no (fun q => by cases this.1 q)).symm
  ·obtain ⟨k', rfl⟩ := h.all e he
   have hne2 : k' ≠ k := fun q => hne (by rw [q])
   refine ⟨k', ?_⟩
   congr 2
   exact hasK_eq (by rw [mark_mem]; simp [hne2])
 ·rw [mark_mem] at hx
  rcases hx with ⟨rfl, rfl⟩ | hx
  ·exact List.mem_iff_getElem?.2 ⟨j, by simp [hjl]⟩
  ·by_cases hxk : x = k
   ·subst hxk
    rw [hb hx]
    exact List.mem_iff_getElem?.2 ⟨j, by simp [hjl]⟩
   ·obtain ⟨i, hi⟩ := List.mem_iff_getElem?.1 (h.has x hx)
    refine List.mem_iff_getElem?.2 ⟨i, ?_⟩
    rw [List.getElem?_set, if_neg (fun e => ?_), hi]
    subst e
    rw [hj] at hi
    exact hxk (pair_inj (congrArg Prod.fst (Option.some.inj hi)).symm)
end Go.Proofs.YtohdfcnjcpjdcaaGreat
