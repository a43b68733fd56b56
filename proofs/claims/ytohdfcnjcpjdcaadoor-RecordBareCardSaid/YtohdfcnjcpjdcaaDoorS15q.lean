/- Flat readings of slices. Conditions: as each law states them. -/
import Derived.Test.YtohdfcnjcpjdcaaDoorS1q
import Derived.Test.YtohdfcnjcpjdcaaDoorP8q
namespace Go.Proofs.YtohdfcnjcpjdcaaDoor
open Go.RowKit
set_option linter.unusedSimpArgs false
theorem flat_of {α : Type} {R : GW → α → List Value → Prop} {f : α → List Value} {k : Nat} {G : GW} (hR : ∀ G x cs, R G x cs → cs = f x) : ∀ (css : List (List Value)) (l : List α), ElG R k G css l → css.flatten = l.flatMap f
  | [], [], _ => rfl
  | [], _ :: _, h => by cases h.1
  | _ :: _, [], h => by cases h.1
  | c :: css, x :: l, h => by
    obtain ⟨h1, h2, h3⟩ := h
    rw [List.flatten_cons, List.flatMap_cons, hR G x c (h3 0 c x rfl rfl)]
    congr 1
    exact flat_of hR css l ⟨by simpa using h1, fun cs hcs => h2 cs (List.mem_cons_of_mem _ hcs), fun i cs y h4 h5 => h3 (i + 1) cs y (by simpa using h4) (by simpa using h5)⟩
theorem sq_flat {α : Type} {R : GW → α → List Value → Prop} {f : α → List Value} {t k : Nat} {G : GW} {v : Value} {l : List α} (hR : ∀ G x cs, R G x cs → cs = f x) (h : Sq R t k G v l) : Sl G t k l.length v (l.flatMap f) := by
  obtain ⟨css, he, hs⟩ := h
  rw [flat_of hR css l he] at hs
  exact hs
theorem flat_els {α : Type} {R : GW → α → List Value → Prop} {f : α → List Value} {k : Nat} {G : GW} (hR : ∀ x, R G x (f x)) (hk : ∀ x, (f x).length = k) (l : List α) : ElG R k G (l.map f) l := by
  refine ⟨by simp, fun cs h => ?_, fun i cs x h1 h2 => ?_⟩
  · obtain ⟨x, _, rfl⟩ := List.mem_map.1 h
    exact hk x
  · rw [List.getElem?_map, h2] at h1
    cases h1
    exact hR x
theorem sq_of_flat {α : Type} {R : GW → α → List Value → Prop} {f : α → List Value} {t k : Nat} {G : GW} {v : Value} {l : List α} (hR : ∀ x ∈ l, R G x (f x)) (hk : ∀ x, (f x).length = k) (h : Sl G t k l.length v (l.flatMap f)) : Sq R t k G v l := by
  refine ⟨l.map f, ⟨by simp, fun cs h => ?_, fun i cs x h1 h2 => ?_⟩, by rw [← List.flatMap_def]; exact h⟩
  · obtain ⟨x, _, rfl⟩ := List.mem_map.1 h
    exact hk x
  · rw [List.getElem?_map, h2] at h1
    cases h1
    exact hR x (List.mem_of_getElem? h2)
def intC (x : Int) : List Value := [.int .i64 x]
def askC (x : Ask) : List Value := [.int .i64 x.ver, .int .i64 x.days, .int .i64 x.cls]
theorem intC_one (l : List Int) : ∀ u ∈ l.flatMap intC, u.oneCell' = true := by
  intro u hu
  obtain ⟨x, _, hu⟩ := List.mem_flatMap.1 hu
  simp only [intC, List.mem_singleton] at hu
  rw [hu]; rfl
theorem askC_one (l : List Ask) : ∀ u ∈ l.flatMap askC, u.oneCell' = true := by
  intro u hu
  obtain ⟨x, _, hu⟩ := List.mem_flatMap.1 hu
  simp only [askC, List.mem_cons, List.not_mem_nil, or_false] at hu
  rcases hu with rfl | rfl | rfl <;> rfl
def intRow (v : Value) (l : List Int) : Rw := ⟨v, 3, 1, l.length, l.flatMap intC⟩
def askRow (v : Value) (l : List Ask) : Rw := ⟨v, 29, 3, l.length, l.flatMap askC⟩
end Go.Proofs.YtohdfcnjcpjdcaaDoor
