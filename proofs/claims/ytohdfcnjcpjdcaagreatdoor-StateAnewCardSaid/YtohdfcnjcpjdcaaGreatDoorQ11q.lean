/- The listed variable's condition gives the table of kinds in memory. Conditions: none. -/
import Derived.Test.YtohdfcnjcpjdcaaGreatDoorRows
import Derived.Test.YtohdfcnjcpjdcaaGreatDoorQAq
import Derived.LaidMore
import Derived.OpenShut
import Derived.FnData
namespace Go.Proofs.YtohdfcnjcpjdcaaGreatDoor
open Go.RowKit Go.ChangeShapes
set_option linter.unusedSimpArgs false
section
variable {H : Type} {enc : TypeId × Value → H} {W : World} {base : Nat} {spare : Nat → Bool} {held : Bool}
theorem parts_fields : ∃ fs : Array Field, Tryz.prog.underlying 92 = some (.struct fs) ∧ fs.toList.map (fun f => (f.type, f.offset)) = (List.range 11).map fun i => (4, i) :=
 ⟨_, Tryz.underlying92, by kernel_rfl⟩
theorem parts_cells {fuel : Nat} {cs : List Value} {x : DataW H × List MemPlace} {bs : List Bool} (h : DataW.trod enc Tryz.prog W base spare held fuel 92 cs = some x) (hx : x.1 = .agg (bs.map fun b => .lit (.bool b))) (hb : bs.length = 11) : cs = bs.map Value.bool := by
 obtain ⟨fs, hu, hm⟩ := parts_fields
 obtain ⟨xs, n, rfl, rfl, hl, hn, hel⟩ := DataW.trod_struct hu h
 have hc : Tryz.prog.cellsOf 92 = 11 := by kernel_rfl
 have hcb : Tryz.prog.cellsOf 4 = 1 := by kernel_rfl
 have hfl : fs.toList.length = 11 := by
  have := congrArg List.length hm
  rw [List.length_map, List.length_map, List.length_range] at this
  exact this
 simp only [DataW.agg.injEq] at hx
 apply List.ext_getElem?
 intro i
 by_cases hi : i < 11
 ·obtain ⟨f, hf⟩ : ∃ f, fs.toList[i]? = some f := ⟨_, List.getElem?_eq_getElem (by omega)⟩
  have hf2 : (f.type, f.offset) = (4, i) := by
   have := congrArg (fun l => l[i]?) hm
   simp only [List.getElem?_map, hf, Option.map_some, List.getElem?_range hi] at this
   exact Option.some.inj this
  obtain ⟨ht, ho⟩ := Prod.mk.inj hf2
  have h1 := hel i f (by rw [← hf, Array.getElem?_toList])
  obtain ⟨y, hy⟩ : ∃ y, xs[i]? = some y := ⟨_, List.getElem?_eq_getElem (by rw [hn, ← Array.length_toList, hfl]; exact hi)⟩
  rw [ht, ho, hcb, hy] at h1
  obtain ⟨b, hcell, rfl⟩ := DataW.trod_bool Tryz.underlying4 h1
  have h2 : bs[i]? = some b := by
   have := congrArg (fun l => l[i]?) hx
   simp only [List.getElem?_map, hy, Option.map_some] at this
   cases hq : bs[i]? with
   | none => rw [hq] at this; cases this
   | some c =>
    rw [hq] at this
    simp at this
    rw [this]
  have h3 : cs[i]? = some (.bool b) := by
   have := congrArg (fun l => l[0]?) hcell
   simp only [List.getElem?_take, List.getElem?_drop] at this
   simpa using this
  rw [h3, List.getElem?_map, h2]
  rfl
 ·rw [List.getElem?_eq_none (by omega), List.getElem?_eq_none (by rw [List.length_map]; omega)]
theorem kdL_data : (Rows.laid_icehouse_code_kinds : DataW H) = .agg (kdL.map fun k => .agg ((kdb k).map fun b => .lit (.bool b))) := rfl
theorem kinds_cells {fuel : Nat} {cs : List Value} {p : List MemPlace} (h : DataW.trod enc Tryz.prog W base spare held fuel 93 cs = some (Rows.laid_icehouse_code_kinds, p)) : ∀ (j : Nat) (u : Value), (kdL.flatMap kdC)[j]? = some u → cs[j]? = some u := by
 obtain ⟨xs, m, rfl, hx, hl, hn, hel⟩ := DataW.trod_array Tryz.underlying93 h
 have hcb : Tryz.prog.cellsOf 92 = 11 := by kernel_rfl
 intro j u hj
 have hjl : j < 165 := by
  have := (List.getElem?_eq_some_iff.1 hj).1
  have h165 : (kdL.flatMap kdC).length = 165 := by rw [kdL_eq, List.length_map]; kernel_rfl
  omega
 have hi : j / 11 < 15 := by omega
 have h1 := hel (j / 11) hi
 obtain ⟨y, hy⟩ : ∃ y, xs[j / 11]? = some y := ⟨_, List.getElem?_eq_getElem (by omega)⟩
 rw [hcb, hy] at h1
 have h2 : y.1 = .agg ((kdb (kd ((j / 11 : Nat) : Int))).map fun b => .lit (.bool b)) := by
  have e := (Prod.mk.inj hx).1
  rw [kdL_data] at e
  simp only [DataW.agg.injEq] at e
  have := congrArg (fun l => l[j / 11]?) e
  simp only [List.getElem?_map, hy, Option.map_some] at this
  have hk : kdL[j / 11]? = some (kd ((j / 11 : Nat) : Int)) := by
   unfold kd
   rw [Int.toNat_natCast, List.getD_eq_getElem?_getD, List.getElem?_eq_getElem (show j / 11 < kdL.length from hi)]
   rfl
  rw [hk] at this
  exact (Option.some.inj this).symm
 have h3 := parts_cells h1 h2 rfl
 have h4 : ((cs.drop (j / 11 * 11)).take 11)[j % 11]? = (kdC (kd ((j / 11 : Nat) : Int)))[j % 11]? := by rw [h3, kdC_eq]
 have h5 : (kdL.flatMap kdC)[j / 11 * 11 + j % 11]? = (kdC (kd ((j / 11 : Nat) : Int)))[j % 11]? := by
  have : ∀ m : Fin 15, ∀ j : Fin 11, (kdL.flatMap kdb)[m.1 * 11 + j.1]? = (kdb (kd (m.1 : Int)))[j.1]? := by decide
  rw [kdL_eq, kdC_eq, List.getElem?_map, List.getElem?_map]
  exact congrArg (Option.map Value.bool) (this ⟨j / 11, hi⟩ ⟨j % 11, by omega⟩)
 have h6 : j / 11 * 11 + j % 11 = j := by omega
 rw [h6] at h5
 rw [← h5, hj, List.getElem?_take, if_pos (by omega), List.getElem?_drop, h6] at h4
 exact h4
end
theorem kinds_of_laid {W : World} (h : laidMetH Tryz.prog [("icehouse/code.kinds", Rows.laid_icehouse_code_kinds)] W) : KindsG ⟨Non, W⟩ := by
 rw [MakeChecks.laidMetH_plain _ _ _ (by kernel_rfl)] at h
 obtain ⟨ps, ⟨g0, t0, cs0, f0, p0, q0, hg0, ht0, hv0, hd0, _, _⟩, _, _⟩ := h
 have hg : Tryz.prog.globalNamed "icehouse/code.kinds" = some 0 := by kernel_rfl
 have ht : (Tryz.prog.globals[0]?).map (·.type) = some 93 := by kernel_rfl
 obtain rfl := Option.some.inj (hg.symm.trans hg0)
 obtain rfl := Option.some.inj (ht.symm.trans ht0)
 have hr : W.rangeAt 0 0 (kdL.flatMap kdC) := fun j u hj => by
  rw [Nat.zero_add, World.var?_cell hg0 hv0 j, ← Array.getElem?_toList]
  exact kinds_cells hd0 j u hj
 refine ⟨?_, fun q => q, hr⟩
 have h0 := hr 0 (.bool false) rfl
 rcases Nat.lt_or_ge 0 W.heap.size with q | q
 ·exact q
 ·exfalso
  unfold World.cell? at h0
  rw [Array.getElem?_eq_none (by show W.heap.size ≤ 0; omega)] at h0
  cases h0
end Go.Proofs.YtohdfcnjcpjdcaaGreatDoor
