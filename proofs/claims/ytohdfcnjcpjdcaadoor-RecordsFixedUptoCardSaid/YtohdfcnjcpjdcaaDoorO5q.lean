/- An argument that is a slice of bytes: the list of what is read, no longer than its bulk. Conditions: as each law states them. -/
import Derived.Test.YtohdfcnjcpjdcaaDoorFactsq
import Derived.Test.YtohdfcnjcpjdcaaDoorA3q
namespace Go.Proofs.YtohdfcnjcpjdcaaDoor
open Go.ChangeShapes Go.WideShapes Go.Deep Go.RowKit
section
variable {H : Type} {enc : TypeId × Value → H} {W : World} {r : Reach} {b0 : Nat} {v : Value} {d : DataW H} {p : List MemPlace}
theorem bulk_pos (d : DataW H) : 1 ≤ Rows.uptoBulk d := by
  cases d with
  | lit l => cases l <;> simp [Rows.uptoBulk]
  | _ => simp [Rows.uptoBulk]
theorem bulkAll_len : ∀ l : List (DataW H), l.length ≤ Rows.uptoBulkAll l
  | [] => Nat.zero_le _
  | d :: r => by
    have h1 := bulk_pos d
    have h2 := bulkAll_len r
    rw [List.length_cons, Rows.uptoBulkAll]
    omega
set_option maxRecDepth 100000 in
theorem open_bytes (hok : Value.okWide Tryd.prog W r b0 37 v) (h : DataW.Trod enc Tryd.prog W 0 (fun _ => true) true 37 v d p) : ∃ l : List UInt8, Sc ⟨Non, W⟩ 1 l.length v (l.map enc8) ∧ l.length ≤ Rows.uptoBulk d := by
  obtain ⟨l, hl⟩ := open_seq (R := fun cs (x : UInt8) => cs = [enc8 x]) Tryd.underlying37 (k := 1) (by kernel_rfl) (by decide) (fun n cs x hx hl => by
    match cs, hl with
    | [c], _ =>
      obtain ⟨m, e1, _, e3⟩ := DataW.trod_int Tryd.underlying5 hx
      have hm : 0 ≤ m ∧ m ≤ 255 := by
        simp [Lit.wf, IntKind.signed, IntKind.bits, IntKind.min, IntKind.max] at e3
        omega
      refine ⟨UInt8.ofNat m.toNat, ?_⟩
      have e2 : ((UInt8.ofNat m.toNat).toNat : Int) = m := by
        rw [UInt8.toNat_ofNat']
        omega
      unfold enc8
      rw [e2]
      exact e1) hok h
  obtain ⟨A, c, rfl, _, _⟩ := hl.form
  refine ⟨l, ?_, ?_⟩
  · obtain ⟨css, ⟨h1, h2, h3⟩, hs⟩ := hl
    have e : css = l.map fun x => [enc8 x] := by
      apply List.ext_getElem?
      intro i
      rw [List.getElem?_map]
      cases hx : l[i]? with
      | none =>
        rw [List.getElem?_eq_none_iff] at hx
        rw [List.getElem?_eq_none_iff.2 (by omega)]
        rfl
      | some x =>
        have hlt := (List.getElem?_eq_some_iff.1 hx).1
        have hcs : css[i]? = some (css[i]'(by omega)) := List.getElem?_eq_getElem _
        rw [hcs]
        exact congrArg some (h3 i _ x hcs hx)
    have e3 : ∀ l : List UInt8, (l.map fun x => [enc8 x]).flatten = l.map enc8 := fun l => by
      induction l with
      | nil => rfl
      | cons a r ih => simp [ih]
    have e2 : css.flatten = l.map enc8 := by rw [e, e3]
    rw [← e2]
    exact hs
  · obtain ⟨fuel, hf⟩ := h
    have hf : DataW.trod enc Tryd.prog W 0 (fun _ => true) true fuel 37 [.slice A l.length c] = some (d, p) := hf
    rcases open_slice Tryd.underlying37 hf with ⟨hcs, _⟩ | ⟨a, len, cap, m, n, D, Pl, hcs, hb, hl2, hm, hmm, hx, hi⟩
    · have : l.length = 0 := by simp at hcs; rw [hcs.2.1]; rfl
      omega
    · have e1 : l.length = len := by simp at hcs; exact hcs.2.1
      have e2 : d = .slice ((List.range len).map D) ((List.range (m - len)).map fun j => D (len + j)) := congrArg Prod.fst hx
      have h4 := bulkAll_len ((List.range len).map D)
      rw [List.length_map, List.length_range] at h4
      rw [e2]
      show l.length ≤ Rows.uptoBulkAll _ + Rows.uptoBulkAll _ + 1
      omega
end
end Go.Proofs.YtohdfcnjcpjdcaaDoor
