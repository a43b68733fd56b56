/- Arguments of the laws that are slices of raw things: lists of what is read. Conditions: as each law states them. -/
import Derived.Test.YtohdfcnjcpjdcaaGreatEAw
namespace Go.Proofs.YtohdfcnjcpjdcaaGreat
open Go.ChangeShapes Go.WideShapes Go.Deep Go.RowKit
section
variable {H : Type} {enc : TypeId × Value → H} {W : World} {r : Reach} {b0 : Nat} {v : Value} {d : DataW H} {p : List MemPlace}
set_option maxRecDepth 100000 in
theorem raw_of {n : Nat} {cs : List Value} {x : DataW H × List MemPlace} (h : DataW.trod enc Tryz.prog W 0 (fun _ => true) true n 66 cs = some x) (hl : cs.length = 6) : ∃ y : Raw, RawG ⟨Non, W⟩ y cs := by
 obtain ⟨ys, n', _, _, _, hyl, hf⟩ := DataW.trod_struct Tryz.underlying66 h
 match cs, hl with
 | [c0, c1, c2, c3, c4, c5], _ =>
  have hy : ∀ j, j < 6 → ys[j]? ≠ none := fun j hj e => by
   rw [List.getElem?_eq_none_iff, hyl] at e
   exact absurd e (by simpa using hj)
  have int : ∀ (j : Nat) (c : Value), j < 6 → DataW.trod enc Tryz.prog W 0 (fun _ => true) true n' 3 [c] = ys[j]? → ∃ m, c = .int .i64 m ∧ i64 m := by
   intro j c hj e
   cases hq : ys[j]? with
   | none => exact absurd hq (hy j hj)
   | some z =>
    rw [hq] at e
    obtain ⟨m, e1, _, e3⟩ := DataW.trod_int Tryz.underlying3 e
    exact ⟨m, by simpa using e1, i64_bd e3⟩
  obtain ⟨m0, rfl, b0⟩ := int 0 c0 (by decide) (hf 0 _ rfl)
  obtain ⟨m1, rfl, b1⟩ := int 1 c1 (by decide) (hf 1 _ rfl)
  obtain ⟨m2, rfl, b2⟩ := int 2 c2 (by decide) (hf 2 _ rfl)
  obtain ⟨m3, rfl, b3⟩ := int 3 c3 (by decide) (hf 3 _ rfl)
  obtain ⟨m4, rfl, b4⟩ := int 4 c4 (by decide) (hf 4 _ rfl)
  have e5 : DataW.trod enc Tryz.prog W 0 (fun _ => true) true n' 9 [c5] = ys[5]? := hf 5 _ rfl
  cases hq : ys[5]? with
  | none => exact absurd hq (hy 5 (by decide))
  | some z =>
   rw [hq] at e5
   obtain ⟨s, e1, _, e3⟩ := DataW.trod_string Tryz.underlying9 e5
   obtain rfl : c5 = .string s := by simpa using e1
   exact ⟨⟨m0, m1, m2, m3, m4, s⟩, rfl, b0, b1, b2, b3, b4, e3⟩
set_option maxRecDepth 100000 in
theorem open_raws (hok : Value.okWide Tryz.prog W r b0 22 v) (h : DataW.Trod enc Tryz.prog W 0 (fun _ => true) true 22 v d p) : ∃ l : List Raw, RawsG ⟨Non, W⟩ v l :=
 open_seq (R := fun cs y => RawG ⟨Non, W⟩ y cs) Tryz.underlying22 (k := 6) (by kernel_rfl) (by decide) (fun n cs x hx hl => raw_of hx hl) hok h
set_option maxRecDepth 100000 in
theorem open_ints (hok : Value.okWide Tryz.prog W r b0 28 v) (h : DataW.Trod enc Tryz.prog W 0 (fun _ => true) true 28 v d p) : ∃ l : List Int, ScR (fun (_ : GW) (x : Int) cs => cs = [.int .i64 x] ∧ i64 x) 1 ⟨Non, W⟩ v l :=
 open_seq (R := fun cs (x : Int) => cs = [.int .i64 x] ∧ i64 x) Tryz.underlying28 (k := 1) (by kernel_rfl) (by decide) (fun n cs x hx hl => by
  match cs, hl with
  | [c], _ =>
   obtain ⟨m, e1, _, e3⟩ := DataW.trod_int Tryz.underlying3 hx
   exact ⟨m, e1, i64_bd e3⟩) hok h
end
theorem wf_nonL (w : World) : GW.Wf ⟨Non, w⟩ := fun _ h => h.elim
end Go.Proofs.YtohdfcnjcpjdcaaGreat
