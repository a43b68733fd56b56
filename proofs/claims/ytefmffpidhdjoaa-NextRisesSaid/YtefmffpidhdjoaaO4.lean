/- An argument that is a raw thing. Conditions: as the law states them. -/
import Derived.Test.YtefmffpidhdjoaaO3
import Derived.Lib.SmallJoins
namespace Go.Proofs.Ytefmffpidhdjoaa
open Go.Joins Go.ChangeShapes Go.WideShapes Go.Deep Go.RowKit
set_option maxRecDepth 100000
section
variable {H : Type} {enc : TypeId × Value → H} {W : World} {r : Reach} {b0 : Nat} {v : Value} {d : DataW H} {p : List MemPlace}
theorem open_raw (hok : Value.okWide Try.prog W r b0 54 v) (h : DataW.Trod enc Try.prog W 0 (fun _ => true) true 54 v d p) : ∃ y : Raw, v = rawV y ∧ RawOk y := by
  obtain ⟨cs, rfl, hsz⟩ := okWide_struct Try.underlying54 hok
  obtain ⟨fuel, hf⟩ := h
  have h6 : cs.toList.length = 6 := by
    rw [Array.length_toList, hsz]
    kernel_rfl
  obtain ⟨y, e, a, b, c, f, g, _⟩ := raw_of hf h6
  refine ⟨y, ?_, ⟨a, b, c, f, g⟩⟩
  have : cs = #[.int .i64 y.kind, .int .i64 y.a, .int .i64 y.b, .int .i64 y.c, .int .i64 y.d, .string y.text] := Array.ext' e
  rw [this]
  rfl
end
end Go.Proofs.Ytefmffpidhdjoaa
