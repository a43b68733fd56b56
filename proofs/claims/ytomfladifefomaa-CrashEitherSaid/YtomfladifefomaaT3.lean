import Derived.Test.YtomfladifefomaaRows
import Derived.Test.YtomfladifefomaaMem
import Derived.Test.YtomfladifefomaaT2
namespace Go.Proofs.Ytomfladifefomaa
open Go.RowKit
def wBad (at_ : Int) (n m : Nat) : Bool := decide (at_ < 0) || decide ((n : Int) ≤ at_) || m != 64
theorem ret_bool {a b : Bool} (h : a = b) : Ending.returned (.bool a) = .returned (.bool b) := by rw [h]
set_option maxHeartbeats 400000 in
theorem check2_any (at_ : Int) (A B : Option Addr) (n m c d b : Nat) (w : World) (hc : w.cell? ⟨b, 0, none⟩ = some (.slice B n d)) (hb : b < w.heap.size) :
    Calls Try.prog 66 #[.agg #[.int .i64 at_, .slice A m c], .pointer (some ⟨b, 0, none⟩)] w fun e w' => e = .returned (.bool (wBad at_ n m)) ∧ Below w.heap.size w w' := by
  by_cases h1 : at_ < 0
  · go_enter Try.func66, Try.ntmps66
    go_wp2
    go_ret
    exact ⟨ret_bool (by simp [wBad, h1]), below_al (Below.refl _ _) _⟩
  · by_cases h2 : (n : Int) ≤ at_
    · go_enter Try.func66, Try.ntmps66
      go_wp2
      go_ret
      exact ⟨ret_bool (by simp [wBad, h2]), below_al (Below.refl _ _) _⟩
    · by_cases h3 : m = 64
      · have hbb : ((m : Int) == 64) = true := by simp; omega
        have H3 := Lib.hid h3
        clear h3
        go_enter Try.func66, Try.ntmps66
        go_wp2
        go_ret
        exact ⟨ret_bool (by simp [wBad, H3.out]; omega), below_al (Below.refl _ _) _⟩
      · have hbb : ((m : Int) == 64) = false := by simp; omega
        have H3 := Lib.hid h3
        clear h3
        go_enter Try.func66, Try.ntmps66
        go_wp2
        go_ret
        exact ⟨ret_bool (by rw [show ((m : Int) != 64) = true from by rw [bne_iff_ne]; have := H3.out; omega]; unfold wBad; rw [show (m != 64) = true from by rw [bne_iff_ne]; exact H3.out]; simp), below_al (Below.refl _ _) _⟩
def vBad (n : Nat) (s : Int) (g : Bool) (most : Int) : Bool := decide (most < n) || decide (s < 0) || decide ((n : Int) < s) || (g && decide (0 < n))
set_option maxHeartbeats 800000 in
theorem check3_any (A : Option Addr) (n c : Nat) (s : Int) (g : Bool) (most : Int) (b : Nat) (w : World) (hc : w.cell? ⟨b, 3, none⟩ = some (.int .i64 most)) (hb : b < w.heap.size) :
    Calls Try.prog 68 #[.agg #[.slice A n c, .int .i64 s, .bool g], .pointer (some ⟨b, 0, none⟩)] w fun e w' => e = .returned (.bool (vBad n s g most)) ∧ Below w.heap.size w w' := by
  by_cases h1 : most < n
  · go_enter Try.func68, Try.ntmps68
    go_wp2
    go_ret
    exact ⟨ret_bool (by simp [vBad, h1]), below_al (Below.refl _ _) _⟩
  · by_cases h2 : s < 0
    · go_enter Try.func68, Try.ntmps68
      go_wp2
      go_ret
      exact ⟨ret_bool (by simp [vBad, h2]), below_al (Below.refl _ _) _⟩
    · by_cases h3 : (n : Int) < s
      · go_enter Try.func68, Try.ntmps68
        go_wp2
        go_ret
        exact ⟨ret_bool (by simp [vBad, h3]), below_al (Below.refl _ _) _⟩
      · cases g with
        | false =>
          go_enter Try.func68, Try.ntmps68
          go_wp2
          go_ret
          exact ⟨ret_bool (by simp [vBad]; omega), below_al (Below.refl _ _) _⟩
        | true =>
          by_cases h4 : (0 : Int) < (n : Int)
          · go_enter Try.func68, Try.ntmps68
            go_wp2
            go_ret
            exact ⟨ret_bool (by simp [vBad]; omega), below_al (Below.refl _ _) _⟩
          · go_enter Try.func68, Try.ntmps68
            go_wp2
            go_ret
            exact ⟨ret_bool (by simp [vBad]; omega), below_al (Below.refl _ _) _⟩
end Go.Proofs.Ytomfladifefomaa
