/- 'icehousekeep.PackBad' returns true for every int and changes nothing that was there. Conditions: none. -/
import Derived.Test.YtomfladifefomaaRows
import Derived.Test.YtomfladifefomaaLib
namespace Go.Proofs.Ytomfladifefomaa
open Go.RowKit
set_option maxHeartbeats 400000 in
theorem picked_any (n m : Int) (w : World) (hn : -9223372036854775808 ≤ n) (hn2 : n ≤ 9223372036854775807) (hm : 0 < m) (hm2 : m ≤ 1000000000) :
    Calls Try.prog 25 #[.int .i64 n, .int .i64 m] w fun e w' => e = .returned (.int .i64 (pick n m)) ∧ w = w' := by
  by_cases h : n < 0
  · go_enter Try.func25, Try.ntmps25
    go_wp2
    go_ret
    exact ⟨ret_i64 (pick_neg n m h), rfl⟩
  · go_enter Try.func25, Try.ntmps25
    go_wp2
    go_ret
    exact ⟨ret_i64 (pick_pos n m (by omega)), rfl⟩
theorem pack_form (at_ : Int) (A B : Option Addr) (n m c d : Nat) (w : World) (h0 : 0 ≤ at_) (h1 : at_ ≤ 4000) (hnm : n ≠ m) :
    Calls Try.prog 26 #[.int .i64 at_, .slice A n c, .slice B m d] w fun e w' => e = .returned (.tuple #[.slice none 0 0, .slice none 0 0, .int .i64 4]) ∧ w = w' := by
  have hd : ((n : Int) == (m : Int)) = false := by simp; omega
  go_enter Try.func26, Try.ntmps26
  go_wp2
  go_ret3
  exact ⟨rfl, rfl⟩
theorem pack_low (at_ : Int) (A B : Option Addr) (n m c d : Nat) (w : World) (h0 : at_ < 0)  :
    Calls Try.prog 26 #[.int .i64 at_, .slice A n c, .slice B m d] w fun e w' => e = .returned (.tuple #[.slice none 0 0, .slice none 0 0, .int .i64 2]) ∧ w = w' := by
  go_enter Try.func26, Try.ntmps26
  go_wp2
  go_ret3
  exact ⟨rfl, rfl⟩
theorem pack_nil (at_ : Int) (w : World) (h0 : 0 ≤ at_) (h1 : at_ ≤ 4000) :
    Calls Try.prog 26 #[.int .i64 at_, .slice none 0 0, .slice none 0 0] w fun e w' => e = .returned (.tuple #[.slice none 0 0, .slice none 0 0, .int .i64 0]) ∧ w = w' := by
  go_enter Try.func26, Try.ntmps26
  go_wp2
  refine wp_loop_rounds 1 ?_
  rw [rounds_succ]
  go_wp2
  go_ret3
  exact ⟨rfl, rfl⟩
theorem pack_id (at_ : Int) (a b : Addr) (k : Int) (w : World) (h0 : 0 ≤ at_) (h1 : at_ ≤ 4000) (hk : k < 1) (ha : w.cell? a = some (.int .i64 k)) :
    Calls Try.prog 26 #[.int .i64 at_, .slice (some a) 1 1, .slice (some b) 1 1] w fun e w' => e = .returned (.tuple #[.slice none 0 0, .slice none 0 0, .int .i64 2]) ∧ w = w' := by
  go_enter Try.func26, Try.ntmps26
  go_wp2
  refine wp_loop_rounds 1 ?_
  rw [rounds_succ]
  go_wp2
  go_ret3
  exact ⟨rfl, rfl⟩
theorem pack_size (at_ : Int) (a b : Addr) (k : Int) (A : Option Addr) (n c : Nat) (w : World) (h0 : 0 ≤ at_) (h1 : at_ ≤ 4000) (hk : 1 ≤ k) (hk2 : k ≤ 1000) (ha : w.cell? a = some (.int .i64 k)) (hb : w.cell? b = some (.slice A n c)) (hn : 600 < n) :
    Calls Try.prog 26 #[.int .i64 at_, .slice (some a) 1 1, .slice (some b) 1 1] w fun e w' => e = .returned (.tuple #[.slice none 0 0, .slice none 0 0, .int .i64 1]) ∧ w = w' := by
  go_enter Try.func26, Try.ntmps26
  go_wp2
  refine wp_loop_rounds 1 ?_
  rw [rounds_succ]
  go_wp2
  go_ret3
  exact ⟨rfl, rfl⟩
theorem infoU8 : (Try.prog.info? 5).map (fun i => (i.zero, i.size, i.bytes)) = some (some (.int .u8 0), 1, 1) := by kernel_rfl
theorem make_bytes (n : Int) (h0 : 0 ≤ n) (h1 : n ≤ 100000) (W : World) :
    (Instr.makeSlice 23 (.int .i64 n) (.int .i64 n)).run Try.prog W = .ok (.slice (some ⟨W.heap.size, 0, none⟩) n.toNat n.toNat) (W.alloc (.cells (madeCells (Value.int .u8 0).cells n.toNat) 5)) := by
  obtain ⟨i0, hi, hz0, hz1, hz2⟩ := info_parts infoU8
  have h := run_make_rowN (P := Try.prog) 23 5 i0 _ Try.underlying23 hi hz0 .i64 .i64 n.toNat n.toNat (Nat.le_refl _) (by rw [hz2]; omega) (by omega) W
  rw [hz1, Nat.mul_one, Int.toNat_of_nonneg h0] at h
  exact h
set_option maxHeartbeats 1000000 in
theorem packBad_walk (a0 : Int) (w0 : (Lit.int .i64 a0).wf = true) (w : World) :
    Calls Try.prog 3 #[.int .i64 a0] w fun e w' => e = .returned (.bool true) ∧ Below w.heap.size w w' := by
  obtain ⟨h1, h2⟩ := i64_bd w0
  obtain ⟨hp1, hp2⟩ := pick_bd a0 9 (by omega)
  clear w0
  go_enter Try.func3, Try.ntmps3
  go_wp2_with fail
  refine (picked_any _ _ _ h1 h2 (by omega) (by omega)).mono ?_
  rintro e w' ⟨rfl, rfl⟩
  go_wp2_with fail
  refine (pack_form _ _ _ _ _ _ _ _ (by omega) (by omega) (by omega)).mono ?_
  rintro e w' ⟨rfl, rfl⟩
  go_wp2_with fail
  refine (pack_id _ _ _ (-pick a0 9) _ (by omega) (by omega) (by omega) (by go_simp)).mono ?_
  rintro e w' ⟨rfl, rfl⟩
  have hmk := make_bytes (601 + pick a0 9) (by omega) (by omega)
  go_wp2_with fail
  refine (pack_size _ _ _ 1 (some ⟨w.heap.size + 1 + 1 + 1 + 1, 0, none⟩) (601 + pick a0 9).toNat (601 + pick a0 9).toNat _ (by omega) (by omega) (by omega) (by omega) (by go_simp) (by go_simp) (by omega)).mono ?_
  rintro e w' ⟨rfl, rfl⟩
  go_wp2_with fail
  refine (pack_low _ _ _ _ _ _ _ _ (by omega)).mono ?_
  rintro e w' ⟨rfl, rfl⟩
  go_wp2_with fail
  refine (pack_nil _ _ (by omega) (by omega)).mono ?_
  rintro e w' ⟨rfl, rfl⟩
  go_wp2
  go_ret
  refine ⟨rfl, ?_⟩
  repeat (first | exact Below.refl _ _ | refine below_al ?_ _)
end Go.Proofs.Ytomfladifefomaa
