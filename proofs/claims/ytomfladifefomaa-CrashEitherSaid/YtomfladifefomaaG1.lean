/- dev.Get: a range over slices.Backward: the walk inside a fence; what it reads. Conditions: as each law states them. -/
import Derived.RangeFuncNested
import Derived.RangeFuncBound
import Derived.RangeFuncCalls
import Derived.RangeFuncLeaves
import Derived.Shelf.Abstract
import Derived.OwnWalkIn
import Derived.TacticsInMore
import Derived.LoopNIn
import Derived.LoopIn
import Derived.Test.YtomfladifefomaaT14
import Derived.Test.YtomfladifefomaaDm
namespace Go.Proofs.Ytomfladifefomaa
open Go.RowKit Go.Shelf
attribute [local go_sem] Oper.semAt_some
/-- what a round is handed -/
structure WE where
  i : Nat
  a : Int
  A : Option Addr
  m : Nat
  c : Nat
instance : Inhabited WE := ⟨⟨0, 0, none, 0, 0⟩⟩
def WE.enc (x : WE) : Array Value := #[.int .i64 (x.i : Int), .agg #[.int .i64 x.a, .slice x.A x.m x.c]]
def upto {α : Type} (f : Nat → α) (k : Nat) : List α := (List.range k).map f
theorem upto_succ {α : Type} (f : Nat → α) (k : Nat) : upto f (k + 1) = upto f k ++ [f k] := by simp [upto, List.range_succ]
theorem upto_length {α : Type} (f : Nat → α) (k : Nat) : (upto f k).length = k := by simp [upto]
/-- what a round gets, the k-th one: the element of this index, as it lies in block b -/
def BackR {p : WE → Prop} (W : World) (b off len : Nat) (f : Nat → {x : WE // p x}) : Prop := ∀ k, k < len → (f k).1.i = len - 1 - k ∧ W.cell? ⟨b, off + (len - 1 - k) * 2, none⟩ = some (.int .i64 (f k).1.a) ∧ W.cell? ⟨b, off + (len - 1 - k) * 2 + 1, none⟩ = some (.slice (f k).1.A (f k).1.m (f k).1.c)
set_option maxRecDepth 100000 in
set_option maxHeartbeats 2000000 in
theorem back1_in {p : WE → Prop} (F : Fence) (n : Nat) (h87 : F.fn 87) (hro : F.round = none) (hn : 1 ≤ n) (l Bs n₀ b off len cap : Nat) (f : Nat → {x : WE // p x}) (hlen : len ≤ 100000) (hb : b < n₀) (hBn : Bs < n₀) (J Jx : List {x : WE // p x} → World → Prop)
    (hY : ∀ pre x W, J pre W → pre.length < len → YieldAt F (n - 1) Try.prog l (WE.enc x.1) W fun e W' =>
      (e = .returned (.bool true) ∧ J (pre ++ [x]) W' ∧ Below n₀ W W') ∨ (e = .returned (.bool false) ∧ Jx (pre ++ [x]) W'))
    (W : World) (hBs : W.cell? ⟨Bs, 0, none⟩ = some (.slice (some ⟨b, off, none⟩) len cap)) (hc : BackR W b off len f) (h0 : J [] W) :
    CallsIn F n Try.prog 87 #[.func (.yield l) #[] #[], .pointer (some ⟨Bs, 0, none⟩)] W fun e W' => (∃ v, e = .returned v) ∧
      ((∃ ys, ys = upto f len ∧ J ys W') ∨ (∃ pre, (∃ k, k ≤ len ∧ pre = upto f k) ∧ Jx pre W')) := by
  refine callsIn_of_wp Try.func87 rfl h87 ?_ hro
  simp only [Try.ntmps87, List.size_toArray, List.length_cons, List.length_nil, Nat.reduceAdd, Nat.reduceSub, Array.replicate_succ, Array.replicate_zero, List.push_toArray, List.append_toArray, List.nil_append, List.cons_append]
  gi_wp2
  gi_loopw [3] (fun i wr => ∃ k : Nat, k ≤ len ∧ i = .int .i64 ((len : Int) - 1 - (k : Int)) ∧ J (upto f k) wr ∧ Below n₀ W wr)
    (fun i _ => (intOf i + 1).toNat)
  case atStart => exact ⟨0, Nat.zero_le _, by simp, h0, Below.refl _ _⟩
  case round =>
    obtain ⟨k, hk, rfl, hJs, hnx⟩ := hrel
    have hBr : wr.cell? ⟨Bs, 0, none⟩ = some (.slice (some ⟨b, off, none⟩) len cap) := (hnx.cell (p := ⟨Bs, 0, none⟩) hBn).trans hBs
    by_cases hlt : k < len
    · obtain ⟨q1, q2, q3⟩ := hc k hlt
      obtain ⟨j, hj⟩ : ∃ j, j = len - 1 - k := ⟨_, rfl⟩
      rw [← hj] at q1 q2 q3
      have hji : (len : Int) - 1 - (k : Int) = (j : Int) := by omega
      rw [hji]
      have hjl : j < len := by omega
      have r2 : wr.cell? ⟨b, off + j * 2, none⟩ = some (.int .i64 (f k).1.a) := (hnx.cell (p := ⟨b, off + j * 2, none⟩) hb).trans q2
      have r3 : wr.cell? ⟨b, off + j * 2 + 1, none⟩ = some (.slice (f k).1.A (f k).1.m (f k).1.c) := (hnx.cell (p := ⟨b, off + j * 2 + 1, none⟩) hb).trans q3
      obtain ⟨fn, tmps, assign, body, hy, hR⟩ := hY _ (f k) wr hJs (by rw [upto_length]; exact hlt)
      unfold WE.enc at hy
      rw [q1] at hy
      clear hj
      gi_wp2
      refine hR.mono ?_
      rintro e W3 (⟨rfl, hJ3, hk3⟩ | ⟨rfl, hJx3⟩)
      · gi_wp2
        go_roundw
        case rel => exact ⟨k + 1, by omega, by congr 1; omega, by rw [upto_succ]; exact hJ3, hnx.trans hk3⟩
        case measure => simp [intOf]
      · gi_wp2
        refine bodyPost_ret (results_none rfl _ _ _) rfl ?_
        exact ⟨⟨_, rfl⟩, .inr ⟨_, ⟨k + 1, by omega, (upto_succ _ _).symm⟩, hJx3⟩⟩
    · obtain rfl : k = len := by omega
      have hji : (k : Int) - 1 - (k : Int) = -1 := by omega
      rw [hji]
      gi_wp2
      go_end0
      exact ⟨⟨_, rfl⟩, .inl ⟨_, rfl, hJs⟩⟩
set_option maxRecDepth 100000 in
set_option maxHeartbeats 1000000 in
theorem back0_in {p : WE → Prop} (F : Fence) (n : Nat) (h87 : F.fn 87) (hro : F.round = none) (l Bs c : Nat) (A : Option Addr) (J : List {x : WE // p x} → World → Prop) (W : World) (hBs : W.cell? ⟨Bs, 0, none⟩ = some (.slice A 0 c)) (h0 : J [] W) :
    CallsIn F n Try.prog 87 #[.func (.yield l) #[] #[], .pointer (some ⟨Bs, 0, none⟩)] W fun e W' => (∃ v, e = .returned v) ∧ J [] W' := by
  refine callsIn_of_wp Try.func87 rfl h87 ?_ hro
  simp only [Try.ntmps87, List.size_toArray, List.length_cons, List.length_nil, Nat.reduceAdd, Nat.reduceSub, Array.replicate_succ, Array.replicate_zero, List.push_toArray, List.append_toArray, List.nil_append, List.cons_append]
  gi_wp2
  gi_loopw [3] (fun i wr => i = .int .i64 (-1) ∧ J [] wr) (fun _ _ => 0)
  case atStart => exact ⟨rfl, h0⟩
  case round =>
    obtain ⟨rfl, hJs⟩ := hrel
    gi_wp2
    go_end0
    exact ⟨⟨_, rfl⟩, hJs⟩
set_option maxHeartbeats 1000000 in
theorem back_in (F : Fence) (n : Nat) (h69 : F.fn 69) (hro : F.round = none) (a : Option Addr) (len cap : Nat) (w : World) :
    CallsIn F n Try.prog 69 #[.slice a len cap] w fun e w' => e = .returned (.func (.func 87) #[] #[.pointer (some ⟨w.heap.size, 0, none⟩)]) ∧ w' = w.alloc (.cells #[.slice a len cap] 34) := by
  refine callsIn_of_wp Try.func69 rfl h69 ?_ hro
  simp only [Try.ntmps69, List.size_toArray, List.length_cons, List.length_nil, Nat.reduceAdd, Nat.reduceSub, Array.replicate_succ, Array.replicate_zero, List.push_toArray, List.append_toArray, List.nil_append, List.cons_append]
  gi_wp2
  go_ret
  exact ⟨rfl, rfl⟩
theorem back_stops {p : WE → Prop} (F : Fence) (n : Nat) (h87 : F.fn 87) (hro : F.round = none) (hn : 1 ≤ n) (Bs n₀ len cap : Nat) (A : Option Addr) (f : Nat → {x : WE // p x}) (hlen : len ≤ 100000) (w : World) (hBs : Bs < w.heap.size) (hBn : Bs < n₀) (hn₀ : n₀ ≤ w.heap.size)
    (hc : w.cell? ⟨Bs, 0, none⟩ = some (.slice A len cap)) (hI : 0 < len → ∃ b off, A = some ⟨b, off, none⟩ ∧ b < n₀ ∧ BackR w b off len f) :
    SeqStopsK F n Try.prog 87 #[.pointer (some ⟨Bs, 0, none⟩)] (fun x : {x : WE // p x} => WE.enc x.1) (Below n₀) (fun ys => ys = upto f len) (fun pre => ∃ k, k ≤ len ∧ pre = upto f k) len w := fun l J Jx W hW _ _ hY h0 => by
  have hc' := (hW.cell (p := ⟨Bs, 0, none⟩) hBs).trans hc
  by_cases h : 0 < len
  · obtain ⟨b, off, rfl, hb, hB⟩ := hI h
    have hbw : b < w.heap.size := Nat.lt_of_lt_of_le hb hn₀
    refine back1_in F n h87 hro hn l Bs n₀ b off len cap f hlen hb hBn J Jx hY W hc' (fun k hk => ?_) h0
    obtain ⟨q1, q2, q3⟩ := hB k hk
    exact ⟨q1, (hW.cell (p := ⟨b, off + (len - 1 - k) * 2, none⟩) hbw).trans q2, (hW.cell (p := ⟨b, off + (len - 1 - k) * 2 + 1, none⟩) hbw).trans q3⟩
  · obtain rfl : len = 0 := by omega
    exact (back0_in F n h87 hro l Bs cap A J W hc' h0).mono fun e W' ⟨he, hj⟩ => ⟨he, .inl ⟨_, rfl, hj⟩⟩
end Go.Proofs.Ytomfladifefomaa
