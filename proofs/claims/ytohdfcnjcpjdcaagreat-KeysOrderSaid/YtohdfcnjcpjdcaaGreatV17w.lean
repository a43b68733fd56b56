/- state.Latest: a range over slices.Backward. Conditions: as each law states them. -/
import Derived.Test.YtohdfcnjcpjdcaaGreatLAw
import Derived.Test.YtohdfcnjcpjdcaaGreatS26w
import Derived.RangeFuncNested
import Derived.RangeFuncBound
import Derived.RangeFuncCalls
import Derived.RangeFuncLeaves
import Derived.Shelf.Abstract
import Derived.OwnWalkIn
import Derived.TacticsInMore
import Derived.LoopNIn
import Derived.LoopIn
namespace Go.Proofs.YtohdfcnjcpjdcaaGreat
open Go.RowKit Go.Shelf
attribute [local go_sem] Oper.semAt_some
set_option linter.unusedSimpArgs false
/-- the last one that a test is true of -/
def lastV (p : Ver → Bool) : List Ver → Option Ver
 | [] => none
 | x :: l => match lastV p l with
  | some y => some y
  | none => if p x = true then some x else none
def keyIs (nm ky : ByteArray) (x : Ver) : Bool := decide (x.bucket = nm) && decide (x.key = ky)
theorem GW.le_of_below {M : Nat → Prop} {w W : World} (h : Below w.heap.size w W) : GW.Le ⟨M, w⟩ ⟨M, W⟩ := ⟨h.size, fun k hk hm => ⟨h.block k hk, hm⟩⟩
theorem wf_below {M : Nat → Prop} {w W : World} (hw : GW.Wf ⟨M, w⟩) (h : Below w.heap.size w W) : GW.Wf ⟨M, W⟩ := fun k hk => Nat.lt_of_lt_of_le (hw k hk) h.size
theorem sl_row {M : Nat → Prop} {w W : World} {r : Rw} (hM : GW.Wf ⟨M, w⟩) (hs : w.heap.size ≤ W.heap.size) (h : RowIs W r) (hf : ∀ g, rb r.v = some g → w.heap.size ≤ g) (hk : r.k ≠ 0) : Sl ⟨M, W⟩ r.t r.k r.n r.v r.xs := by
 rcases h with ⟨B, e1, e2, e3⟩ | hrow2 | ⟨q, _⟩
 ·rw [e1, e2, e3]
  exact ⟨B, 0, rfl, Nat.le_refl _, Nat.zero_le _, by simp, fun q => absurd q (by omega)⟩
 ·rcases hrow2.2 with ⟨e1, e2⟩ | ⟨g, cap, cur, e, hb, hg, h1, h2, h3, h4⟩
  ·rw [e1, e2]
   have : r.xs = [] := List.eq_nil_of_length_eq_zero (by rw [hrow2.1, e2, Nat.zero_mul])
   rw [this]
   exact Sl.nil _ _ _
  ·refine ⟨_, cap, e, h1, h2, hrow2.1, fun hn0 => ⟨g, 0, cur, (0, 0), rfl, fun q => ?_, hg, fun j u hu => ?_⟩⟩
   ·have hown : rb r.v = some g := by
     rw [e]
     show (if cap = 0 then none else some g) = some g
     rw [if_neg (by omega)]
    have h7 := hf g hown
    have h8 := hM g q
    have h9 : g < w.heap.size := h8
    omega
   ·rw [← h4, List.getElem?_take] at hu
    split at hu
    ·simpa using hu
    ·cases hu
 ·exact absurd q hk
theorem clone_any {l : List Int} {lv : Value} {G0 : GW} (hW : G0.Wf) (h : IntsG G0 lv l) (hn : l.length ≤ 1000000) :
  Calls Tryz.prog 64 #[lv] G0.w fun e W => ∃ A c, e = .returned (.slice A l.length c) ∧ Below G0.w.heap.size G0.w W ∧ IntsG ⟨G0.M, W⟩ (.slice A l.length c) l :=
 Calls.mono (cloneInt_does hW h hn) fun e W ⟨v, css, R, he, _, hr, _, ⟨A, c, e1, e2⟩, hg⟩ => by
  have hb : Below G0.w.heap.size G0.w W := (show Chg Non G0.w W from ⟨hg.os, hg.tape, hg.output, hg.size, fun k hk _ => hg.block k hk (fun q => by rcases q with ⟨b, hb, _⟩ | ⟨r, hr, _⟩ <;> contradiction)⟩).below
  subst e1 e2
  obtain ⟨h1, h2⟩ := hr _ (List.mem_singleton.2 rfl)
  refine ⟨A, c, he, hb, ints_of ?_⟩
  exact sl_row (M := G0.M) (w := G0.w) (r := intRow (.slice A l.length c) l) hW hb.size h1 (fun g hg2 => (h2 g hg2).elim (fun ⟨q, hq, _⟩ => by cases hq) id) (by show (1 : Nat) ≠ 0; decide)
/-- what a round is handed -/
structure LE where
 i : Nat
 v : Ver
 A : Option Addr
 c : Nat
def LE.enc (x : LE) : Array Value := #[.int .i64 (x.i : Int), .agg (verV x.v (.slice x.A x.v.secs.length x.c)).toArray]
def upto {α : Type} (f : Nat → α) (k : Nat) : List α := (List.range k).map f
theorem upto_succ {α : Type} (f : Nat → α) (k : Nat) : upto f (k + 1) = upto f k ++ [f k] := by simp [upto, List.range_succ]
theorem upto_length {α : Type} (f : Nat → α) (k : Nat) : (upto f k).length = k := by simp [upto]
def BackR {p : LE → Prop} (W : World) (b off len : Nat) (f : Nat → {x : LE // p x}) : Prop := ∀ k, k < len → (f k).1.i = len - 1 - k ∧ ∀ j u, (verV (f k).1.v (.slice (f k).1.A (f k).1.v.secs.length (f k).1.c))[j]? = some u → W.cell? ⟨b, off + (len - 1 - k) * 12 + j, none⟩ = some u
set_option maxRecDepth 100000 in
set_option maxHeartbeats 4000000 in
theorem back1_in {p : LE → Prop} (F : Fence) (n : Nat) (h87 : F.fn 92) (hro : F.round = none) (hn : 1 ≤ n) (l Bs n₀ b off len cap : Nat) (f : Nat → {x : LE // p x}) (hlen : len ≤ 100000) (hb : b < n₀) (hBn : Bs < n₀) (J Jx : List {x : LE // p x} → World → Prop)
  (hY : ∀ pre x W, J pre W → pre.length < len → YieldAt F (n - 1) Tryz.prog l (LE.enc x.1) W fun e W' =>
   (e = .returned (.bool true) ∧ J (pre ++ [x]) W' ∧ Below n₀ W W') ∨ (e = .returned (.bool false) ∧ Jx (pre ++ [x]) W'))
  (W : World) (hBs : W.cell? ⟨Bs, 0, none⟩ = some (.slice (some ⟨b, off, none⟩) len cap)) (hc : BackR W b off len f) (h0 : J [] W) :
  CallsIn F n Tryz.prog 92 #[.func (.yield l) #[] #[], .pointer (some ⟨Bs, 0, none⟩)] W fun e W' => (∃ v, e = .returned v) ∧
   ((∃ ys, ys = upto f len ∧ J ys W') ∨ (∃ pre, (∃ k, k ≤ len ∧ pre = upto f k) ∧ Jx pre W')) := by
 refine callsIn_of_wp Tryz.func92 rfl h87 ?_ hro
 simp only [Tryz.ntmps92, List.size_toArray, List.length_cons, List.length_nil, Nat.reduceAdd, Nat.reduceSub, Array.replicate_succ, Array.replicate_zero, List.push_toArray, List.append_toArray, List.nil_append, List.cons_append]
 gi_wp2
 gi_loopw [3] (fun i wr => ∃ k : Nat, k ≤ len ∧ i = .int .i64 ((len : Int) - 1 - (k : Int)) ∧ J (upto f k) wr ∧ Below n₀ W wr)
  (fun i _ => (intOf i + 1).toNat)
 case atStart => exact ⟨0, Nat.zero_le _, by simp, h0, Below.refl _ _⟩
 case round =>
  obtain ⟨k, hk, rfl, hJs, hnx⟩ := hrel
  have hBr : wr.cell? ⟨Bs, 0, none⟩ = some (.slice (some ⟨b, off, none⟩) len cap) := (hnx.cell (p := ⟨Bs, 0, none⟩) hBn).trans hBs
  by_cases hlt : k < len
  ·obtain ⟨q1, q2⟩ := hc k hlt
   obtain ⟨j, hj⟩ : ∃ j, j = len - 1 - k := ⟨_, rfl⟩
   rw [← hj] at q1 q2
   have hji : (len : Int) - 1 - (k : Int) = (j : Int) := by omega
   rw [hji]
   have hjl : j < len := by omega
   have r0 : wr.cell? ⟨b, off + j * 12, none⟩ = some (.int .i64 (f k).1.v.id) := (hnx.cell (p := ⟨b, off + j * 12, none⟩) hb).trans (q2 0 _ rfl)
   have r1 : wr.cell? ⟨b, off + j * 12 + 1, none⟩ = some (.string (f k).1.v.bucket) := (hnx.cell (p := ⟨b, off + j * 12 + 1, none⟩) hb).trans (q2 1 _ rfl)
   have r2 : wr.cell? ⟨b, off + j * 12 + 2, none⟩ = some (.string (f k).1.v.key) := (hnx.cell (p := ⟨b, off + j * 12 + 2, none⟩) hb).trans (q2 2 _ rfl)
   have r3 : wr.cell? ⟨b, off + j * 12 + 3, none⟩ = some (.bool (f k).1.v.null) := (hnx.cell (p := ⟨b, off + j * 12 + 3, none⟩) hb).trans (q2 3 _ rfl)
   have r4 : wr.cell? ⟨b, off + j * 12 + 4, none⟩ = some (.bool (f k).1.v.marker) := (hnx.cell (p := ⟨b, off + j * 12 + 4, none⟩) hb).trans (q2 4 _ rfl)
   have r5 : wr.cell? ⟨b, off + j * 12 + 5, none⟩ = some (.int .i64 (f k).1.v.size) := (hnx.cell (p := ⟨b, off + j * 12 + 5, none⟩) hb).trans (q2 5 _ rfl)
   have r6 : wr.cell? ⟨b, off + j * 12 + 6, none⟩ = some (.int .i64 (f k).1.v.time) := (hnx.cell (p := ⟨b, off + j * 12 + 6, none⟩) hb).trans (q2 6 _ rfl)
   have r7 : wr.cell? ⟨b, off + j * 12 + 7, none⟩ = some (.int .i64 (f k).1.v.tier) := (hnx.cell (p := ⟨b, off + j * 12 + 7, none⟩) hb).trans (q2 7 _ rfl)
   have r8 : wr.cell? ⟨b, off + j * 12 + 8, none⟩ = some ((.slice (f k).1.A (f k).1.v.secs.length (f k).1.c)) := (hnx.cell (p := ⟨b, off + j * 12 + 8, none⟩) hb).trans (q2 8 _ rfl)
   have r9 : wr.cell? ⟨b, off + j * 12 + 9, none⟩ = some (.int .i64 (f k).1.v.vol) := (hnx.cell (p := ⟨b, off + j * 12 + 9, none⟩) hb).trans (q2 9 _ rfl)
   have r10 : wr.cell? ⟨b, off + j * 12 + 10, none⟩ = some (.int .i64 (f k).1.v.at_) := (hnx.cell (p := ⟨b, off + j * 12 + 10, none⟩) hb).trans (q2 10 _ rfl)
   have r11 : wr.cell? ⟨b, off + j * 12 + 11, none⟩ = some (.int .i64 (f k).1.v.till) := (hnx.cell (p := ⟨b, off + j * 12 + 11, none⟩) hb).trans (q2 11 _ rfl)
   obtain ⟨fn, tmps, assign, body, hy, hR⟩ := hY _ (f k) wr hJs (by rw [upto_length]; exact hlt)
   unfold LE.enc verV at hy
   rw [q1] at hy
   clear hj q2
   gi_wp2
   refine hR.mono ?_
   rintro e W3 (⟨rfl, hJ3, hk3⟩ | ⟨rfl, hJx3⟩)
   ·gi_wp2
    go_roundw
    case rel => exact ⟨k + 1, by omega, by congr 1; omega, by rw [upto_succ]; exact hJ3, hnx.trans hk3⟩
    case measure => simp [intOf]
   ·gi_wp2
    refine bodyPost_ret (results_none rfl _ _ _) rfl ?_
    exact ⟨⟨_, rfl⟩, .inr ⟨_, ⟨k + 1, by omega, (upto_succ _ _).symm⟩, hJx3⟩⟩
  ·obtain rfl : k = len := by omega
   have hji : (k : Int) - 1 - (k : Int) = -1 := by omega
   rw [hji]
   gi_wp2
   go_end0
   exact ⟨⟨_, rfl⟩, .inl ⟨_, rfl, hJs⟩⟩
set_option maxRecDepth 100000 in
set_option maxHeartbeats 1000000 in
theorem back0_in {p : LE → Prop} (F : Fence) (n : Nat) (h87 : F.fn 92) (hro : F.round = none) (l Bs c : Nat) (A : Option Addr) (J : List {x : LE // p x} → World → Prop) (W : World) (hBs : W.cell? ⟨Bs, 0, none⟩ = some (.slice A 0 c)) (h0 : J [] W) :
  CallsIn F n Tryz.prog 92 #[.func (.yield l) #[] #[], .pointer (some ⟨Bs, 0, none⟩)] W fun e W' => (∃ v, e = .returned v) ∧ J [] W' := by
 refine callsIn_of_wp Tryz.func92 rfl h87 ?_ hro
 simp only [Tryz.ntmps92, List.size_toArray, List.length_cons, List.length_nil, Nat.reduceAdd, Nat.reduceSub, Array.replicate_succ, Array.replicate_zero, List.push_toArray, List.append_toArray, List.nil_append, List.cons_append]
 gi_wp2
 gi_loopw [3] (fun i wr => i = .int .i64 (-1) ∧ J [] wr) (fun _ _ => 0)
 case atStart => exact ⟨rfl, h0⟩
 case round =>
  obtain ⟨rfl, hJs⟩ := hrel
  gi_wp2
  go_end0
  exact ⟨⟨_, rfl⟩, hJs⟩
set_option maxHeartbeats 1000000 in
theorem back_in (F : Fence) (n : Nat) (h69 : F.fn 63) (hro : F.round = none) (a : Option Addr) (len cap : Nat) (w : World) :
  CallsIn F n Tryz.prog 63 #[.slice a len cap] w fun e w' => e = .returned (.func (.func 92) #[] #[.pointer (some ⟨w.heap.size, 0, none⟩)]) ∧ w' = w.alloc (.cells #[.slice a len cap] 25) := by
 refine callsIn_of_wp Tryz.func63 rfl h69 ?_ hro
 simp only [Tryz.ntmps63, List.size_toArray, List.length_cons, List.length_nil, Nat.reduceAdd, Nat.reduceSub, Array.replicate_succ, Array.replicate_zero, List.push_toArray, List.append_toArray, List.nil_append, List.cons_append]
 gi_wp2
 go_ret
 exact ⟨rfl, rfl⟩
theorem back_stops {p : LE → Prop} (F : Fence) (n : Nat) (h87 : F.fn 92) (hro : F.round = none) (hn : 1 ≤ n) (Bs n₀ len cap : Nat) (A : Option Addr) (f : Nat → {x : LE // p x}) (hlen : len ≤ 100000) (w : World) (hBs : Bs < w.heap.size) (hBn : Bs < n₀) (hn₀ : n₀ ≤ w.heap.size)
  (hc : w.cell? ⟨Bs, 0, none⟩ = some (.slice A len cap)) (hI : 0 < len → ∃ b off, A = some ⟨b, off, none⟩ ∧ b < n₀ ∧ BackR w b off len f) :
  SeqStopsK F n Tryz.prog 92 #[.pointer (some ⟨Bs, 0, none⟩)] (fun x : {x : LE // p x} => LE.enc x.1) (Below n₀) (fun ys => ys = upto f len) (fun pre => ∃ k, k ≤ len ∧ pre = upto f k) len w := fun l J Jx W hW _ _ hY h0 => by
 have hc' := (hW.cell (p := ⟨Bs, 0, none⟩) hBs).trans hc
 by_cases h : 0 < len
 ·obtain ⟨b, off, rfl, hb, hB⟩ := hI h
  have hbw : b < w.heap.size := Nat.lt_of_lt_of_le hb hn₀
  refine back1_in F n h87 hro hn l Bs n₀ b off len cap f hlen hb hBn J Jx hY W hc' (fun k hk => ?_) h0
  obtain ⟨q1, q2⟩ := hB k hk
  exact ⟨q1, fun j u hu => (hW.cell (p := ⟨b, off + (len - 1 - k) * 12 + j, none⟩) hbw).trans (q2 j u hu)⟩
 ·obtain rfl : len = 0 := by omega
  exact (back0_in F n h87 hro l Bs cap A J W hc' h0).mono fun e W' ⟨he, hj⟩ => ⟨he, .inl ⟨_, rfl, hj⟩⟩
theorem Blk.new_at {w : World} {g : Nat} (hg : w.heap.size = g) (t : TypeId) (cs : Array Value) : Blk (w.alloc (.cells cs t)) g t cs := by subst hg; exact Blk.new w t cs
theorem Blk.far {w : World} {g : Nat} {t : TypeId} {cs : Array Value} (h : Blk w g t cs) {p : Addr} (hp : g ≠ p.block) (u : Value) : Blk (w.setCell p u) g t cs := (Below.heap_setCell w p u g hp).trans h
theorem keepX_own {W W' : World} {row : Option Nat} (hg : W.grownBy W' row) (hr : ∀ r, row = some r → ∃ o : Obj, W.heap[r]? = some o ∧ o.isCells = false) : KeepX (fun _ => true) W W' :=
 ⟨hg.size, fun g cur t fr hb _ => (hg.block g (lt_of_block hb) (fun e => by obtain ⟨o, ho, hc⟩ := hr g e.symm; rw [ho] at hb; cases hb; cases hc)).trans hb⟩
theorem Sl.keepX {M : Nat → Prop} {W W' : World} {t k n : Nat} {v : Value} {cells : List Value} (h : Sl ⟨M, W⟩ t k n v cells) (hk : KeepX (fun _ => true) W W') : Sl ⟨M, W'⟩ t k n v cells := by
 obtain ⟨A, c, e, h1, h2, h3, h4⟩ := h
 refine ⟨A, c, e, h1, h2, h3, fun hn => ?_⟩
 obtain ⟨g, o, cur, fr, e2, hm, hb, hc⟩ := h4 hn
 exact ⟨g, o, cur, fr, e2, hm, hk.2 g cur t fr hb rfl, hc⟩
/-- what a round may be handed -/
def GoodE (G : GW) (x : LE) : Prop := IntsG G (.slice x.A x.v.secs.length x.c) x.v.secs ∧ x.v.secs.length ≤ 1000000
theorem ints_sl {G : GW} {v : Value} {l : List Int} (h : IntsG G v l) : Sl G 3 1 l.length v (l.flatMap intC) := sq_flat (R := IntG) (f := intC) (fun _ _ _ h => h) h
theorem latest_end {F : Fence} {M : Nat → Prop} {w V : World} {D b6 b7 b8 : Nat} {cs : Array Value} {tb : Bool} {sv : Value} {l : List Int} {Q : Ending → World → Prop} (hK : V.heap[D]? = some (.deferred (some []))) (u6 : Blk V b6 38 cs) (u7 : Blk V b7 4 #[.bool tb]) (u8 : Blk V b8 34 #[.int .i64 0])
  (hcs : ∃ c0 c1 c2 c3 c4 c5 c6 c7 c8 c9 c10 c11, cs = #[c0, c1, c2, c3, c4, c5, c6, c7, c8, c9, c10, c11]) (ho : Sl ⟨M, V⟩ 3 1 l.length sv (l.flatMap intC)) (hB : Below w.heap.size w V) (hD : w.heap.size ≤ D) {a : Act} (h6 : a.tmps[6]? = some (.pointer (some ⟨b6, 0, none⟩))) (h7 : a.tmps[7]? = some (.pointer (some ⟨b7, 0, none⟩))) (h8 : a.tmps[8]? = some (.pointer (some ⟨b8, 0, none⟩))) (hdf : a.defers = [{ target := .collected D, args := #[] }])
  (hQ : ∀ w', Sl ⟨M, w'⟩ 3 1 l.length sv (l.flatMap intC) → Below w.heap.size w w' → Q (.returned (.tuple #[.agg cs, .bool tb, .int .i64 0])) w') :
  bodyPostM F 5 Tryz.prog Tryz.f21 Q .ret a V := by
 obtain ⟨tmps, defers⟩ := a
 simp only at h6 h7 h8 hdf
 subst hdf
 refine ⟨by simp, .inl ⟨_, _, rfl, run_takeDeferred hK, ?_⟩⟩
 have q := keepX_own (grownBy_putObj' V D (.deferred none)) (fun r e => by cases e; exact ⟨_, hK, rfl⟩)
 have k6 := (u6.keep q rfl)
 have k7 := (u7.keep q rfl).cell 0
 have k8 := (u8.keep q rfl).cell 0
 obtain ⟨c0, c1, c2, c3, c4, c5, c6, c7, c8, c9, c10, c11, rfl⟩ := hcs
 have n0 := k6.cell 0
 have n1 := k6.cell 1
 have n2 := k6.cell 2
 have n3 := k6.cell 3
 have n4 := k6.cell 4
 have n5 := k6.cell 5
 have n6 := k6.cell 6
 have n7 := k6.cell 7
 have n8 := k6.cell 8
 have n9 := k6.cell 9
 have n10 := k6.cell 10
 have n11 := k6.cell 11
 refine ⟨.tuple #[.agg #[c0, c1, c2, c3, c4, c5, c6, c7, c8, c9, c10, c11], .bool tb, .int .i64 0], ?_, hQ _ (ho.keepX q) (hB.trans (belowK_b (w := w) (Nat.le_refl _) V D _ _ hD hK rfl rfl))⟩
 simp [results, Tryz.results21, go_sem, n0, n1, n2, n3, n4, n5, n6, n7, n8, n9, n10, n11, k7, k8, h6, h7, h8]
def TyB (W : World) (b t : Nat) : Prop := ∃ cur fr, W.heap[b]? = some (.cells cur t fr)
theorem TyB.set {W : World} {b t : Nat} (h : TyB W b t) (p : Addr) (u : Value) : TyB (W.setCell p u) b t := by
 obtain ⟨cur, fr, h⟩ := h
 by_cases e : b = p.block
 ·subst e
  unfold TyB
  simp [World.setCell, Array.getElem?_modify, h]
 ·exact ⟨cur, fr, (Below.heap_setCell W p u b e).trans h⟩
theorem Blk.ty {W : World} {b t : Nat} {cs : Array Value} (h : Blk W b t cs) : TyB W b t := ⟨cs, _, h⟩
theorem Sl.set {M : Nat → Prop} {W : World} {t k n : Nat} {v : Value} {cells : List Value} {p : Addr} {u : Value} (t' : Nat) (hne : t' ≠ t) (hp : TyB W p.block t') (h : Sl ⟨M, W⟩ t k n v cells) : Sl ⟨M, W.setCell p u⟩ t k n v cells := by
 obtain ⟨A, c, e, h1, h2, h3, h4⟩ := h
 refine ⟨A, c, e, h1, h2, h3, fun hn => ?_⟩
 obtain ⟨g, o, cur, fr, e2, hm, hb, hc⟩ := h4 hn
 refine ⟨g, o, cur, fr, e2, hm, ?_, hc⟩
 refine (Below.heap_setCell W p u g (fun q => ?_)).trans hb
 subst q
 obtain ⟨c2, f2, h5⟩ := hp
 have hb' : W.heap[p.block]? = some (.cells cur t fr) := hb
 rw [h5] at hb'
 cases hb'
 exact hne rfl
theorem Blk.set1 {W : World} {b t : Nat} {c d : Value} (h : Blk W b t #[c]) : Blk (W.setCell ⟨b, 0, none⟩ d) b t #[d] := by simpa using h.set_ 0 d
theorem Blk.set12 {W : World} {b t : Nat} {c0 c1 c2 c3 c4 c5 c6 c7 c8 c9 c10 c11 d0 d1 d2 d3 d4 d5 d6 d7 d8 d9 d10 d11 : Value} (h : Blk W b t #[c0, c1, c2, c3, c4, c5, c6, c7, c8, c9, c10, c11]) : Blk ((((((((((((W.setCell ⟨b, 0, none⟩ d0).setCell ⟨b, 1, none⟩ d1).setCell ⟨b, 2, none⟩ d2).setCell ⟨b, 3, none⟩ d3).setCell ⟨b, 4, none⟩ d4).setCell ⟨b, 5, none⟩ d5).setCell ⟨b, 6, none⟩ d6).setCell ⟨b, 7, none⟩ d7).setCell ⟨b, 8, none⟩ d8).setCell ⟨b, 9, none⟩ d9).setCell ⟨b, 10, none⟩ d10).setCell ⟨b, 11, none⟩ d11) b t #[d0, d1, d2, d3, d4, d5, d6, d7, d8, d9, d10, d11] := by simpa using ((((((((((((h.set_ 0 d0).set_ 1 d1).set_ 2 d2).set_ 3 d3).set_ 4 d4).set_ 5 d5).set_ 6 d6).set_ 7 d7).set_ 8 d8).set_ 9 d9).set_ 10 d10).set_ 11 d11)
theorem lastV_stop {p : Ver → Bool} {l : List Ver} {j : Nat} {x : Ver} (hx : l[j]? = some x) (hp : p x = true) (hno : ∀ m y, j < m → l[m]? = some y → p y = false) : lastV p l = some x := by
 induction l generalizing j with
 | nil => simp at hx
 | cons a l ih =>
  unfold lastV
  cases j with
  | zero =>
   simp at hx
   subst hx
   have : lastV p l = none := by
    clear ih
    have h2 : ∀ y ∈ l, p y = false := fun y hy => by
     obtain ⟨m, hm⟩ := List.mem_iff_getElem?.1 hy
     exact hno (m + 1) y (by omega) (by simpa using hm)
    clear hno
    induction l with
    | nil => rfl
    | cons b l ih2 =>
     unfold lastV
     rw [ih2 (fun y hy => h2 y (List.mem_cons_of_mem _ hy))]
     simp [h2 b List.mem_cons_self]
   rw [this]
   simp [hp]
  | succ j =>
   rw [ih (j := j) (by simpa using hx) (fun m y hm hy => hno (m + 1) y (by omega) (by simpa using hy))]
theorem lastV_none {p : Ver → Bool} {l : List Ver} (hno : ∀ y ∈ l, p y = false) : lastV p l = none := by
 induction l with
 | nil => rfl
 | cons b l ih =>
  unfold lastV
  rw [ih (fun y hy => hno y (List.mem_cons_of_mem _ hy))]
  simp [hno b List.mem_cons_self]
def LatR (M : Nat → Prop) (w : World) (o : Option Ver) (e : Ending) (w' : World) : Prop := match o with
 | some x => ∃ sv, e = .returned (.tuple #[.agg (verV x sv).toArray, .bool true, .int .i64 0]) ∧ Sl ⟨M, w'⟩ 3 1 x.secs.length sv (x.secs.flatMap intC) ∧ Below w.heap.size w w'
 | none => e = .returned (.tuple #[.agg #[.int .i64 0, .string ⟨#[]⟩, .string ⟨#[]⟩, .bool false, .bool false, .int .i64 0, .int .i64 0, .int .i64 0, .slice none 0 0, .int .i64 0, .int .i64 0, .int .i64 0], .bool false, .int .i64 0]) ∧ Sl ⟨M, w'⟩ 3 1 ([] : List Int).length (.slice none 0 0) (([] : List Int).flatMap intC) ∧ Below w.heap.size w w'
set_option maxRecDepth 100000 in
set_option maxHeartbeats 8000000 in
theorem latest_in {s : Sta} {sv0 : Value} {nm ky : ByteArray} {M : Nat → Prop} {w : World} (hW : GW.Wf ⟨M, w⟩) (hs : StaG ⟨M, w⟩ sv0 s) (hok : okSt s = true) :
  Calls Tryz.prog 21 #[sv0, .string nm, .string ky] w (LatR M w (lastV (keyIs nm ky) s.vers)) := by
 have hchk : ∀ W, Below w.heap.size w W → Calls Tryz.prog 26 #[sv0] W fun e w' => e = .returned (.int .i64 0) ∧ Below W.heap.size W w' := fun W hb =>
  Calls.mono (check_does (G0 := ⟨M, W⟩) (wf_below hW hb) (hs.mono (GW.le_of_below hb))) fun e w' ⟨v, he, hv, hc⟩ => ⟨by rw [he, hv]; unfold errSt; rw [if_pos hok], hc.below⟩
 have hgd := okSt_good.1 hok
 have hvl := hgd.vlen
 have hsm : ∀ x ∈ s.vers, x.secs.length ≤ 1000000 := fun x hx => Nat.le_trans ((okSt_iff.1 hok).secs_len x hx) (by omega)
 obtain ⟨A1, c1, A2, c2, A3, c3, A4, c4, A5, c5, rfl, hP⟩ := hs.form
 have inst : Inhabited {x : LE // GoodE ⟨M, w⟩ x} := ⟨⟨⟨0, ⟨0, ⟨#[]⟩, ⟨#[]⟩, false, false, 0, 0, 0, [], 0, 0, 0⟩, none, 0⟩, Sq.nil, by decide⟩⟩
 obtain ⟨f, hf⟩ : ∃ f : Nat → {x : LE // GoodE ⟨M, w⟩ x}, ∀ j, j < s.vers.length → s.vers[s.vers.length - 1 - j]? = some (f j).1.v ∧ (f j).1.i = s.vers.length - 1 - j ∧
   ∃ b off, A2 = some ⟨b, off, none⟩ ∧ b < w.heap.size ∧ ∀ n u, (verV (f j).1.v (.slice (f j).1.A (f j).1.v.secs.length (f j).1.c))[n]? = some u → w.cell? ⟨b, off + (s.vers.length - 1 - j) * 12 + n, none⟩ = some u := by
  refine Go.Deep.choose_lt (α := {x : LE // GoodE ⟨M, w⟩ x}) (n := s.vers.length) (p := fun j (x : {x : LE // GoodE ⟨M, w⟩ x}) => s.vers[s.vers.length - 1 - j]? = some x.1.v ∧ x.1.i = s.vers.length - 1 - j ∧
   ∃ b off, A2 = some ⟨b, off, none⟩ ∧ b < w.heap.size ∧ ∀ n u, (verV x.1.v (.slice x.1.A x.1.v.secs.length x.1.c))[n]? = some u → w.cell? ⟨b, off + (s.vers.length - 1 - j) * 12 + n, none⟩ = some u) fun j hj => ?_
  have hjl : s.vers.length - 1 - j < s.vers.length := by omega
  have hjy : s.vers[s.vers.length - 1 - j]? = some s.vers[s.vers.length - 1 - j] := List.getElem?_eq_getElem hjl
  obtain ⟨b, off, cs, rfl, hb, hm, hl, ⟨sv, rfl, hR, _, _⟩, hrg, e⟩ := Sq.at_ hP.vers hjy
  obtain ⟨A9, c9, rfl, _⟩ := Sq.form hR
  exact ⟨⟨⟨_, s.vers[s.vers.length - 1 - j], A9, c9⟩, hR, hsm _ (List.getElem_mem hjl)⟩, hjy, rfl, b, off, rfl, hb, fun n u hu => hrg n u hu⟩
 clear hs
 have Hchk := Lib.hid hchk
 have Hf := Lib.hid hf
 have HP := Lib.hid hP
 have Hsm := Lib.hid hsm
 clear hchk hf hP hsm hok hgd
 refine (callsIn_wide (n := 5)).1 ?_
 refine callsIn_of_wp_marks Tryz.func21 rfl trivial ?_ rfl
 simp only [Tryz.ntmps21, List.size_toArray, List.length_cons, List.length_nil, Nat.reduceAdd, Nat.reduceSub, Array.replicate_succ, Array.replicate_zero, List.push_toArray, List.append_toArray, List.nil_append, List.cons_append]
 have hB0 : Below w.heap.size w ((((((w.alloc (.cells #[.int .i64 s.next, .int .i64 s.clock, .slice A1 s.bkts.length c1, .slice A2 s.vers.length c2, .slice A3 s.upls.length c3, .slice A4 s.queue.length c4, .slice A5 s.gone.length c5] 30)).alloc (.cells #[.string nm] 9)).alloc (.cells #[.string ky] 9)).alloc (.cells #[.int .i64 0, .string ⟨#[]⟩, .string ⟨#[]⟩, .bool false, .bool false, .int .i64 0, .int .i64 0, .int .i64 0, .slice none 0 0, .int .i64 0, .int .i64 0, .int .i64 0] 38)).alloc (.cells #[.bool false] 4)).alloc (.cells #[.int .i64 0] 34)) := by
  repeat (first | exact Below.refl _ _ | refine below_al ?_ _)
 gi_wp2_with (refine ⟨trivial, ?_⟩; gi_at_call 26; refine (callsIn_wide.2 (Hchk.out _ hB0)).mono ?_; rintro e w1 ⟨rfl, hb1⟩; have b3 := Blk.below ((((((Blk.new_at (w := w) (g := w.heap.size) (by simp) 30 #[.int .i64 s.next, .int .i64 s.clock, .slice A1 s.bkts.length c1, .slice A2 s.vers.length c2, .slice A3 s.upls.length c3, .slice A4 s.queue.length c4, .slice A5 s.gone.length c5]).alloc (.cells #[.string nm] 9)).alloc (.cells #[.string ky] 9)).alloc (.cells #[.int .i64 0, .string ⟨#[]⟩, .string ⟨#[]⟩, .bool false, .bool false, .int .i64 0, .int .i64 0, .int .i64 0, .slice none 0 0, .int .i64 0, .int .i64 0, .int .i64 0] 38)).alloc (.cells #[.bool false] 4)).alloc (.cells #[.int .i64 0] 34)) hb1; have b4 := Blk.below (((((Blk.new_at (w := (w.alloc (.cells #[.int .i64 s.next, .int .i64 s.clock, .slice A1 s.bkts.length c1, .slice A2 s.vers.length c2, .slice A3 s.upls.length c3, .slice A4 s.queue.length c4, .slice A5 s.gone.length c5] 30))) (g := w.heap.size + 1) (by simp) 9 #[.string nm]).alloc (.cells #[.string ky] 9)).alloc (.cells #[.int .i64 0, .string ⟨#[]⟩, .string ⟨#[]⟩, .bool false, .bool false, .int .i64 0, .int .i64 0, .int .i64 0, .slice none 0 0, .int .i64 0, .int .i64 0, .int .i64 0] 38)).alloc (.cells #[.bool false] 4)).alloc (.cells #[.int .i64 0] 34)) hb1; have b5 := Blk.below ((((Blk.new_at (w := ((w.alloc (.cells #[.int .i64 s.next, .int .i64 s.clock, .slice A1 s.bkts.length c1, .slice A2 s.vers.length c2, .slice A3 s.upls.length c3, .slice A4 s.queue.length c4, .slice A5 s.gone.length c5] 30)).alloc (.cells #[.string nm] 9))) (g := w.heap.size + 1 + 1) (by simp) 9 #[.string ky]).alloc (.cells #[.int .i64 0, .string ⟨#[]⟩, .string ⟨#[]⟩, .bool false, .bool false, .int .i64 0, .int .i64 0, .int .i64 0, .slice none 0 0, .int .i64 0, .int .i64 0, .int .i64 0] 38)).alloc (.cells #[.bool false] 4)).alloc (.cells #[.int .i64 0] 34)) hb1; have b6 := Blk.below (((Blk.new_at (w := (((w.alloc (.cells #[.int .i64 s.next, .int .i64 s.clock, .slice A1 s.bkts.length c1, .slice A2 s.vers.length c2, .slice A3 s.upls.length c3, .slice A4 s.queue.length c4, .slice A5 s.gone.length c5] 30)).alloc (.cells #[.string nm] 9)).alloc (.cells #[.string ky] 9))) (g := w.heap.size + 1 + 1 + 1) (by simp) 38 #[.int .i64 0, .string ⟨#[]⟩, .string ⟨#[]⟩, .bool false, .bool false, .int .i64 0, .int .i64 0, .int .i64 0, .slice none 0 0, .int .i64 0, .int .i64 0, .int .i64 0]).alloc (.cells #[.bool false] 4)).alloc (.cells #[.int .i64 0] 34)) hb1; have b7 := Blk.below ((Blk.new_at (w := ((((w.alloc (.cells #[.int .i64 s.next, .int .i64 s.clock, .slice A1 s.bkts.length c1, .slice A2 s.vers.length c2, .slice A3 s.upls.length c3, .slice A4 s.queue.length c4, .slice A5 s.gone.length c5] 30)).alloc (.cells #[.string nm] 9)).alloc (.cells #[.string ky] 9)).alloc (.cells #[.int .i64 0, .string ⟨#[]⟩, .string ⟨#[]⟩, .bool false, .bool false, .int .i64 0, .int .i64 0, .int .i64 0, .slice none 0 0, .int .i64 0, .int .i64 0, .int .i64 0] 38))) (g := w.heap.size + 1 + 1 + 1 + 1) (by simp) 4 #[.bool false]).alloc (.cells #[.int .i64 0] 34)) hb1; have b8 := Blk.below (Blk.new_at (w := (((((w.alloc (.cells #[.int .i64 s.next, .int .i64 s.clock, .slice A1 s.bkts.length c1, .slice A2 s.vers.length c2, .slice A3 s.upls.length c3, .slice A4 s.queue.length c4, .slice A5 s.gone.length c5] 30)).alloc (.cells #[.string nm] 9)).alloc (.cells #[.string ky] 9)).alloc (.cells #[.int .i64 0, .string ⟨#[]⟩, .string ⟨#[]⟩, .bool false, .bool false, .int .i64 0, .int .i64 0, .int .i64 0, .slice none 0 0, .int .i64 0, .int .i64 0, .int .i64 0] 38)).alloc (.cells #[.bool false] 4))) (g := w.heap.size + 1 + 1 + 1 + 1 + 1) (by simp) 34 #[.int .i64 0]) hb1; have c30 := b3.cell 0; have c31 := b3.cell 1; have c32 := b3.cell 2; have c33 := b3.cell 3; have c34 := b3.cell 4; have c35 := b3.cell 5; have c36 := b3.cell 6; have hB1 := hB0.trans (hb1.mono hB0.size); have Hb4 := Lib.hid b4; have Hb5 := Lib.hid b5; have Hb6 := Lib.hid b6; have Hb7 := Lib.hid b7; have Hb8 := Lib.hid b8; have HB1 := Lib.hid hB1; clear b3 b4 b5 b6 b7 b8 hB1 hb1)
 refine ⟨trivial, ?_⟩
 refine (back_in Fence.wide 4 trivial rfl _ _ _ _).mono ?_
 rintro e w2 ⟨rfl, rfl⟩
 gi_wp2
 clear c30 c31 c32 c33 c34 c35 c36
 obtain ⟨W0, hW0⟩ : ∃ W0, w1.alloc (.cells #[.slice A2 s.vers.length c2] 25) = W0 := ⟨_, rfl⟩
 have hB01 : Below w1.heap.size w1 W0 := by rw [← hW0]; exact (Below.refl _ _).alloc (Nat.le_refl _) _
 have hz0 : W0.heap.size = w1.heap.size + 1 := by rw [← hW0]; simp
 have hz1 := Hb8.out.lt
 have b4 := Hb4.out.below hB01
 have b5 := Hb5.out.below hB01
 have b6 := Hb6.out.below hB01
 have b7 := Hb7.out.below hB01
 have b8 := Hb8.out.below hB01
 have bS : Blk W0 w1.heap.size 25 #[.slice A2 s.vers.length c2] := by rw [← hW0]; exact Blk.new _ _ _
 have hBw : Below w.heap.size w W0 := HB1.out.trans (hB01.mono (by omega))
 rw [hW0]
 clear hW0 Hb4 Hb5 Hb6 Hb7 Hb8 HB1 hB0 hB01 Hchk
 generalize Value.agg #[.int .i64 s.next, .int .i64 s.clock, .slice A1 s.bkts.length c1, .slice A2 s.vers.length c2, .slice A3 s.upls.length c3, .slice A4 s.queue.length c4, .slice A5 s.gone.length c5] = X1
 have hI0 : 0 < s.vers.length → ∃ b off, A2 = some ⟨b, off, none⟩ ∧ b < W0.heap.size ∧ BackR W0 b off s.vers.length f := by
  intro h0
  obtain ⟨_, _, b, off, hA, hb, _⟩ := Hf.out 0 h0
  refine ⟨b, off, hA, by omega, fun j hj => ?_⟩
  obtain ⟨q1, q2, b', off', hA', _, q5⟩ := Hf.out j hj
  rw [hA] at hA'
  cases hA'
  exact ⟨q2, fun n u hu => (hBw.cell (p := ⟨b, off + (s.vers.length - 1 - j) * 12 + n, none⟩) hb).trans (q5 n u hu)⟩
 refine wpIn_rangeFunc_ownH rfl (by omega) (gf := 92) (lb := #[.pointer (some ⟨w1.heap.size, 0, none⟩)]) rfl trivial (enters_of Tryz.func92 (by kernel_rfl) rfl)
  (back_stops (p := GoodE ⟨M, w⟩) Fence.wide 4 trivial rfl (by omega) w1.heap.size W0.heap.size s.vers.length c2 A2 f (by omega) W0 (by omega) (by omega) (Nat.le_refl _) (bS.cell 0) hI0) belowK_t (belowK_b (Nat.le_refl _)) (Below.refl _ _) (fun _ => rfl)
  (fun pre W => ((∀ x ∈ pre, keyIs nm ky x.1.v = false) ∧ W0.heap.size ≤ W.heap.size ∧ Blk W (w.heap.size + 1) 9 #[.string nm] ∧ Blk W (w.heap.size + 1 + 1) 9 #[.string ky] ∧ Blk W (w.heap.size + 1 + 1 + 1) 38 #[.int .i64 0, .string ⟨#[]⟩, .string ⟨#[]⟩, .bool false, .bool false, .int .i64 0, .int .i64 0, .int .i64 0, .slice none 0 0, .int .i64 0, .int .i64 0, .int .i64 0] ∧ Blk W (w.heap.size + 1 + 1 + 1 + 1) 4 #[.bool false] ∧ Blk W (w.heap.size + 1 + 1 + 1 + 1 + 1) 34 #[.int .i64 0]) ∧ Below w.heap.size w W)
  (fun c pre W => (c = .ret ∧ ∃ ini last A' c', pre = ini ++ [last] ∧ (∀ x ∈ ini, keyIs nm ky x.1.v = false) ∧ keyIs nm ky last.1.v = true ∧ Blk W (w.heap.size + 1 + 1 + 1) 38 (verV last.1.v (.slice A' last.1.v.secs.length c')).toArray ∧ Blk W (w.heap.size + 1 + 1 + 1 + 1) 4 #[.bool true] ∧ Blk W (w.heap.size + 1 + 1 + 1 + 1 + 1) 34 #[.int .i64 0] ∧ Sl ⟨M, W⟩ 3 1 last.1.v.secs.length (.slice A' last.1.v.secs.length c') (last.1.v.secs.flatMap intC)) ∧ Below w.heap.size w W)
  (OwnFrom.and (Own.from (fun s A B row hs hg hr => have q := keepX_own hg hr; ⟨hs.1, Nat.le_trans hs.2.1 hg.size, hs.2.2.1.keep q rfl, hs.2.2.2.1.keep q rfl, hs.2.2.2.2.1.keep q rfl, hs.2.2.2.2.2.1.keep q rfl, hs.2.2.2.2.2.2.keep q rfl⟩) _) (ownFrom_below (Nat.le_refl _) (by omega)))
  (fun c => OwnFrom.and (Own.from (fun s A B row hs hg hr => have q := keepX_own hg hr; by
   obtain ⟨hc, ini, last, A', c', e1, e2, e3, e6, e7, e8, e9⟩ := hs
   exact ⟨hc, ini, last, A', c', e1, e2, e3, e6.keep q rfl, e7.keep q rfl, e8.keep q rfl, e9.keepX q⟩) _) (ownFrom_below (Nat.le_refl _) (by omega)))
  ⟨⟨by simp, Nat.le_refl _, b4, b5, b6, b7, b8⟩, hBw⟩
  (fun x a' W => ∃ Bx, W0.heap.size ≤ Bx ∧ Blk W Bx 38 (verV x.1.v (.slice x.1.A x.1.v.secs.length x.1.c)).toArray ∧ a' = { tmps := #[X1, .string nm, .string ky, .pointer (some ⟨w.heap.size, 0, none⟩), .pointer (some ⟨w.heap.size + 1, 0, none⟩), .pointer (some ⟨w.heap.size + 1 + 1, 0, none⟩), .pointer (some ⟨w.heap.size + 1 + 1 + 1, 0, none⟩), .pointer (some ⟨w.heap.size + 1 + 1 + 1 + 1, 0, none⟩), .pointer (some ⟨w.heap.size + 1 + 1 + 1 + 1 + 1, 0, none⟩), .int .i64 0, undef, .pointer (some ⟨Bx, 0, none⟩), X1, .int .i64 0, .int .i64 0, .bool false, undef, undef, .pointer (some ⟨w.heap.size, 3, none⟩), .slice A2 s.vers.length c2, .func (.func 92) #[] #[.pointer (some ⟨w1.heap.size, 0, none⟩)], .int .i64 (x.1.i : Int), .agg (verV x.1.v (.slice x.1.A x.1.v.secs.length x.1.c)).toArray, undef, undef, undef, undef, undef, undef, undef, undef, undef, undef, undef, undef, undef, undef, undef, undef], defers := [] })
  (fun x a' _ X Y row hs hg hr => by obtain ⟨Bx, h1, h2, h3⟩ := hs; exact ⟨Bx, h1, h2.keep (keepX_own hg (fun r e => (hr r e).2)) rfl, h3⟩)
  ?assign ?body ?done ?stop
 case assign =>
  rintro l pre x W K ⟨⟨hp, hsz, d4, d5, d6, d7, d8⟩, hB⟩ hK
  unfold LE.enc verV
  gi_wp2
  exact hK _ _ ((KeepsOthers.alloc _ _).from _) ((Below.refl _ W).alloc hsz _) ⟨⟨hp, by simp; omega, d4.alloc _, d5.alloc _, d6.alloc _, d7.alloc _, d8.alloc _⟩, hB.alloc hB.size _⟩ ⟨W.heap.size, hsz, Blk.new W _ _, rfl⟩
 case body =>
  rintro l pre x a' W hl ⟨r, hr⟩ ⟨⟨hp, hsz, d4, d5, d6, d7, d8⟩, hB⟩ ⟨Bx, hBx, bX, rfl⟩ hlt
  obtain ⟨e1, e2⟩ := x.2
  have hcl := clone_any (G0 := ⟨M, W⟩) (wf_below hW hB) (e1.mono (GW.le_of_below hB)) e2
  have x1 := bX.cell 1
  have x2 := bX.cell 2
  have x8 := bX.cell 8
  have y4 := d4.cell 0
  have y5 := d5.cell 0
  unfold verV at x1 x2 x8
  simp only [List.getElem?_toArray, List.getElem?_cons_succ, List.getElem?_cons_zero] at x1 x2 x8
  by_cases hxb : x.1.v.bucket = nm
  ·by_cases hxk : x.1.v.key = ky
   ·have Hcl := Lib.hid hcl
    clear hcl
    have qb : (x.1.v.bucket.toList == nm.toList) = true := by rw [hxb]; simp
    have qk : (x.1.v.key.toList == ky.toList) = true := by rw [hxk]; simp
    gi_wp2_with (refine ⟨trivial, ?_⟩; gi_at_call 64; refine (CallsIn.inRound l (callsIn_wide.2 Hcl.out)).mono ?_; rintro e W2 ⟨A', c', rfl, hb2, ho⟩; have f6 := d6.below hb2; have f7 := d7.below hb2; have f8 := d8.below hb2; have fX := bX.below hb2; have u0 := f6.cell 0; have z0 := f6.frozen 0; have v0 := fX.cell 0; have u1 := f6.cell 1; have z1 := f6.frozen 1; have v1 := fX.cell 1; have u2 := f6.cell 2; have z2 := f6.frozen 2; have v2 := fX.cell 2; have u3 := f6.cell 3; have z3 := f6.frozen 3; have v3 := fX.cell 3; have u4 := f6.cell 4; have z4 := f6.frozen 4; have v4 := fX.cell 4; have u5 := f6.cell 5; have z5 := f6.frozen 5; have v5 := fX.cell 5; have u6 := f6.cell 6; have z6 := f6.frozen 6; have v6 := fX.cell 6; have u7 := f6.cell 7; have z7 := f6.frozen 7; have v7 := fX.cell 7; have u8 := f6.cell 8; have z8 := f6.frozen 8; have v8 := fX.cell 8; have u9 := f6.cell 9; have z9 := f6.frozen 9; have v9 := fX.cell 9; have u10 := f6.cell 10; have z10 := f6.frozen 10; have v10 := fX.cell 10; have u11 := f6.cell 11; have z11 := f6.frozen 11; have v11 := fX.cell 11; have zx := fX.frozen 8; have y7 := f7.cell 0; have z7 := f7.frozen 0; have y8 := f8.cell 0; have z8 := f8.frozen 0; unfold verV at v0 v1 v2 v3 v4 v5 v6 v7 v8 v9 v10 v11; simp only [List.getElem?_toArray, List.getElem?_cons_succ, List.getElem?_cons_zero] at v0 v1 v2 v3 v4 v5 v6 v7 v8 v9 v10 v11; have Ho := Lib.hid ho; have Hb2 := Lib.hid hb2; clear ho hb2)
    have ho := Ho.out
    have hb2 := Hb2.out
    have hBs := hB.size
    have n6 : w.heap.size + 1 + 1 + 1 ≠ Bx := by omega
    have n7 : w.heap.size + 1 + 1 + 1 + 1 ≠ Bx := by omega
    have n8 : w.heap.size + 1 + 1 + 1 + 1 + 1 ≠ Bx := by omega
    have hw6 : w.heap.size ≤ w.heap.size + 1 + 1 + 1 := by omega
    refine ⟨?_, ⟨rfl, pre, x, A', c', rfl, hp, by unfold keyIs; rw [decide_eq_true hxb, decide_eq_true hxk]; rfl, ?_, ?_, ?_, ?_⟩, ?_⟩
    ·refine KeepsFrom.trans ?_ ((KeepsOthers.setCell _ _ _).from _)
     refine KeepsFrom.trans ?_ ((KeepsOthers.setCell _ _ _).from _)
     refine KeepsFrom.trans ?_ ((KeepsOthers.setCell _ _ _).from _)
     refine KeepsFrom.trans ?_ ((KeepsOthers.setCell _ _ _).from _)
     refine KeepsFrom.trans ?_ ((KeepsOthers.setCell _ _ _).from _)
     refine KeepsFrom.trans ?_ ((KeepsOthers.setCell _ _ _).from _)
     refine KeepsFrom.trans ?_ ((KeepsOthers.setCell _ _ _).from _)
     refine KeepsFrom.trans ?_ ((KeepsOthers.setCell _ _ _).from _)
     refine KeepsFrom.trans ?_ ((KeepsOthers.setCell _ _ _).from _)
     refine KeepsFrom.trans ?_ ((KeepsOthers.setCell _ _ _).from _)
     refine KeepsFrom.trans ?_ ((KeepsOthers.setCell _ _ _).from _)
     refine KeepsFrom.trans ?_ ((KeepsOthers.setCell _ _ _).from _)
     refine KeepsFrom.trans ?_ ((KeepsOthers.setCell _ _ _).from _)
     refine KeepsFrom.trans ?_ ((KeepsOthers.setCell _ _ _).from _)
     refine KeepsFrom.trans ?_ ((KeepsOthers.setCell _ _ _).from _)
     exact ⟨hb2.size, fun i o _ hi _ => (hb2.block i (Array.getElem?_eq_some_iff.1 hi).1).trans hi⟩
    ·have h1 := Blk.far (Blk.far (Blk.set12 (d0 := .int .i64 x.1.v.id) (d1 := .string nm) (d2 := .string ky) (d3 := .bool x.1.v.null) (d4 := .bool x.1.v.marker) (d5 := .int .i64 x.1.v.size) (d6 := .int .i64 x.1.v.time) (d7 := .int .i64 x.1.v.tier) (d8 := (.slice A' x.1.v.secs.length c')) (d9 := .int .i64 x.1.v.vol) (d10 := .int .i64 x.1.v.at_) (d11 := .int .i64 x.1.v.till) (f6.far (p := ⟨Bx, 8, none⟩) n6 (.slice A' x.1.v.secs.length c'))) (p := ⟨w.heap.size + 1 + 1 + 1 + 1, 0, none⟩) (by simp) (.bool true)) (p := ⟨w.heap.size + 1 + 1 + 1 + 1 + 1, 0, none⟩) (by simp) (.int .i64 0)
     unfold verV
     rw [hxb, hxk]
     exact h1
    ·exact Blk.far (Blk.set1 (Blk.far (Blk.far (Blk.far (Blk.far (Blk.far (Blk.far (Blk.far (Blk.far (Blk.far (Blk.far (Blk.far (Blk.far (f7.far (p := ⟨Bx, 8, none⟩) n7 _) (by simp <;> omega) _) (by simp <;> omega) _) (by simp <;> omega) _) (by simp <;> omega) _) (by simp <;> omega) _) (by simp <;> omega) _) (by simp <;> omega) _) (by simp <;> omega) _) (by simp <;> omega) _) (by simp <;> omega) _) (by simp <;> omega) _) (by simp <;> omega) _)) (by simp) _
    ·exact Blk.set1 (Blk.far (Blk.far (Blk.far (Blk.far (Blk.far (Blk.far (Blk.far (Blk.far (Blk.far (Blk.far (Blk.far (Blk.far (Blk.far (f8.far (p := ⟨Bx, 8, none⟩) n8 _) (by simp <;> omega) _) (by simp <;> omega) _) (by simp <;> omega) _) (by simp <;> omega) _) (by simp <;> omega) _) (by simp <;> omega) _) (by simp <;> omega) _) (by simp <;> omega) _) (by simp <;> omega) _) (by simp <;> omega) _) (by simp <;> omega) _) (by simp <;> omega) _) (by simp) _)
    ·refine Sl.set 34 (by decide) (TyB.set (TyB.set (TyB.set (TyB.set (TyB.set (TyB.set (TyB.set (TyB.set (TyB.set (TyB.set (TyB.set (TyB.set (TyB.set (TyB.set f8.ty _ _) _ _) _ _) _ _) _ _) _ _) _ _) _ _) _ _) _ _) _ _) _ _) _ _) _ _) ?_
     refine Sl.set 4 (by decide) (TyB.set (TyB.set (TyB.set (TyB.set (TyB.set (TyB.set (TyB.set (TyB.set (TyB.set (TyB.set (TyB.set (TyB.set (TyB.set f7.ty _ _) _ _) _ _) _ _) _ _) _ _) _ _) _ _) _ _) _ _) _ _) _ _) _ _) ?_
     refine Sl.set 38 (by decide) (TyB.set (TyB.set (TyB.set (TyB.set (TyB.set (TyB.set (TyB.set (TyB.set (TyB.set (TyB.set (TyB.set (TyB.set f6.ty _ _) _ _) _ _) _ _) _ _) _ _) _ _) _ _) _ _) _ _) _ _) _ _) ?_
     refine Sl.set 38 (by decide) (TyB.set (TyB.set (TyB.set (TyB.set (TyB.set (TyB.set (TyB.set (TyB.set (TyB.set (TyB.set (TyB.set f6.ty _ _) _ _) _ _) _ _) _ _) _ _) _ _) _ _) _ _) _ _) _ _) ?_
     refine Sl.set 38 (by decide) (TyB.set (TyB.set (TyB.set (TyB.set (TyB.set (TyB.set (TyB.set (TyB.set (TyB.set (TyB.set f6.ty _ _) _ _) _ _) _ _) _ _) _ _) _ _) _ _) _ _) _ _) ?_
     refine Sl.set 38 (by decide) (TyB.set (TyB.set (TyB.set (TyB.set (TyB.set (TyB.set (TyB.set (TyB.set (TyB.set f6.ty _ _) _ _) _ _) _ _) _ _) _ _) _ _) _ _) _ _) ?_
     refine Sl.set 38 (by decide) (TyB.set (TyB.set (TyB.set (TyB.set (TyB.set (TyB.set (TyB.set (TyB.set f6.ty _ _) _ _) _ _) _ _) _ _) _ _) _ _) _ _) ?_
     refine Sl.set 38 (by decide) (TyB.set (TyB.set (TyB.set (TyB.set (TyB.set (TyB.set (TyB.set f6.ty _ _) _ _) _ _) _ _) _ _) _ _) _ _) ?_
     refine Sl.set 38 (by decide) (TyB.set (TyB.set (TyB.set (TyB.set (TyB.set (TyB.set f6.ty _ _) _ _) _ _) _ _) _ _) _ _) ?_
     refine Sl.set 38 (by decide) (TyB.set (TyB.set (TyB.set (TyB.set (TyB.set f6.ty _ _) _ _) _ _) _ _) _ _) ?_
     refine Sl.set 38 (by decide) (TyB.set (TyB.set (TyB.set (TyB.set f6.ty _ _) _ _) _ _) _ _) ?_
     refine Sl.set 38 (by decide) (TyB.set (TyB.set (TyB.set f6.ty _ _) _ _) _ _) ?_
     refine Sl.set 38 (by decide) (TyB.set (TyB.set f6.ty _ _) _ _) ?_
     refine Sl.set 38 (by decide) (TyB.set f6.ty _ _) ?_
     refine Sl.set 38 (by decide) fX.ty ?_
     exact ints_sl ho
    ·refine Below.setCell ?_ (by dsimp only; omega) _
     refine Below.setCell ?_ (by dsimp only; omega) _
     refine Below.setCell ?_ (by dsimp only; omega) _
     refine Below.setCell ?_ (by dsimp only; omega) _
     refine Below.setCell ?_ (by dsimp only; omega) _
     refine Below.setCell ?_ (by dsimp only; omega) _
     refine Below.setCell ?_ (by dsimp only; omega) _
     refine Below.setCell ?_ (by dsimp only; omega) _
     refine Below.setCell ?_ (by dsimp only; omega) _
     refine Below.setCell ?_ (by dsimp only; omega) _
     refine Below.setCell ?_ (by dsimp only; omega) _
     refine Below.setCell ?_ (by dsimp only; omega) _
     refine Below.setCell ?_ (by dsimp only; omega) _
     refine Below.setCell ?_ (by dsimp only; omega) _
     refine Below.setCell ?_ (by dsimp only; omega) _
     exact hB.trans (hb2.mono hBs)
   ·clear hcl
    have qb : (x.1.v.bucket.toList == nm.toList) = true := by rw [hxb]; simp
    have qk : (x.1.v.key.toList == ky.toList) = false := by
     rw [beq_eq_false_iff_ne]
     intro h
     exact hxk (by rw [ByteArray.toList_eq, ByteArray.toList_eq] at h; cases hA : x.1.v.key; cases hB2 : ky; rw [hA, hB2] at h; congr 1; exact Array.toList_inj.1 h)
    gi_wp2
    exact ⟨KeepsFrom.refl _ _, Below.refl _ _, ⟨fun y hy => (List.mem_append.1 hy).elim (hp y) (fun e => by simp at e; subst e; unfold keyIs; rw [decide_eq_false hxk]; simp), hsz, d4, d5, d6, d7, d8⟩, hB⟩
  ·clear hcl
   have qb : (x.1.v.bucket.toList == nm.toList) = false := by
    rw [beq_eq_false_iff_ne]
    intro h
    exact hxb (by rw [ByteArray.toList_eq, ByteArray.toList_eq] at h; cases hA : x.1.v.bucket; cases hB2 : nm; rw [hA, hB2] at h; congr 1; exact Array.toList_inj.1 h)
   gi_wp2
   exact ⟨KeepsFrom.refl _ _, Below.refl _ _, ⟨fun y hy => (List.mem_append.1 hy).elim (hp y) (fun e => by simp at e; subst e; unfold keyIs; rw [decide_eq_false hxb]; simp), hsz, d4, d5, d6, d7, d8⟩, hB⟩
 case done =>
  rintro D ys W hD rfl ⟨⟨hp, hsz, d4, d5, d6, d7, d8⟩, hB⟩ hK
  have hlv : lastV (keyIs nm ky) s.vers = none := lastV_none fun y hy => by
   obtain ⟨m, hm⟩ := List.mem_iff_getElem?.1 hy
   have hml := (List.getElem?_eq_some_iff.1 hm).1
   obtain ⟨q1, _⟩ := Hf.out (s.vers.length - 1 - m) (by omega)
   rw [show s.vers.length - 1 - (s.vers.length - 1 - m) = m by omega, hm] at q1
   cases q1
   exact hp _ (by simp only [upto, List.mem_map, List.mem_range]; exact ⟨_, by omega, rfl⟩)
  have u0 := d6.cell 0; have z0 := d6.frozen 0; have u1 := d6.cell 1; have z1 := d6.frozen 1; have u2 := d6.cell 2; have z2 := d6.frozen 2; have u3 := d6.cell 3; have z3 := d6.frozen 3; have u4 := d6.cell 4; have z4 := d6.frozen 4; have u5 := d6.cell 5; have z5 := d6.frozen 5; have u6 := d6.cell 6; have z6 := d6.frozen 6; have u7 := d6.cell 7; have z7 := d6.frozen 7; have u8 := d6.cell 8; have z8 := d6.frozen 8; have u9 := d6.cell 9; have z9 := d6.frozen 9; have u10 := d6.cell 10; have z10 := d6.frozen 10; have u11 := d6.cell 11; have z11 := d6.frozen 11; have y7 := d7.cell 0; have z7 := d7.frozen 0; have y8 := d8.cell 0; have z8 := d8.frozen 0
  have HK := Lib.hid hK
  clear hK
  gi_wp2
  have hK := HK.out
  rw [hlv]
  have n68 : w.heap.size + 1 + 1 + 1 < D := by omega
  have hK' : ∀ (V : World), V.heap[D]? = some (.deferred (some [])) → ∀ (p : Addr) (u : Value), p.block ≠ D → (V.setCell p u).heap[D]? = some (.deferred (some [])) := fun V h p u hp => (Below.heap_setCell V p u D (fun e => hp e.symm)).trans h
  refine latest_end (l := []) (sv := .slice none 0 0) (b6 := w.heap.size + 1 + 1 + 1) (b7 := w.heap.size + 1 + 1 + 1 + 1) (b8 := w.heap.size + 1 + 1 + 1 + 1 + 1) ?_ (Blk.far (Blk.far (Blk.set12 d6) (by simp) _) (by simp) _) (Blk.far (Blk.set1 (Blk.far (Blk.far (Blk.far (Blk.far (Blk.far (Blk.far (Blk.far (Blk.far (Blk.far (Blk.far (Blk.far (Blk.far d7 (by simp <;> omega) _) (by simp <;> omega) _) (by simp <;> omega) _) (by simp <;> omega) _) (by simp <;> omega) _) (by simp <;> omega) _) (by simp <;> omega) _) (by simp <;> omega) _) (by simp <;> omega) _) (by simp <;> omega) _) (by simp <;> omega) _) (by simp <;> omega) _)) (by simp) _) (Blk.set1 (Blk.far (Blk.far (Blk.far (Blk.far (Blk.far (Blk.far (Blk.far (Blk.far (Blk.far (Blk.far (Blk.far (Blk.far (Blk.far d8 (by simp <;> omega) _) (by simp <;> omega) _) (by simp <;> omega) _) (by simp <;> omega) _) (by simp <;> omega) _) (by simp <;> omega) _) (by simp <;> omega) _) (by simp <;> omega) _) (by simp <;> omega) _) (by simp <;> omega) _) (by simp <;> omega) _) (by simp <;> omega) _) (by simp) _)) ⟨_, _, _, _, _, _, _, _, _, _, _, _, rfl⟩ (Sl.nil _ _ _) ?_ (by omega) rfl rfl rfl rfl (fun w' h1 h2 => ⟨rfl, h1, h2⟩)
  ·refine hK' _ ?_ _ _ (by dsimp only; omega)
   refine hK' _ ?_ _ _ (by dsimp only; omega)
   refine hK' _ ?_ _ _ (by dsimp only; omega)
   refine hK' _ ?_ _ _ (by dsimp only; omega)
   refine hK' _ ?_ _ _ (by dsimp only; omega)
   refine hK' _ ?_ _ _ (by dsimp only; omega)
   refine hK' _ ?_ _ _ (by dsimp only; omega)
   refine hK' _ ?_ _ _ (by dsimp only; omega)
   refine hK' _ ?_ _ _ (by dsimp only; omega)
   refine hK' _ ?_ _ _ (by dsimp only; omega)
   refine hK' _ ?_ _ _ (by dsimp only; omega)
   refine hK' _ ?_ _ _ (by dsimp only; omega)
   refine hK' _ ?_ _ _ (by dsimp only; omega)
   refine hK' _ ?_ _ _ (by dsimp only; omega)
   exact hK
  ·refine Below.setCell ?_ (by dsimp only; omega) _
   refine Below.setCell ?_ (by dsimp only; omega) _
   refine Below.setCell ?_ (by dsimp only; omega) _
   refine Below.setCell ?_ (by dsimp only; omega) _
   refine Below.setCell ?_ (by dsimp only; omega) _
   refine Below.setCell ?_ (by dsimp only; omega) _
   refine Below.setCell ?_ (by dsimp only; omega) _
   refine Below.setCell ?_ (by dsimp only; omega) _
   refine Below.setCell ?_ (by dsimp only; omega) _
   refine Below.setCell ?_ (by dsimp only; omega) _
   refine Below.setCell ?_ (by dsimp only; omega) _
   refine Below.setCell ?_ (by dsimp only; omega) _
   refine Below.setCell ?_ (by dsimp only; omega) _
   refine Below.setCell ?_ (by dsimp only; omega) _
   exact hB
 case stop =>
  rintro D c pre W hD ⟨k', hk', rfl⟩ ⟨⟨rfl, ini, last, A', c', e1, e2, e3, u6, u7, u8, ho⟩, hB⟩ hK
  gi_wp2
  have hBs := hB.size
  obtain ⟨j, rfl⟩ : ∃ j, k' = j + 1 := by
   cases k' with
   | zero => simp [upto] at e1
   | succ j => exact ⟨j, rfl⟩
  rw [upto_succ] at e1
  obtain ⟨rfl, el⟩ := List.append_inj' e1 rfl
  obtain rfl : f j = last := by simpa using el
  obtain ⟨q1, q2, _⟩ := Hf.out j (by omega)
  have hlv : lastV (keyIs nm ky) s.vers = some (f j).1.v := lastV_stop q1 e3 fun m y hm hy => by
   have hml := (List.getElem?_eq_some_iff.1 hy).1
   obtain ⟨r1, _⟩ := Hf.out (s.vers.length - 1 - m) (by omega)
   rw [show s.vers.length - 1 - (s.vers.length - 1 - m) = m by omega, hy] at r1
   cases r1
   exact e2 _ (by simp only [upto, List.mem_map, List.mem_range]; exact ⟨_, by omega, rfl⟩)
  rw [hlv]
  exact latest_end (l := (f j).1.v.secs) hK u6 u7 u8 ⟨_, _, _, _, _, _, _, _, _, _, _, _, rfl⟩ ho hB (by omega) rfl rfl rfl rfl (fun w' h1 h2 => ⟨_, rfl, h1, h2⟩)
def LatG (G : GW) (v : Value) : Option Ver → Prop
 | some x => ∃ sv, v = .tuple #[.agg (verV x sv).toArray, .bool true, .int .i64 0] ∧ IntsG G sv x.secs
 | none => v = .tuple #[.agg #[.int .i64 0, .string ⟨#[]⟩, .string ⟨#[]⟩, .bool false, .bool false, .int .i64 0, .int .i64 0, .int .i64 0, .slice none 0 0, .int .i64 0, .int .i64 0, .int .i64 0], .bool false, .int .i64 0]
theorem latest_does {s : Sta} {sv : Value} {nm ky : ByteArray} {G0 : GW} (hW : G0.Wf) (hs : StaG G0 sv s) (hok : okSt s = true) :
  Calls Tryz.prog 21 #[sv, .string nm, .string ky] G0.w (Ret G0 fun v G => LatG G v (lastV (keyIs nm ky) s.vers)) := by
 refine ret_of (latest_in (M := G0.M) hW hs hok) fun e w' h => ?_
 cases hl : lastV (keyIs nm ky) s.vers with
 | some x =>
  rw [hl] at h
  obtain ⟨sv, he, h1, h2⟩ := h
  exact ⟨_, he, ⟨sv, rfl, ints_of h1⟩, h2⟩
 | none =>
  rw [hl] at h
  exact ⟨_, h.1, rfl, h.2.2⟩
end Go.Proofs.YtohdfcnjcpjdcaaGreat
