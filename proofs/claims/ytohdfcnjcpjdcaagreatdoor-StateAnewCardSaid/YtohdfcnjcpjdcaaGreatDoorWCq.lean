/- What is read without a fault is what is written of it: in plain words. Conditions: as each law states them. -/
import Derived.Test.YtohdfcnjcpjdcaaGreatDoorWBq
import Derived.Test.YtohdfcnjcpjdcaaGreatDoorLAq
namespace Go.Proofs.YtohdfcnjcpjdcaaGreatDoor
open Go.RowKit
set_option linter.unusedSimpArgs false
/-- what a reader reads without a fault, a writer writes again -/
def Fix {α : Type} (rd : RS → α × RS) (wr : α → List UInt8) : Prop := ∀ s, (rd s).2.f = 0 → s.f = 0 ∧ s.l = wr (rd s).1 ++ (rd s).2.l
end Go.Proofs.YtohdfcnjcpjdcaaGreatDoor
/- What is written is read again; torn, it is a fault 5: in plain words. Conditions: as each law states them. -/
namespace Go.Proofs.YtohdfcnjcpjdcaaGreatDoor
/-- what a writer writes a reader reads; of what is torn it tells the fault 5; a fault stays -/
structure RW {α : Type} (rd : RS → α × RS) (wr : α → List UInt8) (ok : α → Prop) : Prop where
 get : ∀ x r, ok x → rd ⟨wr x ++ r, 0⟩ = (x, ⟨r, 0⟩)
 torn : ∀ x n, ok x → n < (wr x).length → (rd ⟨(wr x).take n, 0⟩).2 = ⟨[], 5⟩
 dead : ∀ f, f ≠ 0 → (rd ⟨[], f⟩).2 = ⟨[], f⟩
theorem tk_get {k : Nat} {x : Int} (hv : valB (numB x k) = x) (r : List UInt8) (f : Int) : tk k ⟨numB x k ++ r, f⟩ = (x, ⟨r, f⟩) := by
 unfold tk
 have h1 : ¬ (numB x k ++ r).length < k := by rw [List.length_append, numB_len]; omega
 rw [if_neg h1]
 have e1 : (numB x k ++ r).take k = numB x k := by
  have := List.take_left (l₁ := numB x k) (l₂ := r)
  rw [numB_len] at this
  exact this
 have e2 : (numB x k ++ r).drop k = r := by
  have := List.drop_left (l₁ := numB x k) (l₂ := r)
  rw [numB_len] at this
  exact this
 show (valB ((numB x k ++ r).take k), (⟨(numB x k ++ r).drop k, f⟩ : RS)) = _
 rw [e1, e2, hv]
theorem tk_short {k : Nat} {l : List UInt8} (h : l.length < k) (f : Int) : tk k ⟨l, f⟩ = (0, ⟨[], if f = 0 then 5 else f⟩) := by
 unfold tk
 rw [if_pos h]
theorem valB_3 (n : Int) (h0 : 0 ≤ n) (h1 : n < 16777216) : valB (numB n 3) = n := by
 simp only [numB, valB, valFrom, byteOf_val]
 omega
theorem rw_tk (k : Nat) (M : Int) (hk : 1 ≤ k) (hv : ∀ n, 0 ≤ n → n < M → valB (numB n k) = n) : RW (tk k) (fun n => numB n k) (fun n => 0 ≤ n ∧ n < M) :=
 ⟨fun x r h => tk_get (hv x h.1 h.2) r 0, fun x n _ hn => by
  rw [numB_len] at hn
  rw [tk_short (by rw [List.length_take, numB_len]; omega)]
  rfl, fun f hf => by rw [tk_short (by show 0 < k; omega), if_neg hf]⟩
theorem rw_tx : RW tx txB (fun t => t.size < 256) := by
 have hv : ∀ t : ByteArray, t.size < 256 → valB (numB (t.size : Int) 1) = (t.size : Int) := fun t h => valB_1 _ (by omega) (by omega)
 have hl : ∀ t : ByteArray, t.data.toList.length = t.size := fun t => by rw [Array.length_toList]; rfl
 refine ⟨fun t r h => ?_, fun t n h hn => ?_, fun f hf => ?_⟩
 ·unfold tx txB
  rw [List.append_assoc, tk_get (hv t h)]
  dsimp only
  have hlen : ¬ (((t.data.toList ++ r).length : Nat) : Int) < (t.size : Int) := by rw [List.length_append, hl]; omega
  rw [if_neg hlen]
  have e1 : (t.data.toList ++ r).take (t.size : Int).toNat = t.data.toList := by
   rw [Int.toNat_natCast, ← hl t]
   exact List.take_left
  have e2 : (t.data.toList ++ r).drop (t.size : Int).toNat = r := by
   rw [Int.toNat_natCast, ← hl t]
   exact List.drop_left
  rw [e1, e2]
 ·rw [txB_len] at hn
  unfold tx txB
  cases n with
  | zero =>
   rw [List.take_zero, tk_short (by show 0 < 1; omega)]
   simp
  | succ n =>
   have e : (numB (t.size : Int) 1 ++ t.data.toList).take (n + 1) = numB (t.size : Int) 1 ++ t.data.toList.take n := by
    rw [List.take_append, List.take_of_length_le (by rw [numB_len]; omega), numB_len]
    rfl
   rw [e, tk_get (hv t h)]
   dsimp only
   have hlt : (((t.data.toList.take n).length : Nat) : Int) < (t.size : Int) := by rw [List.length_take, hl]; omega
   rw [if_pos hlt]
   rw [tk_short (by rw [Int.toNat_natCast]; omega)]
   rfl
 ·unfold tx
  rw [tk_short (by show 0 < 1; omega), if_neg hf]
  simp
theorem rw_bt : RW bt btB (fun _ => True) := by
 refine ⟨fun b r _ => ?_, fun b n _ hn => ?_, fun f hf => ?_⟩
 ·unfold bt btB
  cases b with
  | false => rw [show (if false = true then (1 : Int) else 0) = 0 from rfl, tk_get (valB_1 0 (by omega) (by omega))]; rfl
  | true => rw [show (if true = true then (1 : Int) else 0) = 1 from rfl, tk_get (valB_1 1 (by omega) (by omega))]; rfl
 ·rw [btB_len] at hn
  obtain rfl : n = 0 := by omega
  unfold bt
  rw [List.take_zero, tk_short (by show 0 < 1; omega)]
  rfl
 ·unfold bt
  rw [tk_short (by show 0 < 1; omega), if_neg hf]
  rfl
/-- one behind the other -/
def sq2 {α β : Type} (r1 : RS → α × RS) (r2 : RS → β × RS) (s : RS) : (α × β) × RS := (((r1 s).1, (r2 (r1 s).2).1), (r2 (r1 s).2).2)
theorem RW.seq {α β : Type} {r1 : RS → α × RS} {r2 : RS → β × RS} {w1 : α → List UInt8} {w2 : β → List UInt8} {o1 : α → Prop} {o2 : β → Prop} (h1 : RW r1 w1 o1) (h2 : RW r2 w2 o2) :
  RW (sq2 r1 r2) (fun p => w1 p.1 ++ w2 p.2) (fun p => o1 p.1 ∧ o2 p.2) := by
 refine ⟨fun x r h => ?_, fun x n h hn => ?_, fun f hf => ?_⟩
 ·unfold sq2
  rw [List.append_assoc, h1.get _ _ h.1]
  dsimp only
  rw [h2.get _ _ h.2]
 ·unfold sq2
  dsimp only at hn ⊢
  rw [List.length_append] at hn
  by_cases hl : n < (w1 x.1).length
  ·rw [List.take_append_of_le_length (by omega), h1.torn _ _ h.1 hl]
   exact h2.dead 5 (by decide)
  ·have e : (w1 x.1 ++ w2 x.2).take n = w1 x.1 ++ (w2 x.2).take (n - (w1 x.1).length) := by
    rw [List.take_append, List.take_of_length_le (by omega)]
   rw [e, h1.get _ _ h.1]
   exact h2.torn _ _ h.2 (by omega)
 ·unfold sq2
  dsimp only
  rw [h1.dead f hf]
  exact h2.dead f hf
theorem RW.map {α β : Type} {r : RS → α × RS} {w : α → List UInt8} {o : α → Prop} (h : RW r w o) (f : α → β) (g : β → α) {rd : RS → β × RS} {wr : β → List UInt8} {ok : β → Prop} (hr : ∀ s, rd s = (f (r s).1, (r s).2)) (hw : ∀ y, wr y = w (g y)) (hf : ∀ y, f (g y) = y) (ho : ∀ y, ok y → o (g y)) : RW rd wr ok := by
 refine ⟨fun y q hy => ?_, fun y n hy hn => ?_, fun e he => ?_⟩
 ·rw [hr, hw, h.get _ _ (ho y hy), hf]
 ·rw [hr, hw]
  rw [hw] at hn
  exact h.torn _ _ (ho y hy) hn
 ·rw [hr]
  exact h.dead e he
theorem mn_dead {α : Type} {st : α → RS → α × RS} : ∀ (n : Nat) (a : α) (f : Int), f ≠ 0 → (mn st n a ⟨[], f⟩).2 = ⟨[], f⟩
 | 0, _, _, _ => rfl
 | n + 1, a, f, hf => by
  rw [mn, if_neg (show ¬ (⟨[], f⟩ : RS).f = 0 from hf)]
section
variable {α : Type} {rd : RS → α × RS} {wr : α → List UInt8} {ok : α → Prop} {st : List α → RS → List α × RS}
theorem mn_get (h : RW rd wr ok) (hst : ∀ a s, st a s = (a ++ [(rd s).1], (rd s).2)) : ∀ (l a : List α) (r : List UInt8), (∀ x ∈ l, ok x) → mn st l.length a ⟨l.flatMap wr ++ r, 0⟩ = (a ++ l, ⟨r, 0⟩)
 | [], a, r, _ => by simp [mn]
 | x :: l, a, r, ho => by
  rw [List.length_cons, mn, if_pos (show (⟨(x :: l).flatMap wr ++ r, 0⟩ : RS).f = 0 from rfl), hst, List.flatMap_cons, List.append_assoc, h.get _ _ (ho x List.mem_cons_self)]
  dsimp only
  rw [mn_get h hst l _ r fun y hy => ho y (List.mem_cons_of_mem _ hy), List.append_assoc]
  rfl
theorem mn_torn (h : RW rd wr ok) (hst : ∀ a s, st a s = (a ++ [(rd s).1], (rd s).2)) : ∀ (l a : List α) (n : Nat), (∀ x ∈ l, ok x) → n < (l.flatMap wr).length → (mn st l.length a ⟨(l.flatMap wr).take n, 0⟩).2 = ⟨[], 5⟩
 | [], a, n, _, hn => absurd hn (by simp)
 | x :: l, a, n, ho, hn => by
  rw [List.length_cons, mn, if_pos (show (⟨((x :: l).flatMap wr).take n, 0⟩ : RS).f = 0 from rfl), hst]
  rw [List.flatMap_cons] at hn ⊢
  rw [List.length_append] at hn
  dsimp only
  by_cases hl : n < (wr x).length
  ·rw [List.take_append_of_le_length (by omega), h.torn _ _ (ho x List.mem_cons_self) hl]
   exact mn_dead _ _ 5 (by decide)
  ·have e : (wr x ++ l.flatMap wr).take n = wr x ++ (l.flatMap wr).take (n - (wr x).length) := by
    rw [List.take_append, List.take_of_length_le (by omega)]
   rw [e, h.get _ _ (ho x List.mem_cons_self)]
   dsimp only
   exact mn_torn h hst l _ _ (fun y hy => ho y (List.mem_cons_of_mem _ hy)) (by omega)
theorem rw_mny (h : RW rd wr ok) (hst : ∀ a s, st a s = (a ++ [(rd s).1], (rd s).2)) : RW (mny st []) (fun l => numB (l.length : Int) 1 ++ l.flatMap wr) (fun l => l.length < 256 ∧ ∀ x ∈ l, ok x) := by
 refine ⟨fun l r hl => ?_, fun l n hl hn => ?_, fun f hf => ?_⟩
 ·unfold mny
  rw [List.append_assoc, tk_get (valB_1 _ (by omega) (by omega))]
  dsimp only
  rw [Int.toNat_natCast, mn_get h hst l [] r hl.2]
  rfl
 ·unfold mny
  rw [List.length_append, numB_len] at hn
  cases n with
  | zero =>
   rw [List.take_zero, tk_short (by show 0 < 1; omega)]
   rfl
  | succ n =>
   have e : (numB (l.length : Int) 1 ++ l.flatMap wr).take (n + 1) = numB (l.length : Int) 1 ++ (l.flatMap wr).take n := by
    rw [List.take_append, List.take_of_length_le (by rw [numB_len]; omega), numB_len]
    rfl
   rw [e, tk_get (valB_1 _ (by omega) (by omega))]
   dsimp only
   rw [Int.toNat_natCast]
   exact mn_torn h hst l [] n hl.2 (by omega)
 ·unfold mny
  rw [tk_short (by show 0 < 1; omega), if_neg hf]
  exact mn_dead _ _ f hf
end
end Go.Proofs.YtohdfcnjcpjdcaaGreatDoor
/- What is written is read again: in plain words. Conditions: as each law states them. -/
namespace Go.Proofs.YtohdfcnjcpjdcaaGreatDoor
open Go.RowKit
set_option linter.unusedSimpArgs false
theorem rw_its : RW its itB (fun l => l.length < 256 ∧ ∀ z ∈ l, 0 ≤ z ∧ z < 256) := rw_mny (rw_tk 1 256 (by omega) valB_1) fun _ _ => rfl
def okRl (y : Rul) : Prop := y.pre.size < 256 ∧ (0 ≤ y.freeze + 1 ∧ y.freeze + 1 < 4294967296) ∧ (0 ≤ y.drop + 1 ∧ y.drop + 1 < 4294967296)
theorem rw_rl : RW rl ruB okRl :=
 (RW.seq rw_tx (RW.seq (rw_tk 4 4294967296 (by omega) valB_4) ((rw_tk 4 4294967296 (by omega) valB_4)))).map (fun p => (⟨p.1, p.2.1 - 1, p.2.2 - 1⟩ : Rul)) (fun y => (y.pre, (y.freeze + 1, y.drop + 1)))
  (by intro s; simp only [sq2, rl]) (by intro y; simp only [ruB]) (by intro y; simp only [Int.add_sub_cancel]) (by intro y h; exact h)
def okPt (y : Prt) : Prop := (0 ≤ y.n ∧ y.n < 256) ∧ (0 ≤ y.size ∧ y.size < 65536) ∧ (y.secs.length < 256 ∧ ∀ z ∈ y.secs, 0 ≤ z ∧ z < 256)
theorem rw_pt : RW pt ptB okPt :=
 (RW.seq (rw_tk 1 256 (by omega) valB_1) (RW.seq (rw_tk 2 65536 (by omega) valB_2) (rw_its))).map (fun p => (⟨p.1, p.2.1, p.2.2⟩ : Prt)) (fun y => (y.n, (y.size, y.secs)))
  (by intro s; simp only [sq2, pt, pt1, pt2, pt3]) (by intro y; simp only [ptB]) (by intro y; rfl) (by intro y h; exact h)
def okAk (y : Ask) : Prop := (0 ≤ y.ver ∧ y.ver < 16777216) ∧ (0 ≤ y.days ∧ y.days < 65536) ∧ (0 ≤ y.cls ∧ y.cls < 256)
theorem rw_ak : RW ak akB okAk :=
 (RW.seq (rw_tk 3 16777216 (by omega) valB_3) (RW.seq (rw_tk 2 65536 (by omega) valB_2) ((rw_tk 1 256 (by omega) valB_1)))).map (fun p => (⟨p.1, p.2.1, p.2.2⟩ : Ask)) (fun y => (y.ver, (y.days, y.cls)))
  (by intro s; simp only [sq2, ak, ak1, ak2, ak3]) (by intro y; simp only [akB]) (by intro y; rfl) (by intro y h; exact h)
def okVr (y : Ver) : Prop := (0 ≤ y.id ∧ y.id < 16777216) ∧ y.bucket.size < 256 ∧ y.key.size < 256 ∧ True ∧ True ∧ (0 ≤ y.size ∧ y.size < 65536) ∧ (0 ≤ y.time ∧ y.time < 4294967296) ∧ (0 ≤ y.tier ∧ y.tier < 256) ∧ (y.secs.length < 256 ∧ ∀ z ∈ y.secs, 0 ≤ z ∧ z < 256) ∧ (0 ≤ y.vol ∧ y.vol < 256) ∧ (0 ≤ y.at_ ∧ y.at_ < 65536) ∧ (0 ≤ y.till ∧ y.till < 4294967296)
theorem rw_vr : RW vr vrB okVr :=
 (RW.seq (rw_tk 3 16777216 (by omega) valB_3) (RW.seq rw_tx (RW.seq rw_tx (RW.seq rw_bt (RW.seq rw_bt (RW.seq (rw_tk 2 65536 (by omega) valB_2) (RW.seq (rw_tk 4 4294967296 (by omega) valB_4) (RW.seq (rw_tk 1 256 (by omega) valB_1) (RW.seq rw_its (RW.seq (rw_tk 1 256 (by omega) valB_1) (RW.seq (rw_tk 2 65536 (by omega) valB_2) ((rw_tk 4 4294967296 (by omega) valB_4))))))))))))).map (fun p => (⟨p.1, p.2.1, p.2.2.1, p.2.2.2.1, p.2.2.2.2.1, p.2.2.2.2.2.1, p.2.2.2.2.2.2.1, p.2.2.2.2.2.2.2.1, p.2.2.2.2.2.2.2.2.1, p.2.2.2.2.2.2.2.2.2.1, p.2.2.2.2.2.2.2.2.2.2.1, p.2.2.2.2.2.2.2.2.2.2.2⟩ : Ver)) (fun y => (y.id, (y.bucket, (y.key, (y.null, (y.marker, (y.size, (y.time, (y.tier, (y.secs, (y.vol, (y.at_, y.till))))))))))))
  (by intro s; simp only [sq2, vr, vr1, vr2, vr3, vr4, vr5, vr6, vr7, vr8, vr9, vr10, vr11, vr12]) (by intro y; simp only [vrB]) (by intro y; rfl) (by intro y h; exact h)
def okBk (y : Bkt) : Prop := y.name.size < 256 ∧ (0 ≤ y.mode ∧ y.mode < 256) ∧ okRl y.rule
def okUp (y : Upl) : Prop := (0 ≤ y.id ∧ y.id < 16777216) ∧ y.bucket.size < 256 ∧ y.key.size < 256 ∧ (y.parts.length < 256 ∧ ∀ z ∈ y.parts, okPt z)
def okSta (y : Sta) : Prop := (0 ≤ y.next ∧ y.next < 16777216) ∧ (0 ≤ y.clock ∧ y.clock < 4294967296) ∧ (y.bkts.length < 256 ∧ ∀ z ∈ y.bkts, okBk z) ∧ (y.vers.length < 256 ∧ ∀ z ∈ y.vers, okVr z) ∧ (y.upls.length < 256 ∧ ∀ z ∈ y.upls, okUp z) ∧ (y.queue.length < 256 ∧ ∀ z ∈ y.queue, okAk z) ∧ (y.gone.length < 256 ∧ ∀ z ∈ y.gone, 0 ≤ z ∧ z < 256)
end Go.Proofs.YtohdfcnjcpjdcaaGreatDoor
/- Small states. Conditions: as each law states them. -/
namespace Go.Proofs.YtohdfcnjcpjdcaaGreatDoor
open Go.RowKit
set_option linter.unusedSimpArgs false
/-- a state of no great size -/
structure Small (s : Sta) : Prop where
 bl : s.bkts.length ≤ 100
 vl : s.vers.length ≤ 100
 ul : s.upls.length ≤ 20
 ql : s.queue.length ≤ 1000
 gl : s.gone.length ≤ 1000
 b : ∀ x ∈ s.bkts, x.name.size ≤ 1000 ∧ x.rule.pre.size ≤ 1000 ∧ (-1 ≤ x.rule.freeze ∧ x.rule.freeze < 4294967296) ∧ (-1 ≤ x.rule.drop ∧ x.rule.drop < 4294967296)
 v : ∀ x ∈ s.vers, x.secs.length ≤ 1000 ∧ x.bucket.size ≤ 1000 ∧ x.key.size ≤ 1000
 u : ∀ x ∈ s.upls, x.bucket.size ≤ 1000 ∧ x.key.size ≤ 1000 ∧ x.parts.length ≤ 20 ∧ ∀ p ∈ x.parts, p.secs.length ≤ 1000
end Go.Proofs.YtohdfcnjcpjdcaaGreatDoor
/- A state that may be is of no great size. Conditions: as each law states them. -/
namespace Go.Proofs.YtohdfcnjcpjdcaaGreatDoor
theorem incr_len {α : Type} (f : α → Int) : ∀ (l : List α) (m M : Int), l.Pairwise (fun a b => f a < f b) → (∀ x ∈ l, m ≤ f x ∧ f x ≤ M) → (l.length : Int) ≤ M - m + 1 ∨ l = []
 | [], _, _, _, _ => .inr rfl
 | x :: r, m, M, hp, h => by
  left
  obtain ⟨h1, h2⟩ := List.pairwise_cons.1 hp
  have hx := h x List.mem_cons_self
  rw [List.length_cons]
  rcases incr_len f r (f x + 1) M h2 (fun y hy => ⟨by have := h1 y hy; omega, (h y (List.mem_cons_of_mem _ hy)).2⟩) with q | q
  ·omega
  ·subst q
   simp only [List.length_nil]
   omega
theorem goneY_len : ∀ (l : List Int) (p : Option Int), p.getD (-1) ≤ 7 → chain goneBad p l = true → (l.length : Int) ≤ 7 - p.getD (-1)
 | [], p, hp, _ => by simp only [List.length_nil]; omega
 | x :: r, p, hp, h => by
  unfold chain at h
  obtain ⟨h1, h2⟩ := Bool.and_eq_true_iff.1 h
  have h1' : goneBad p x = false := by simpa using h1
  unfold goneBad at h1'
  simp only [Bool.or_eq_false_iff, decide_eq_false_iff_not] at h1'
  obtain ⟨⟨q1, q2⟩, q3⟩ := h1'
  have h3 := goneY_len r (some x) (by show x ≤ 7; omega) h2
  have h4 : p.getD (-1) < x := by
   cases p with
   | none => show (-1 : Int) < x; omega
   | some q =>
    have q3' : decide (x ≤ q) = false := q3
    have := of_decide_eq_false q3'
    show q < x
    omega
  have h5 : (r.length : Int) ≤ 7 - x := h3
  rw [List.length_cons]
  omega
theorem name_size {t : ByteArray} {m : Int} (h : nameErr t m = 0) : (t.size : Int) ≤ m := by
 unfold nameErr at h
 split at h
 ·exact absurd h (by decide)
 ·rename_i hc
  simp only [Bool.or_eq_true, decide_eq_true_eq] at hc
  omega
theorem secsOf_600 {n : Int} (h0 : 0 ≤ n) (h : n ≤ 600) : secsOf n ≤ 10 := by
 unfold secsOf
 have : (n + 63).tdiv 64 = (n + 63) / 64 := Int.tdiv_eq_ediv_of_nonneg (by omega)
 omega
theorem bkt_small {s : Sta} (h : bktsB s.bkts = true) {b : Bkt} (hb : b ∈ s.bkts) : b.name.size ≤ 1000 ∧ b.rule.pre.size ≤ 1000 ∧ (-1 ≤ b.rule.freeze ∧ b.rule.freeze < 4294967296) ∧ (-1 ≤ b.rule.drop ∧ b.rule.drop < 4294967296) := by
 obtain ⟨h1, _⟩ := Bool.and_eq_true_iff.1 h
 obtain ⟨i, hi⟩ := List.getElem?_of_mem hb
 have h2 := chain_at h1 hi
 unfold bktBad bktOut at h2
 simp only [Bool.or_eq_false_iff, Bool.not_eq_false', decide_eq_true_eq, decide_eq_false_iff_not] at h2
 obtain ⟨⟨⟨⟨q1, _⟩, _⟩, q2⟩, _⟩ := h2
 have n1 := name_size q1
 unfold rulErr at q2
 split at q2
 ·exact absurd q2 (by decide)
 rename_i r1
 split at q2
 ·exact absurd q2 (by decide)
 split at q2
 ·exact absurd q2 (by decide)
 rename_i r3
 unfold rulOut at r3
 simp only [decide_eq_true_eq] at r1
 simp only [Bool.or_eq_true, decide_eq_true_eq, not_or] at r3
 omega
theorem good_small {s : Sta} (h : Good s) : Small s := by
 have hbl : s.bkts.length ≤ 4 := by
  obtain ⟨_, q⟩ := Bool.and_eq_true_iff.1 h.bkts
  have := of_decide_eq_true q
  omega
 have hin : ∀ t, bktIn s t = true → t.size ≤ 1000 := fun t ht => by
  obtain ⟨b, hb, rfl⟩ := (bktIn_iff h.bkts).1 ht
  exact (bkt_small h.bkts hb).1
 have hgl := goneY_len s.gone none (by decide) h.gone
 have hgl' : (s.gone.length : Int) ≤ 7 - -1 := hgl
 have hvl := h.vlen
 have hul := h.ulen
 have hql := h.queue.len
 refine ⟨by omega, by omega, by omega, by omega, by omega, fun x hx => bkt_small h.bkts hx, fun v hv => ?_, fun v hv => ?_⟩
 ·obtain ⟨h1, h2⟩ := h.snd v hv
  unfold verOut at h1
  simp only [Bool.or_eq_false_iff, Bool.not_eq_false', decide_eq_true_eq, decide_eq_false_iff_not] at h1
  obtain ⟨⟨⟨⟨⟨q1, q2⟩, _⟩, _⟩, _⟩, _⟩ := h1
  have n1 := name_size q2
  refine ⟨?_, hin _ q1, by omega⟩
  rcases h2 with ⟨_, hm⟩ | ⟨_, s0, s1, ht⟩
  ·unfold markB at hm
   simp only [Bool.and_eq_true, decide_eq_true_eq] at hm
   omega
  ·have := secsOf_600 s0 s1
   rcases ht with ⟨_, _, e⟩ | ⟨_, _, _, e⟩ | ⟨_, _, _, _, e⟩
   ·omega
   ·rw [e]; simp
   ·omega
 ·have h1 := h.out v hv
  unfold uplOut at h1
  simp only [Bool.or_eq_false_iff, Bool.not_eq_false', decide_eq_true_eq, decide_eq_false_iff_not] at h1
  obtain ⟨⟨⟨q1, q2⟩, _⟩, _⟩ := h1
  have n1 := name_size q2
  obtain ⟨p1, p2⟩ := h.prt v hv
  have hp : ∀ p ∈ v.parts, (1 ≤ p.n ∧ p.n ≤ 5) ∧ p.secs.length ≤ 1000 := fun p hp => by
   obtain ⟨a1, a2⟩ := p1 p hp
   unfold prtOut at a1
   simp only [Bool.or_eq_false_iff, decide_eq_false_iff_not] at a1
   obtain ⟨⟨⟨b1, b2⟩, b3⟩, b4⟩ := a1
   have := secsOf_600 (n := p.size) (by omega) (by omega)
   exact ⟨⟨by omega, by omega⟩, by omega⟩
  refine ⟨hin _ q1, by omega, ?_, fun p h => (hp p h).2⟩
  rcases incr_len (·.n) v.parts 1 5 p2 (fun p h => (hp p h).1) with q | q
  ·omega
  ·rw [q]; simp
end Go.Proofs.YtohdfcnjcpjdcaaGreatDoor
/- A state that may be fits into its bytes. Conditions: as each law states them. -/
namespace Go.Proofs.YtohdfcnjcpjdcaaGreatDoor
theorem okBk_of {s : Sta} (h : bktsB s.bkts = true) {b : Bkt} (hb : b ∈ s.bkts) : okBk b := by
 obtain ⟨h1, _⟩ := Bool.and_eq_true_iff.1 h
 obtain ⟨i, hi⟩ := List.getElem?_of_mem hb
 have h2 := chain_at h1 hi
 unfold bktBad bktOut at h2
 simp only [Bool.or_eq_false_iff, Bool.not_eq_false', decide_eq_true_eq, decide_eq_false_iff_not] at h2
 obtain ⟨⟨⟨⟨q1, m1⟩, m2⟩, q2⟩, _⟩ := h2
 have n1 := name_size q1
 unfold rulErr at q2
 split at q2
 ·exact absurd q2 (by decide)
 rename_i r1
 split at q2
 ·exact absurd q2 (by decide)
 split at q2
 ·exact absurd q2 (by decide)
 rename_i r3
 unfold rulOut at r3
 simp only [decide_eq_true_eq] at r1
 simp only [Bool.or_eq_true, decide_eq_true_eq, not_or] at r3
 unfold okBk okRl
 omega
theorem secs_in {l : List Int} {u : List Int} (h : Fr u l) : ∀ z ∈ l, 0 ≤ z ∧ z < 256 := fun z hz => by
 have := (h.1 z hz).1
 unfold offSec at this
 simp only [Bool.or_eq_false_iff, decide_eq_false_iff_not] at this
 omega
theorem good_ok {s : Sta} (h : Good s) : okSta s := by
 have hS := good_small h
 have hbl : s.bkts.length ≤ 4 := by
  obtain ⟨_, q⟩ := Bool.and_eq_true_iff.1 h.bkts
  have := of_decide_eq_true q
  omega
 have hin : ∀ t, bktIn s t = true → t.size < 256 := fun t ht => by
  obtain ⟨b, hb, rfl⟩ := (bktIn_iff h.bkts).1 ht
  exact (okBk_of h.bkts hb).1
 have n1 := h.n1
 have n2 := h.n2
 have c1 := h.c1
 have c2 := h.c2
 have hvl := h.vlen
 have hul := h.ulen
 have hql := h.queue.len
 have hgl := gone_len h.gone
 have hfr := secs_in h.fr
 have hid : ∀ v ∈ s.vers, 0 ≤ v.id ∧ v.id < 16777216 := fun v hv => by
  have h1 := (h.snd v hv).1
  unfold verOut at h1
  simp only [Bool.or_eq_false_iff, Bool.not_eq_false', decide_eq_true_eq, decide_eq_false_iff_not] at h1
  omega
 have hvs : ∀ v ∈ s.vers, ∀ z ∈ v.secs, 0 ≤ z ∧ z < 256 := fun v hv z hz => hfr z (List.mem_append_left _ (by
  unfold secsV
  exact List.mem_flatMap.2 ⟨v, hv, hz⟩))
 have hus : ∀ v ∈ s.upls, ∀ p ∈ v.parts, ∀ z ∈ p.secs, 0 ≤ z ∧ z < 256 := fun v hv p hp z hz => hfr z (List.mem_append_right _ (by
  unfold secsU
  refine List.mem_flatMap.2 ⟨v, hv, ?_⟩
  unfold secsP
  exact List.mem_flatMap.2 ⟨p, hp, hz⟩))
 refine ⟨by omega, by omega, ⟨by omega, fun b hb => okBk_of h.bkts hb⟩, ⟨by omega, fun v hv => ?_⟩, ⟨by omega, fun v hv => ?_⟩, ⟨by omega, fun a ha => ?_⟩, ⟨by omega, fun z hz => ?_⟩⟩
 ·obtain ⟨h1, h2⟩ := h.snd v hv
  have hsl := (hS.v v hv).1
  unfold verOut at h1
  simp only [Bool.or_eq_false_iff, Bool.not_eq_false', decide_eq_true_eq, decide_eq_false_iff_not] at h1
  obtain ⟨⟨⟨⟨⟨q1, q2⟩, _⟩, _⟩, _⟩, _⟩ := h1
  have m1 := name_size q2
  have hb := hin _ q1
  have hi := hid v hv
  refine ⟨hi, hb, by omega, trivial, trivial, ?_⟩
  rcases h2 with ⟨_, hm⟩ | ⟨_, s0, s1, ht⟩
  ·unfold markB at hm
   simp only [Bool.and_eq_true, decide_eq_true_eq] at hm
   exact ⟨by omega, by omega, by omega, ⟨by omega, hvs v hv⟩, by omega, by omega, by omega⟩
  ·have hsc := secsOf_600 s0 s1
   rcases ht with ⟨t1, t2, e⟩ | ⟨t1, t2, t3, e⟩ | ⟨t1, t2, t3, t4, e⟩
   ·unfold hotNone at t2
    simp only [Bool.and_eq_true, decide_eq_true_eq] at t2
    exact ⟨by omega, by omega, by omega, ⟨by omega, hvs v hv⟩, by omega, by omega, by omega⟩
   ·unfold taped onTape at t2
    simp only [Bool.and_eq_true, decide_eq_true_eq] at t2
    exact ⟨by omega, by omega, by omega, ⟨by rw [e]; simp, hvs v hv⟩, by omega, by omega, by omega⟩
   ·unfold taped onTape at t2
    simp only [Bool.and_eq_true, decide_eq_true_eq] at t2
    exact ⟨by omega, by omega, by omega, ⟨by omega, hvs v hv⟩, by omega, by omega, by omega⟩
 ·have h1 := h.out v hv
  unfold uplOut at h1
  simp only [Bool.or_eq_false_iff, Bool.not_eq_false', decide_eq_true_eq, decide_eq_false_iff_not] at h1
  obtain ⟨⟨⟨q1, q2⟩, q3⟩, q4⟩ := h1
  have m1 := name_size q2
  have hb := hin _ q1
  obtain ⟨p1, p2⟩ := h.prt v hv
  have hpl := (hS.u v hv).2.2.1
  refine ⟨by omega, hb, by omega, by omega, fun p hp => ?_⟩
  obtain ⟨a1, a2⟩ := p1 p hp
  unfold prtOut at a1
  simp only [Bool.or_eq_false_iff, decide_eq_false_iff_not] at a1
  obtain ⟨⟨⟨b1, b2⟩, b3⟩, b4⟩ := a1
  have := secsOf_600 (n := p.size) (by omega) (by omega)
  exact ⟨by omega, by omega, by omega, hus v hv p hp⟩
 ·have h1 := h.queue.out a ha
  unfold askOut at h1
  simp only [Bool.or_eq_false_iff, Bool.not_eq_false', decide_eq_true_eq, decide_eq_false_iff_not] at h1
  obtain ⟨⟨⟨⟨⟨q1, _⟩, q2⟩, q3⟩, q4⟩, q5⟩ := h1
  obtain ⟨x, hx, e'⟩ := ver_hit q1
  have hm := List.mem_of_getElem? hx
  have hi := hid x hm
  exact ⟨by omega, by omega, by omega⟩
 ·obtain ⟨i, hi⟩ := List.getElem?_of_mem hz
  have h2 := chain_at (show chain goneBad none s.gone = true from h.gone) hi
  unfold goneBad at h2
  simp only [Bool.or_eq_false_iff, decide_eq_false_iff_not] at h2
  omega
theorem err_ok {s : Sta} (h : errSt s = 0) : okSta s := by
 refine good_ok (okSt_good.1 ?_)
 unfold errSt at h
 split at h
 ·assumption
 ·exact absurd h (by decide)
end Go.Proofs.YtohdfcnjcpjdcaaGreatDoor
/- Two readings of one list, or state, are told the same. Conditions: as each law states them. -/
namespace Go.Proofs.YtohdfcnjcpjdcaaGreatDoor
open Go.RowKit
set_option linter.unusedSimpArgs false
section
variable {P : Program} {E : Env} {σ : St} {o : Oper}
/-- two bools, compared -/
theorem booleq_does {ty t2 : TypeId} {x y : Operand} {xv yv : SV} {a b : Bool} (ho : o.op = .binOp .eql ty x y t2) (ht : P.underlying ty = some .bool) (hx : ev σ x = some xv) (hxv : xv.den = .bool a) (hy : ev σ y = some yv) (hyv : yv.den = .bool b) (hd : dOk E o.dst) :
  Does P E σ o (fun σ' => σ' = σ.put o.dst (.c (.v (.bool (a == b))))) := by
 intro ac w Q next hr hn
 have hx' : ac.eval x = .bool a := (ev_den hr.see hx).trans hxv
 have hy' : ac.eval y = .bool b := (ev_den hr.see hy).trans hyv
 have he : (Op.equal ty (.bool a) (.bool b)).run P w = .ok (a == b) w := run_equalIn_bool' w _ ty a b ht
 have hb : (binOp .eql ty (.bool a) (.bool b)).run P w = .ok (.bool (a == b)) w := by
  simp only [binOp]
  rw [Sem.run_bind, he]
  rfl
 have hg : (eqGuard .eql ty x y (.bool a) (.bool b)).run P w = .ok () w := by
  unfold eqGuard
  rfl
 have hrun : (execOp ac.eval o).run P w = .ok (.value (.bool (a == b))) w := by
  unfold execOp
  simp only [ho, hx', hy', hg, hb, Sem.run_bind, Sem.run_pure, Result.andThen_ok]
 exact wp_of_value hrun (hn _ _ _ rfl (hr.put o.dst (.c (.v _)) (dOk_lt hd)))
theorem wgX_do {rec_ : Cmd → St → Prop} {k : Cont} {ops : Array Oper} {rest : List Oper} {ctx : List Bool} {z : Option (Prop × SC)} (hz : z = none) (hs : stepO P o σ = .no) (hc : ctx.all id = true) (h : Ok E σ (wpList P ops (k.den P) (o :: rest))) : WgX P E rec_ k ops rest o σ ctx z := by
 rw [hz]
 refine ⟨fun _ => ?_, fun q => by rw [hc] at q; cases q⟩
 rw [hs]
 exact h
end
set_option maxRecDepth 100000 in
set_option maxHeartbeats 8000000 in
theorem sameInts_does {av bv : Value} {l : List Int} {G0 : GW} (hW : G0.Wf) (ha : IntsG G0 av l) (hb : IntsG G0 bv l) :
  Calls Tryz.prog 22 #[av, bv] G0.w (Ret G0 fun y _ => y = .bool true) := by
 obtain ⟨A, c, rfl, hc1, hc2⟩ := Sq.form ha
 obtain ⟨B, d, rfl, hd1, hd2⟩ := Sq.form hb
 have hml := max_le
 refine enterS (G := G0) (n := 26) 3000 hW Tryz.func22 rfl Tryz.ntmps22 (by simp) ?_
 simp only [go_sem, simprocAttr]
 refine loop_ok (N := 3000) (ι := Nat) (fun i => ⟨[(0, .c (.v (.slice A l.length c))), (1, .c (.v (.slice B l.length d))), (12, .c (.v (.int .i64 (l.length : Int)))), (13, .c (.v (.int .i64 (i : Int))))], [], [], [], [G0], 0⟩)
  (fun i => i ≤ l.length) (fun i => l.length - i) (QOk_body _ _ _) 0 (Nat.zero_le _) (by simp only [go_sem, simprocAttr]; simp) ?_
 rintro i hi
 by_cases hlt : i < l.length
 ·have q : decide ((i : Int) < (l.length : Int)) = true := decide_eq_true (by omega)
  obtain ⟨x, hx⟩ : ∃ x, l[i]? = some x := ⟨_, List.getElem?_eq_getElem hlt⟩
  simp only [go_sem, simprocAttr, q]
  refine preview_ok (R := IntG) (kc := 1) hx (fun G hG => (Sq.mono ha intG_mono (hG G0 (by simp))).sc) fun g1 o1 cs1 G1 hA hcl1 hcs1 hle1 => ?_
  subst hA
  obtain rfl := hcs1
  simp only [go_sem, simprocAttr]
  refine preview_ok (R := IntG) (kc := 1) hx (fun G hG => (Sq.mono hb intG_mono (hG G0 (by simp))).sc) fun g2 o2 cs2 G2 hB hcl2 hcs2 hle2 => ?_
  subst hB
  obtain rfl := hcs2
  refine draw_ok (N := 3000) (.take 0 (.take 1 (.take 2 (.take 3 (.take 4 (.take 5 (.take 6 (.take 7 (.take 8 .done))))))))) [] (QOk_body _ _ _) follows_mixed (by kernel_rfl) (by kernel_rfl) ?_
  simp only [go_sem, simprocAttr]
  refine take_elem 0 (m := i) rfl tySlice27 tySize3 rfl rfl (dk rfl) rfl hlt ?_
  simp only [go_sem, simprocAttr]
  refine take_elem 1 (m := i) rfl tySlice27 tySize3 rfl rfl (dk rfl) rfl hlt ?_
  simp only [go_sem, simprocAttr]
  exact ⟨by omega, again_ok (i + 1) hlt (by show l.length - (i + 1) < l.length - i; omega) (by simp only [go_sem, simprocAttr]; simp)⟩
 ·have q : decide ((i : Int) < (l.length : Int)) = false := decide_eq_false (by omega)
  simp only [go_sem, simprocAttr, q]
  refine fin_ret (G := G0) Tryz.results22 ?_
  simp only [go_sem, simprocAttr]
  intro aa w' _ hle
  rfl
set_option maxRecDepth 100000 in
set_option maxHeartbeats 8000000 in
theorem samePart_does {x : Prt} {av bv : Value} {G0 : GW} (hW : G0.Wf) (ha : IntsG G0 av x.secs) (hb : IntsG G0 bv x.secs) :
  Calls Tryz.prog 21 #[.agg #[.int .i64 x.n, .int .i64 x.size, av], .agg #[.int .i64 x.n, .int .i64 x.size, bv]] G0.w (Ret G0 fun y _ => y = .bool true) := by
 obtain ⟨A, c, rfl, hc1, hc2⟩ := Sq.form ha
 obtain ⟨B, d, rfl, hd1, hd2⟩ := Sq.form hb
 have hml := max_le
 refine enterS (G := G0) (n := 24) 3000 hW Tryz.func21 rfl Tryz.ntmps21 (by simp) ?_
 simp only [go_sem, simprocAttr]
 intro g1 g2
 refine pk (call_does (fun y _ => y = .bool true) rfl rfl (by kernel_rfl) rfl (dk rfl) (fun G hG => sameInts_does hG.wf (ha.mono (hG.le G0 (by simp))) (hb.mono (hG.le G0 (by simp))))) ?_
 rintro _ ⟨_, G1, rfl, hn1, rfl⟩
 clear hn1
 simp only [go_sem, simprocAttr]
 refine fin_ret (G := G0) Tryz.results21 ?_
 simp only [go_sem, simprocAttr]
 intro aa w' _ hle
 rfl
set_option maxRecDepth 100000 in
set_option maxHeartbeats 8000000 in
theorem sameVersion_does {x : Ver} {av bv : Value} {G0 : GW} (hW : G0.Wf) (ha : IntsG G0 av x.secs) (hb : IntsG G0 bv x.secs) :
  Calls Tryz.prog 20 #[.agg (verV x av).toArray, .agg (verV x bv).toArray] G0.w (Ret G0 fun y _ => y = .bool true) := by
 obtain ⟨A, c, rfl, hc1, hc2⟩ := Sq.form ha
 obtain ⟨B, d, rfl, hd1, hd2⟩ := Sq.form hb
 have hml := max_le
 refine enterS (G := G0) (n := 87) 3000 hW Tryz.func20 rfl Tryz.ntmps20 (by simp) ?_
 simp only [go_sem, simprocAttr, verV]
 intro g1 g2
 simp only [go_sem, simprocAttr, List.append_eq, List.cons_append, List.nil_append]
 refine wgX_do rfl rfl rfl ?_
 refine pk (booleq_does (a := x.null) (b := x.null) rfl Tryz.underlying4 rfl rfl rfl rfl (dk rfl)) ?_
 rintro _ rfl
 simp only [go_sem, simprocAttr, List.append_eq, List.cons_append, List.nil_append, beq_self_eq_true]
 refine wgX_do rfl rfl rfl ?_
 refine pk (booleq_does (a := x.marker) (b := x.marker) rfl Tryz.underlying4 rfl rfl rfl rfl (dk rfl)) ?_
 rintro _ rfl
 simp only [go_sem, simprocAttr, List.append_eq, List.cons_append, List.nil_append, beq_self_eq_true]
 refine pk (call_does (fun y _ => y = .bool true) rfl rfl (by kernel_rfl) rfl (dk rfl) (fun G hG => sameInts_does hG.wf (ha.mono (hG.le G0 (by simp))) (hb.mono (hG.le G0 (by simp))))) ?_
 rintro _ ⟨_, G1, rfl, hn1, rfl⟩
 clear hn1
 simp only [go_sem, simprocAttr]
 refine fin_ret (G := G0) Tryz.results20 ?_
 simp only [go_sem, simprocAttr]
 intro aa w' _ hle
 rfl
end Go.Proofs.YtohdfcnjcpjdcaaGreatDoor
