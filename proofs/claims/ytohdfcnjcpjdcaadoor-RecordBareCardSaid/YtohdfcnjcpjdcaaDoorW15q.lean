/- What is written is read again; torn, it is a fault 5: in plain words. Conditions: as each law states them. -/
import Derived.Test.YtohdfcnjcpjdcaaDoorW12q
namespace Go.Proofs.YtohdfcnjcpjdcaaDoor
/-- what a writer writes a reader reads; of what is torn it tells the fault 5; a fault stays -/
structure RW {α : Type} (rd : RS → α × RS) (wr : α → List UInt8) (ok : α → Prop) : Prop where
  get : ∀ x r, ok x → rd ⟨wr x ++ r, 0⟩ = (x, ⟨r, 0⟩)
  torn : ∀ x n, ok x → n < (wr x).length → (rd ⟨(wr x).take n, 0⟩).2 = ⟨[], 5⟩
  dead : ∀ f, f ≠ 0 → (rd ⟨[], f⟩).2 = ⟨[], f⟩
theorem tk_get {k : Nat} {x : Int} (hv : valB (numB x k) = x) (r : List UInt8) (f : Int) : tk k ⟨numB x k ++ r, f⟩ = (x, ⟨r, f⟩) := by
  unfold tk
  have h1 : ¬ (numB x k ++ r).length < k := by rw [List.length_append, numB_len]; omega
  rw [if_neg h1]
  have e1 : (numB x k ++ r).take k = numB x k := by
    have := List.take_left (l₁ := numB x k) (l₂ := r)
    rw [numB_len] at this
    exact this
  have e2 : (numB x k ++ r).drop k = r := by
    have := List.drop_left (l₁ := numB x k) (l₂ := r)
    rw [numB_len] at this
    exact this
  show (valB ((numB x k ++ r).take k), (⟨(numB x k ++ r).drop k, f⟩ : RS)) = _
  rw [e1, e2, hv]
theorem tk_short {k : Nat} {l : List UInt8} (h : l.length < k) (f : Int) : tk k ⟨l, f⟩ = (0, ⟨[], if f = 0 then 5 else f⟩) := by
  unfold tk
  rw [if_pos h]
theorem valB_3 (n : Int) (h0 : 0 ≤ n) (h1 : n < 16777216) : valB (numB n 3) = n := by
  simp only [numB, valB, valFrom, byteOf_val]
  omega
theorem rw_tk (k : Nat) (M : Int) (hk : 1 ≤ k) (hv : ∀ n, 0 ≤ n → n < M → valB (numB n k) = n) : RW (tk k) (fun n => numB n k) (fun n => 0 ≤ n ∧ n < M) :=
  ⟨fun x r h => tk_get (hv x h.1 h.2) r 0, fun x n _ hn => by
    rw [numB_len] at hn
    rw [tk_short (by rw [List.length_take, numB_len]; omega)]
    rfl, fun f hf => by rw [tk_short (by show 0 < k; omega), if_neg hf]⟩
theorem rw_tx : RW tx txB (fun t => t.size < 256) := by
  have hv : ∀ t : ByteArray, t.size < 256 → valB (numB (t.size : Int) 1) = (t.size : Int) := fun t h => valB_1 _ (by omega) (by omega)
  have hl : ∀ t : ByteArray, t.data.toList.length = t.size := fun t => by rw [Array.length_toList]; rfl
  refine ⟨fun t r h => ?_, fun t n h hn => ?_, fun f hf => ?_⟩
  · unfold tx txB
    rw [List.append_assoc, tk_get (hv t h)]
    dsimp only
    have hlen : ¬ (((t.data.toList ++ r).length : Nat) : Int) < (t.size : Int) := by rw [List.length_append, hl]; omega
    rw [if_neg hlen]
    have e1 : (t.data.toList ++ r).take (t.size : Int).toNat = t.data.toList := by
      rw [Int.toNat_natCast, ← hl t]
      exact List.take_left
    have e2 : (t.data.toList ++ r).drop (t.size : Int).toNat = r := by
      rw [Int.toNat_natCast, ← hl t]
      exact List.drop_left
    rw [e1, e2]
  · rw [txB_len] at hn
    unfold tx txB
    cases n with
    | zero =>
      rw [List.take_zero, tk_short (by show 0 < 1; omega)]
      simp
    | succ n =>
      have e : (numB (t.size : Int) 1 ++ t.data.toList).take (n + 1) = numB (t.size : Int) 1 ++ t.data.toList.take n := by
        rw [List.take_append, List.take_of_length_le (by rw [numB_len]; omega), numB_len]
        rfl
      rw [e, tk_get (hv t h)]
      dsimp only
      have hlt : (((t.data.toList.take n).length : Nat) : Int) < (t.size : Int) := by rw [List.length_take, hl]; omega
      rw [if_pos hlt]
      rw [tk_short (by rw [Int.toNat_natCast]; omega)]
      rfl
  · unfold tx
    rw [tk_short (by show 0 < 1; omega), if_neg hf]
    simp
theorem rw_bt : RW bt btB (fun _ => True) := by
  refine ⟨fun b r _ => ?_, fun b n _ hn => ?_, fun f hf => ?_⟩
  · unfold bt btB
    cases b with
    | false => rw [show (if false = true then (1 : Int) else 0) = 0 from rfl, tk_get (valB_1 0 (by omega) (by omega))]; rfl
    | true => rw [show (if true = true then (1 : Int) else 0) = 1 from rfl, tk_get (valB_1 1 (by omega) (by omega))]; rfl
  · rw [btB_len] at hn
    obtain rfl : n = 0 := by omega
    unfold bt
    rw [List.take_zero, tk_short (by show 0 < 1; omega)]
    rfl
  · unfold bt
    rw [tk_short (by show 0 < 1; omega), if_neg hf]
    rfl
/-- one behind the other -/
def sq2 {α β : Type} (r1 : RS → α × RS) (r2 : RS → β × RS) (s : RS) : (α × β) × RS := (((r1 s).1, (r2 (r1 s).2).1), (r2 (r1 s).2).2)
theorem RW.seq {α β : Type} {r1 : RS → α × RS} {r2 : RS → β × RS} {w1 : α → List UInt8} {w2 : β → List UInt8} {o1 : α → Prop} {o2 : β → Prop} (h1 : RW r1 w1 o1) (h2 : RW r2 w2 o2) :
    RW (sq2 r1 r2) (fun p => w1 p.1 ++ w2 p.2) (fun p => o1 p.1 ∧ o2 p.2) := by
  refine ⟨fun x r h => ?_, fun x n h hn => ?_, fun f hf => ?_⟩
  · unfold sq2
    rw [List.append_assoc, h1.get _ _ h.1]
    dsimp only
    rw [h2.get _ _ h.2]
  · unfold sq2
    dsimp only at hn ⊢
    rw [List.length_append] at hn
    by_cases hl : n < (w1 x.1).length
    · rw [List.take_append_of_le_length (by omega), h1.torn _ _ h.1 hl]
      exact h2.dead 5 (by decide)
    · have e : (w1 x.1 ++ w2 x.2).take n = w1 x.1 ++ (w2 x.2).take (n - (w1 x.1).length) := by
        rw [List.take_append, List.take_of_length_le (by omega)]
      rw [e, h1.get _ _ h.1]
      exact h2.torn _ _ h.2 (by omega)
  · unfold sq2
    dsimp only
    rw [h1.dead f hf]
    exact h2.dead f hf
theorem RW.map {α β : Type} {r : RS → α × RS} {w : α → List UInt8} {o : α → Prop} (h : RW r w o) (f : α → β) (g : β → α) {rd : RS → β × RS} {wr : β → List UInt8} {ok : β → Prop} (hr : ∀ s, rd s = (f (r s).1, (r s).2)) (hw : ∀ y, wr y = w (g y)) (hf : ∀ y, f (g y) = y) (ho : ∀ y, ok y → o (g y)) : RW rd wr ok := by
  refine ⟨fun y q hy => ?_, fun y n hy hn => ?_, fun e he => ?_⟩
  · rw [hr, hw, h.get _ _ (ho y hy), hf]
  · rw [hr, hw]
    rw [hw] at hn
    exact h.torn _ _ (ho y hy) hn
  · rw [hr]
    exact h.dead e he
theorem mn_dead {α : Type} {st : α → RS → α × RS} : ∀ (n : Nat) (a : α) (f : Int), f ≠ 0 → (mn st n a ⟨[], f⟩).2 = ⟨[], f⟩
  | 0, _, _, _ => rfl
  | n + 1, a, f, hf => by
    rw [mn, if_neg (show ¬ (⟨[], f⟩ : RS).f = 0 from hf)]
section
variable {α : Type} {rd : RS → α × RS} {wr : α → List UInt8} {ok : α → Prop} {st : List α → RS → List α × RS}
theorem mn_get (h : RW rd wr ok) (hst : ∀ a s, st a s = (a ++ [(rd s).1], (rd s).2)) : ∀ (l a : List α) (r : List UInt8), (∀ x ∈ l, ok x) → mn st l.length a ⟨l.flatMap wr ++ r, 0⟩ = (a ++ l, ⟨r, 0⟩)
  | [], a, r, _ => by simp [mn]
  | x :: l, a, r, ho => by
    rw [List.length_cons, mn, if_pos (show (⟨(x :: l).flatMap wr ++ r, 0⟩ : RS).f = 0 from rfl), hst, List.flatMap_cons, List.append_assoc, h.get _ _ (ho x List.mem_cons_self)]
    dsimp only
    rw [mn_get h hst l _ r fun y hy => ho y (List.mem_cons_of_mem _ hy), List.append_assoc]
    rfl
theorem mn_torn (h : RW rd wr ok) (hst : ∀ a s, st a s = (a ++ [(rd s).1], (rd s).2)) : ∀ (l a : List α) (n : Nat), (∀ x ∈ l, ok x) → n < (l.flatMap wr).length → (mn st l.length a ⟨(l.flatMap wr).take n, 0⟩).2 = ⟨[], 5⟩
  | [], a, n, _, hn => absurd hn (by simp)
  | x :: l, a, n, ho, hn => by
    rw [List.length_cons, mn, if_pos (show (⟨((x :: l).flatMap wr).take n, 0⟩ : RS).f = 0 from rfl), hst]
    rw [List.flatMap_cons] at hn ⊢
    rw [List.length_append] at hn
    dsimp only
    by_cases hl : n < (wr x).length
    · rw [List.take_append_of_le_length (by omega), h.torn _ _ (ho x List.mem_cons_self) hl]
      exact mn_dead _ _ 5 (by decide)
    · have e : (wr x ++ l.flatMap wr).take n = wr x ++ (l.flatMap wr).take (n - (wr x).length) := by
        rw [List.take_append, List.take_of_length_le (by omega)]
      rw [e, h.get _ _ (ho x List.mem_cons_self)]
      dsimp only
      exact mn_torn h hst l _ _ (fun y hy => ho y (List.mem_cons_of_mem _ hy)) (by omega)
theorem rw_mny (h : RW rd wr ok) (hst : ∀ a s, st a s = (a ++ [(rd s).1], (rd s).2)) : RW (mny st []) (fun l => numB (l.length : Int) 1 ++ l.flatMap wr) (fun l => l.length < 256 ∧ ∀ x ∈ l, ok x) := by
  refine ⟨fun l r hl => ?_, fun l n hl hn => ?_, fun f hf => ?_⟩
  · unfold mny
    rw [List.append_assoc, tk_get (valB_1 _ (by omega) (by omega))]
    dsimp only
    rw [Int.toNat_natCast, mn_get h hst l [] r hl.2]
    rfl
  · unfold mny
    rw [List.length_append, numB_len] at hn
    cases n with
    | zero =>
      rw [List.take_zero, tk_short (by show 0 < 1; omega)]
      rfl
    | succ n =>
      have e : (numB (l.length : Int) 1 ++ l.flatMap wr).take (n + 1) = numB (l.length : Int) 1 ++ (l.flatMap wr).take n := by
        rw [List.take_append, List.take_of_length_le (by rw [numB_len]; omega), numB_len]
        rfl
      rw [e, tk_get (valB_1 _ (by omega) (by omega))]
      dsimp only
      rw [Int.toNat_natCast]
      exact mn_torn h hst l [] n hl.2 (by omega)
  · unfold mny
    rw [tk_short (by show 0 < 1; omega), if_neg hf]
    exact mn_dead _ _ f hf
end
end Go.Proofs.YtohdfcnjcpjdcaaDoor
