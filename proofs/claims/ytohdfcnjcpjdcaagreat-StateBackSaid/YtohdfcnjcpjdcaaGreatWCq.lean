/- What is written is read again; torn, it is a fault 5: in plain words. Conditions: as each law states them. -/
import Derived.Test.YtohdfcnjcpjdcaaGreatWBq
import Derived.Test.YtohdfcnjcpjdcaaGreatEAq
namespace Go.Proofs.YtohdfcnjcpjdcaaGreat
/-- what a writer writes a reader reads; of what is torn it tells the fault 5; a fault stays -/
structure RW {α : Type} (rd : RS → α × RS) (wr : α → List UInt8) (ok : α → Prop) : Prop where
  get : ∀ x r, ok x → rd ⟨wr x ++ r, 0⟩ = (x, ⟨r, 0⟩)
  torn : ∀ x n, ok x → n < (wr x).length → (rd ⟨(wr x).take n, 0⟩).2 = ⟨[], 5⟩
  dead : ∀ f, f ≠ 0 → (rd ⟨[], f⟩).2 = ⟨[], f⟩
theorem tk_get {k : Nat} {x : Int} (hv : valB (numB x k) = x) (r : List UInt8) (f : Int) : tk k ⟨numB x k ++ r, f⟩ = (x, ⟨r, f⟩) := by
  unfold tk
  have h1 : ¬ (numB x k ++ r).length < k := by rw [List.length_append, numB_len]; omega
  rw [if_neg h1]
  have e1 : (numB x k ++ r).take k = numB x k := by
    have := List.take_left (l₁ := numB x k) (l₂ := r)
    rw [numB_len] at this
    exact this
  have e2 : (numB x k ++ r).drop k = r := by
    have := List.drop_left (l₁ := numB x k) (l₂ := r)
    rw [numB_len] at this
    exact this
  show (valB ((numB x k ++ r).take k), (⟨(numB x k ++ r).drop k, f⟩ : RS)) = _
  rw [e1, e2, hv]
theorem tk_short {k : Nat} {l : List UInt8} (h : l.length < k) (f : Int) : tk k ⟨l, f⟩ = (0, ⟨[], if f = 0 then 5 else f⟩) := by
  unfold tk
  rw [if_pos h]
theorem valB_3 (n : Int) (h0 : 0 ≤ n) (h1 : n < 16777216) : valB (numB n 3) = n := by
  simp only [numB, valB, valFrom, byteOf_val]
  omega
theorem rw_tk (k : Nat) (M : Int) (hk : 1 ≤ k) (hv : ∀ n, 0 ≤ n → n < M → valB (numB n k) = n) : RW (tk k) (fun n => numB n k) (fun n => 0 ≤ n ∧ n < M) :=
  ⟨fun x r h => tk_get (hv x h.1 h.2) r 0, fun x n _ hn => by
    rw [numB_len] at hn
    rw [tk_short (by rw [List.length_take, numB_len]; omega)]
    rfl, fun f hf => by rw [tk_short (by show 0 < k; omega), if_neg hf]⟩
theorem rw_tx : RW tx txB (fun t => t.size < 256) := by
  have hv : ∀ t : ByteArray, t.size < 256 → valB (numB (t.size : Int) 1) = (t.size : Int) := fun t h => valB_1 _ (by omega) (by omega)
  have hl : ∀ t : ByteArray, t.data.toList.length = t.size := fun t => by rw [Array.length_toList]; rfl
  refine ⟨fun t r h => ?_, fun t n h hn => ?_, fun f hf => ?_⟩
  · unfold tx txB
    rw [List.append_assoc, tk_get (hv t h)]
    dsimp only
    have hlen : ¬ (((t.data.toList ++ r).length : Nat) : Int) < (t.size : Int) := by rw [List.length_append, hl]; omega
    rw [if_neg hlen]
    have e1 : (t.data.toList ++ r).take (t.size : Int).toNat = t.data.toList := by
      rw [Int.toNat_natCast, ← hl t]
      exact List.take_left
    have e2 : (t.data.toList ++ r).drop (t.size : Int).toNat = r := by
      rw [Int.toNat_natCast, ← hl t]
      exact List.drop_left
    rw [e1, e2]
  · rw [txB_len] at hn
    unfold tx txB
    cases n with
    | zero =>
      rw [List.take_zero, tk_short (by show 0 < 1; omega)]
      simp
    | succ n =>
      have e : (numB (t.size : Int) 1 ++ t.data.toList).take (n + 1) = numB (t.size : Int) 1 ++ t.data.toList.take n := by
        rw [List.take_append, List.take_of_length_le (by rw [numB_len]; omega), numB_len]
        rfl
      rw [e, tk_get (hv t h)]
      dsimp only
      have hlt : (((t.data.toList.take n).length : Nat) : Int) < (t.size : Int) := by rw [List.length_take, hl]; omega
      rw [if_pos hlt]
      rw [tk_short (by rw [Int.toNat_natCast]; omega)]
      rfl
  · unfold tx
    rw [tk_short (by show 0 < 1; omega), if_neg hf]
    simp
theorem rw_bt : RW bt btB (fun _ => True) := by
  refine ⟨fun b r _ => ?_, fun b n _ hn => ?_, fun f hf => ?_⟩
  · unfold bt btB
    cases b with
    | false => rw [show (if false = true then (1 : Int) else 0) = 0 from rfl, tk_get (valB_1 0 (by omega) (by omega))]; rfl
    | true => rw [show (if true = true then (1 : Int) else 0) = 1 from rfl, tk_get (valB_1 1 (by omega) (by omega))]; rfl
  · rw [btB_len] at hn
    obtain rfl : n = 0 := by omega
    unfold bt
    rw [List.take_zero, tk_short (by show 0 < 1; omega)]
    rfl
  · unfold bt
    rw [tk_short (by show 0 < 1; omega), if_neg hf]
    rfl
/-- one behind the other -/
def sq2 {α β : Type} (r1 : RS → α × RS) (r2 : RS → β × RS) (s : RS) : (α × β) × RS := (((r1 s).1, (r2 (r1 s).2).1), (r2 (r1 s).2).2)
theorem RW.seq {α β : Type} {r1 : RS → α × RS} {r2 : RS → β × RS} {w1 : α → List UInt8} {w2 : β → List UInt8} {o1 : α → Prop} {o2 : β → Prop} (h1 : RW r1 w1 o1) (h2 : RW r2 w2 o2) :
    RW (sq2 r1 r2) (fun p => w1 p.1 ++ w2 p.2) (fun p => o1 p.1 ∧ o2 p.2) := by
  refine ⟨fun x r h => ?_, fun x n h hn => ?_, fun f hf => ?_⟩
  · unfold sq2
    rw [List.append_assoc, h1.get _ _ h.1]
    dsimp only
    rw [h2.get _ _ h.2]
  · unfold sq2
    dsimp only at hn ⊢
    rw [List.length_append] at hn
    by_cases hl : n < (w1 x.1).length
    · rw [List.take_append_of_le_length (by omega), h1.torn _ _ h.1 hl]
      exact h2.dead 5 (by decide)
    · have e : (w1 x.1 ++ w2 x.2).take n = w1 x.1 ++ (w2 x.2).take (n - (w1 x.1).length) := by
        rw [List.take_append, List.take_of_length_le (by omega)]
      rw [e, h1.get _ _ h.1]
      exact h2.torn _ _ h.2 (by omega)
  · unfold sq2
    dsimp only
    rw [h1.dead f hf]
    exact h2.dead f hf
theorem RW.map {α β : Type} {r : RS → α × RS} {w : α → List UInt8} {o : α → Prop} (h : RW r w o) (f : α → β) (g : β → α) {rd : RS → β × RS} {wr : β → List UInt8} {ok : β → Prop} (hr : ∀ s, rd s = (f (r s).1, (r s).2)) (hw : ∀ y, wr y = w (g y)) (hf : ∀ y, f (g y) = y) (ho : ∀ y, ok y → o (g y)) : RW rd wr ok := by
  refine ⟨fun y q hy => ?_, fun y n hy hn => ?_, fun e he => ?_⟩
  · rw [hr, hw, h.get _ _ (ho y hy), hf]
  · rw [hr, hw]
    rw [hw] at hn
    exact h.torn _ _ (ho y hy) hn
  · rw [hr]
    exact h.dead e he
theorem mn_dead {α : Type} {st : α → RS → α × RS} : ∀ (n : Nat) (a : α) (f : Int), f ≠ 0 → (mn st n a ⟨[], f⟩).2 = ⟨[], f⟩
  | 0, _, _, _ => rfl
  | n + 1, a, f, hf => by
    rw [mn, if_neg (show ¬ (⟨[], f⟩ : RS).f = 0 from hf)]
section
variable {α : Type} {rd : RS → α × RS} {wr : α → List UInt8} {ok : α → Prop} {st : List α → RS → List α × RS}
theorem mn_get (h : RW rd wr ok) (hst : ∀ a s, st a s = (a ++ [(rd s).1], (rd s).2)) : ∀ (l a : List α) (r : List UInt8), (∀ x ∈ l, ok x) → mn st l.length a ⟨l.flatMap wr ++ r, 0⟩ = (a ++ l, ⟨r, 0⟩)
  | [], a, r, _ => by simp [mn]
  | x :: l, a, r, ho => by
    rw [List.length_cons, mn, if_pos (show (⟨(x :: l).flatMap wr ++ r, 0⟩ : RS).f = 0 from rfl), hst, List.flatMap_cons, List.append_assoc, h.get _ _ (ho x List.mem_cons_self)]
    dsimp only
    rw [mn_get h hst l _ r fun y hy => ho y (List.mem_cons_of_mem _ hy), List.append_assoc]
    rfl
theorem mn_torn (h : RW rd wr ok) (hst : ∀ a s, st a s = (a ++ [(rd s).1], (rd s).2)) : ∀ (l a : List α) (n : Nat), (∀ x ∈ l, ok x) → n < (l.flatMap wr).length → (mn st l.length a ⟨(l.flatMap wr).take n, 0⟩).2 = ⟨[], 5⟩
  | [], a, n, _, hn => absurd hn (by simp)
  | x :: l, a, n, ho, hn => by
    rw [List.length_cons, mn, if_pos (show (⟨((x :: l).flatMap wr).take n, 0⟩ : RS).f = 0 from rfl), hst]
    rw [List.flatMap_cons] at hn ⊢
    rw [List.length_append] at hn
    dsimp only
    by_cases hl : n < (wr x).length
    · rw [List.take_append_of_le_length (by omega), h.torn _ _ (ho x List.mem_cons_self) hl]
      exact mn_dead _ _ 5 (by decide)
    · have e : (wr x ++ l.flatMap wr).take n = wr x ++ (l.flatMap wr).take (n - (wr x).length) := by
        rw [List.take_append, List.take_of_length_le (by omega)]
      rw [e, h.get _ _ (ho x List.mem_cons_self)]
      dsimp only
      exact mn_torn h hst l _ _ (fun y hy => ho y (List.mem_cons_of_mem _ hy)) (by omega)
theorem rw_mny (h : RW rd wr ok) (hst : ∀ a s, st a s = (a ++ [(rd s).1], (rd s).2)) : RW (mny st []) (fun l => numB (l.length : Int) 1 ++ l.flatMap wr) (fun l => l.length < 256 ∧ ∀ x ∈ l, ok x) := by
  refine ⟨fun l r hl => ?_, fun l n hl hn => ?_, fun f hf => ?_⟩
  · unfold mny
    rw [List.append_assoc, tk_get (valB_1 _ (by omega) (by omega))]
    dsimp only
    rw [Int.toNat_natCast, mn_get h hst l [] r hl.2]
    rfl
  · unfold mny
    rw [List.length_append, numB_len] at hn
    cases n with
    | zero =>
      rw [List.take_zero, tk_short (by show 0 < 1; omega)]
      rfl
    | succ n =>
      have e : (numB (l.length : Int) 1 ++ l.flatMap wr).take (n + 1) = numB (l.length : Int) 1 ++ (l.flatMap wr).take n := by
        rw [List.take_append, List.take_of_length_le (by rw [numB_len]; omega), numB_len]
        rfl
      rw [e, tk_get (valB_1 _ (by omega) (by omega))]
      dsimp only
      rw [Int.toNat_natCast]
      exact mn_torn h hst l [] n hl.2 (by omega)
  · unfold mny
    rw [tk_short (by show 0 < 1; omega), if_neg hf]
    exact mn_dead _ _ f hf
end
end Go.Proofs.YtohdfcnjcpjdcaaGreat
/- States are read as they were written. Conditions: as each law states them. -/
namespace Go.Proofs.YtohdfcnjcpjdcaaGreat
theorem rw_its : RW its itB (fun l => l.length < 256 ∧ ∀ z ∈ l, 0 ≤ z ∧ z < 256) := rw_mny (rw_tk 1 256 (by omega) valB_1) fun _ _ => rfl
def okRl (y : Rul) : Prop := y.pre.size < 256 ∧ (0 ≤ y.freeze + 1 ∧ y.freeze + 1 < 4294967296) ∧ (0 ≤ y.drop + 1 ∧ y.drop + 1 < 4294967296)
theorem rw_rl : RW rl ruB okRl :=
  (RW.seq rw_tx (RW.seq (rw_tk 4 4294967296 (by omega) valB_4) ((rw_tk 4 4294967296 (by omega) valB_4)))).map (fun p => (⟨p.1, p.2.1 - 1, p.2.2 - 1⟩ : Rul)) (fun y => (y.pre, (y.freeze + 1, y.drop + 1)))
    (by intro s; simp only [sq2, rl]) (by intro y; simp only [ruB]) (by intro y; simp only [Int.add_sub_cancel]) (by intro y h; exact h)
def okPt (y : Prt) : Prop := (0 ≤ y.n ∧ y.n < 256) ∧ (0 ≤ y.size ∧ y.size < 65536) ∧ (y.secs.length < 256 ∧ ∀ z ∈ y.secs, 0 ≤ z ∧ z < 256)
theorem rw_pt : RW pt ptB okPt :=
  (RW.seq (rw_tk 1 256 (by omega) valB_1) (RW.seq (rw_tk 2 65536 (by omega) valB_2) (rw_its))).map (fun p => (⟨p.1, p.2.1, p.2.2⟩ : Prt)) (fun y => (y.n, (y.size, y.secs)))
    (by intro s; simp only [sq2, pt, pt1, pt2, pt3]) (by intro y; simp only [ptB]) (by intro y; rfl) (by intro y h; exact h)
def okAk (y : Ask) : Prop := (0 ≤ y.ver ∧ y.ver < 16777216) ∧ (0 ≤ y.days ∧ y.days < 65536) ∧ (0 ≤ y.cls ∧ y.cls < 256)
theorem rw_ak : RW ak akB okAk :=
  (RW.seq (rw_tk 3 16777216 (by omega) valB_3) (RW.seq (rw_tk 2 65536 (by omega) valB_2) ((rw_tk 1 256 (by omega) valB_1)))).map (fun p => (⟨p.1, p.2.1, p.2.2⟩ : Ask)) (fun y => (y.ver, (y.days, y.cls)))
    (by intro s; simp only [sq2, ak, ak1, ak2, ak3]) (by intro y; simp only [akB]) (by intro y; rfl) (by intro y h; exact h)
def okVr (y : Ver) : Prop := (0 ≤ y.id ∧ y.id < 16777216) ∧ y.bucket.size < 256 ∧ y.key.size < 256 ∧ True ∧ True ∧ (0 ≤ y.size ∧ y.size < 65536) ∧ (0 ≤ y.time ∧ y.time < 4294967296) ∧ (0 ≤ y.tier ∧ y.tier < 256) ∧ (y.secs.length < 256 ∧ ∀ z ∈ y.secs, 0 ≤ z ∧ z < 256) ∧ (0 ≤ y.vol ∧ y.vol < 256) ∧ (0 ≤ y.at_ ∧ y.at_ < 65536) ∧ (0 ≤ y.till ∧ y.till < 4294967296)
theorem rw_vr : RW vr vrB okVr :=
  (RW.seq (rw_tk 3 16777216 (by omega) valB_3) (RW.seq rw_tx (RW.seq rw_tx (RW.seq rw_bt (RW.seq rw_bt (RW.seq (rw_tk 2 65536 (by omega) valB_2) (RW.seq (rw_tk 4 4294967296 (by omega) valB_4) (RW.seq (rw_tk 1 256 (by omega) valB_1) (RW.seq rw_its (RW.seq (rw_tk 1 256 (by omega) valB_1) (RW.seq (rw_tk 2 65536 (by omega) valB_2) ((rw_tk 4 4294967296 (by omega) valB_4))))))))))))).map (fun p => (⟨p.1, p.2.1, p.2.2.1, p.2.2.2.1, p.2.2.2.2.1, p.2.2.2.2.2.1, p.2.2.2.2.2.2.1, p.2.2.2.2.2.2.2.1, p.2.2.2.2.2.2.2.2.1, p.2.2.2.2.2.2.2.2.2.1, p.2.2.2.2.2.2.2.2.2.2.1, p.2.2.2.2.2.2.2.2.2.2.2⟩ : Ver)) (fun y => (y.id, (y.bucket, (y.key, (y.null, (y.marker, (y.size, (y.time, (y.tier, (y.secs, (y.vol, (y.at_, y.till))))))))))))
    (by intro s; simp only [sq2, vr, vr1, vr2, vr3, vr4, vr5, vr6, vr7, vr8, vr9, vr10, vr11, vr12]) (by intro y; simp only [vrB]) (by intro y; rfl) (by intro y h; exact h)
def okBk (y : Bkt) : Prop := y.name.size < 256 ∧ (0 ≤ y.mode ∧ y.mode < 256) ∧ okRl y.rule
theorem rw_bk : RW bk bkB okBk :=
  (RW.seq rw_tx (RW.seq (rw_tk 1 256 (by omega) valB_1) (rw_rl))).map (fun p => (⟨p.1, p.2.1, p.2.2⟩ : Bkt)) (fun y => (y.name, (y.mode, y.rule)))
    (by intro s; simp only [sq2, bk]) (by intro y; simp only [bkB]) (by intro y; rfl) (by intro y h; exact h)
def okUp (y : Upl) : Prop := (0 ≤ y.id ∧ y.id < 16777216) ∧ y.bucket.size < 256 ∧ y.key.size < 256 ∧ (y.parts.length < 256 ∧ ∀ z ∈ y.parts, okPt z)
theorem rw_up : RW up upB okUp :=
  (RW.seq (rw_tk 3 16777216 (by omega) valB_3) (RW.seq rw_tx (RW.seq rw_tx ((rw_mny (st := stP) rw_pt (fun _ _ => rfl)))))).map (fun p => (⟨p.1, p.2.1, p.2.2.1, p.2.2.2⟩ : Upl)) (fun y => (y.id, (y.bucket, (y.key, y.parts))))
    (by intro s; simp only [sq2, up, up1, up2, up3, up4]) (by intro y; simp only [upB]) (by intro y; rfl) (by intro y h; exact h)
def dcR (s : RS) : Sta × RS := (dcS s, (dc7 s).2)
def staB' (s : Sta) : List UInt8 := numB s.next 3 ++ (numB s.clock 4 ++ ((numB (s.bkts.length : Int) 1 ++ s.bkts.flatMap bkB) ++ ((numB (s.vers.length : Int) 1 ++ s.vers.flatMap vrB) ++ ((numB (s.upls.length : Int) 1 ++ s.upls.flatMap upB) ++ ((numB (s.queue.length : Int) 1 ++ s.queue.flatMap akB) ++ itB s.gone)))))
theorem staB_eq (s : Sta) : staB s = staB' s := by simp only [staB, staB', List.append_assoc]
def okSta (y : Sta) : Prop := (0 ≤ y.next ∧ y.next < 16777216) ∧ (0 ≤ y.clock ∧ y.clock < 4294967296) ∧ (y.bkts.length < 256 ∧ ∀ z ∈ y.bkts, okBk z) ∧ (y.vers.length < 256 ∧ ∀ z ∈ y.vers, okVr z) ∧ (y.upls.length < 256 ∧ ∀ z ∈ y.upls, okUp z) ∧ (y.queue.length < 256 ∧ ∀ z ∈ y.queue, okAk z) ∧ (y.gone.length < 256 ∧ ∀ z ∈ y.gone, 0 ≤ z ∧ z < 256)
theorem rw_dc : RW dcR staB' okSta :=
  (RW.seq (rw_tk 3 16777216 (by omega) valB_3) (RW.seq (rw_tk 4 4294967296 (by omega) valB_4) (RW.seq (rw_mny (st := stB) rw_bk (fun _ _ => rfl)) (RW.seq (rw_mny (st := stV) rw_vr (fun _ _ => rfl)) (RW.seq (rw_mny (st := stU) rw_up (fun _ _ => rfl)) (RW.seq (rw_mny (st := stA) rw_ak (fun _ _ => rfl)) (rw_its))))))).map (fun p => (⟨p.1, p.2.1, p.2.2.1, p.2.2.2.1, p.2.2.2.2.1, p.2.2.2.2.2.1, p.2.2.2.2.2.2⟩ : Sta)) (fun y => (y.next, (y.clock, (y.bkts, (y.vers, (y.upls, (y.queue, y.gone)))))))
    (by intro s; simp only [sq2, dcR, dcS, dc1, dc2, dc3, dc4, dc5, dc6, dc7]) (by intro y; simp only [staB']) (by intro y; rfl) (by intro y h; exact h)
theorem dec_back {s : Sta} (ho : okSta s) (he : errSt s = 0) : decS (staB s) = (s, 0) := by
  have h := rw_dc.get s [] ho
  rw [List.append_nil, ← staB_eq] at h
  unfold dcR at h
  rw [Prod.mk.injEq] at h
  obtain ⟨h1, h2⟩ := h
  have h3 : dcE ⟨staB s, 0⟩ = 0 := by
    unfold dcE
    rw [h2, h1]
    exact he
  unfold decS
  rw [if_pos h3, h1]
theorem dec_more {s : Sta} (ho : okSta s) (b : UInt8) : (decS (staB s ++ [b])).2 = 4 := by
  have h := rw_dc.get s [b] ho
  rw [← staB_eq] at h
  unfold dcR at h
  rw [Prod.mk.injEq] at h
  obtain ⟨_, h2⟩ := h
  have h3 : dcE ⟨staB s ++ [b], 0⟩ = 4 := by
    unfold dcE
    rw [h2]
    rfl
  unfold decS
  rw [if_neg (by rw [h3]; decide), h3]
theorem dec_torn {s : Sta} (ho : okSta s) {n : Nat} (hn : n < (staB s).length) : (decS ((staB s).take n)).2 = 5 := by
  rw [staB_eq] at hn ⊢
  have h2 := rw_dc.torn s n ho hn
  unfold dcR at h2
  dsimp only at h2
  have h3 : dcE ⟨(staB' s).take n, 0⟩ = 5 := by
    unfold dcE
    rw [h2]
    rfl
  unfold decS
  rw [if_neg (by rw [h3]; decide), h3]
end Go.Proofs.YtohdfcnjcpjdcaaGreat
/- A state that may be fits into its bytes. Conditions: as each law states them. -/
namespace Go.Proofs.YtohdfcnjcpjdcaaGreat
theorem okBk_of {s : Sta} (h : bktsB s.bkts = true) {b : Bkt} (hb : b ∈ s.bkts) : okBk b := by
  obtain ⟨h1, _⟩ := Bool.and_eq_true_iff.1 h
  obtain ⟨i, hi⟩ := List.getElem?_of_mem hb
  have h2 := chain_at h1 hi
  unfold bktBad bktOut at h2
  simp only [Bool.or_eq_false_iff, Bool.not_eq_false', decide_eq_true_eq, decide_eq_false_iff_not] at h2
  obtain ⟨⟨⟨⟨q1, m1⟩, m2⟩, q2⟩, _⟩ := h2
  have n1 := name_size q1
  unfold rulErr at q2
  split at q2
  · exact absurd q2 (by decide)
  rename_i r1
  split at q2
  · exact absurd q2 (by decide)
  split at q2
  · exact absurd q2 (by decide)
  rename_i r3
  unfold rulOut at r3
  simp only [decide_eq_true_eq] at r1
  simp only [Bool.or_eq_true, decide_eq_true_eq, not_or] at r3
  unfold okBk okRl
  omega
theorem secs_in {l : List Int} {u : List Int} (h : Fr u l) : ∀ z ∈ l, 0 ≤ z ∧ z < 256 := fun z hz => by
  have := (h.1 z hz).1
  unfold offSec at this
  simp only [Bool.or_eq_false_iff, decide_eq_false_iff_not] at this
  omega
theorem good_ok {s : Sta} (h : Good s) : okSta s := by
  have hS := good_small h
  have hbl : s.bkts.length ≤ 4 := by
    obtain ⟨_, q⟩ := Bool.and_eq_true_iff.1 h.bkts
    have := of_decide_eq_true q
    omega
  have hin : ∀ t, bktIn s t = true → t.size < 256 := fun t ht => by
    obtain ⟨b, hb, rfl⟩ := (bktIn_iff h.bkts).1 ht
    exact (okBk_of h.bkts hb).1
  have n1 := h.n1
  have n2 := h.n2
  have c1 := h.c1
  have c2 := h.c2
  have hvl := h.vlen
  have hul := h.ulen
  have hql := h.queue.len
  have hgl := gone_len h.gone
  have hfr := secs_in h.fr
  have hid : ∀ v ∈ s.vers, 0 ≤ v.id ∧ v.id < 16777216 := fun v hv => by
    have h1 := (h.snd v hv).1
    unfold verOut at h1
    simp only [Bool.or_eq_false_iff, Bool.not_eq_false', decide_eq_true_eq, decide_eq_false_iff_not] at h1
    omega
  have hvs : ∀ v ∈ s.vers, ∀ z ∈ v.secs, 0 ≤ z ∧ z < 256 := fun v hv z hz => hfr z (List.mem_append_left _ (by
    unfold secsV
    exact List.mem_flatMap.2 ⟨v, hv, hz⟩))
  have hus : ∀ v ∈ s.upls, ∀ p ∈ v.parts, ∀ z ∈ p.secs, 0 ≤ z ∧ z < 256 := fun v hv p hp z hz => hfr z (List.mem_append_right _ (by
    unfold secsU
    refine List.mem_flatMap.2 ⟨v, hv, ?_⟩
    unfold secsP
    exact List.mem_flatMap.2 ⟨p, hp, hz⟩))
  refine ⟨by omega, by omega, ⟨by omega, fun b hb => okBk_of h.bkts hb⟩, ⟨by omega, fun v hv => ?_⟩, ⟨by omega, fun v hv => ?_⟩, ⟨by omega, fun a ha => ?_⟩, ⟨by omega, fun z hz => ?_⟩⟩
  · obtain ⟨h1, h2⟩ := h.snd v hv
    have hsl := (hS.v v hv).1
    unfold verOut at h1
    simp only [Bool.or_eq_false_iff, Bool.not_eq_false', decide_eq_true_eq, decide_eq_false_iff_not] at h1
    obtain ⟨⟨⟨⟨⟨q1, q2⟩, _⟩, _⟩, _⟩, _⟩ := h1
    have m1 := name_size q2
    have hb := hin _ q1
    have hi := hid v hv
    refine ⟨hi, hb, by omega, trivial, trivial, ?_⟩
    rcases h2 with ⟨_, hm⟩ | ⟨_, s0, s1, ht⟩
    · unfold markB at hm
      simp only [Bool.and_eq_true, decide_eq_true_eq] at hm
      exact ⟨by omega, by omega, by omega, ⟨by omega, hvs v hv⟩, by omega, by omega, by omega⟩
    · have hsc := secsOf_600 s0 s1
      rcases ht with ⟨t1, t2, e⟩ | ⟨t1, t2, t3, e⟩ | ⟨t1, t2, t3, t4, e⟩
      · unfold hotNone at t2
        simp only [Bool.and_eq_true, decide_eq_true_eq] at t2
        exact ⟨by omega, by omega, by omega, ⟨by omega, hvs v hv⟩, by omega, by omega, by omega⟩
      · unfold taped onTape at t2
        simp only [Bool.and_eq_true, decide_eq_true_eq] at t2
        exact ⟨by omega, by omega, by omega, ⟨by rw [e]; simp, hvs v hv⟩, by omega, by omega, by omega⟩
      · unfold taped onTape at t2
        simp only [Bool.and_eq_true, decide_eq_true_eq] at t2
        exact ⟨by omega, by omega, by omega, ⟨by omega, hvs v hv⟩, by omega, by omega, by omega⟩
  · have h1 := h.out v hv
    unfold uplOut at h1
    simp only [Bool.or_eq_false_iff, Bool.not_eq_false', decide_eq_true_eq, decide_eq_false_iff_not] at h1
    obtain ⟨⟨⟨q1, q2⟩, q3⟩, q4⟩ := h1
    have m1 := name_size q2
    have hb := hin _ q1
    obtain ⟨p1, p2⟩ := h.prt v hv
    have hpl := (hS.u v hv).2.2.1
    refine ⟨by omega, hb, by omega, by omega, fun p hp => ?_⟩
    obtain ⟨a1, a2⟩ := p1 p hp
    unfold prtOut at a1
    simp only [Bool.or_eq_false_iff, decide_eq_false_iff_not] at a1
    obtain ⟨⟨⟨b1, b2⟩, b3⟩, b4⟩ := a1
    have := secsOf_600 (n := p.size) (by omega) (by omega)
    exact ⟨by omega, by omega, by omega, hus v hv p hp⟩
  · have h1 := h.queue.out a ha
    unfold askOut at h1
    simp only [Bool.or_eq_false_iff, Bool.not_eq_false', decide_eq_true_eq, decide_eq_false_iff_not] at h1
    obtain ⟨⟨⟨⟨⟨q1, _⟩, q2⟩, q3⟩, q4⟩, q5⟩ := h1
    obtain ⟨x, hx, e'⟩ := ver_hit q1
    have hm := List.mem_of_getElem? hx
    have hi := hid x hm
    exact ⟨by omega, by omega, by omega⟩
  · obtain ⟨i, hi⟩ := List.getElem?_of_mem hz
    have h2 := chain_at (show chain goneBad none s.gone = true from h.gone) hi
    unfold goneBad at h2
    simp only [Bool.or_eq_false_iff, decide_eq_false_iff_not] at h2
    omega
theorem err_ok {s : Sta} (h : errSt s = 0) : okSta s := by
  refine good_ok (okSt_good.1 ?_)
  unfold errSt at h
  split at h
  · assumption
  · exact absurd h (by decide)
end Go.Proofs.YtohdfcnjcpjdcaaGreat
/- Two readings of one list, or state, are told the same. Conditions: as each law states them. -/
namespace Go.Proofs.YtohdfcnjcpjdcaaGreat
open Go.RowKit
set_option linter.unusedSimpArgs false
section
variable {P : Program} {E : Env} {σ : St} {o : Oper}
/-- two bools, compared -/
theorem booleq_does {ty t2 : TypeId} {x y : Operand} {xv yv : SV} {a b : Bool} (ho : o.op = .binOp .eql ty x y t2) (ht : P.underlying ty = some .bool) (hx : ev σ x = some xv) (hxv : xv.den = .bool a) (hy : ev σ y = some yv) (hyv : yv.den = .bool b) (hd : dOk E o.dst) :
    Does P E σ o (fun σ' => σ' = σ.put o.dst (.c (.v (.bool (a == b))))) := by
  intro ac w Q next hr hn
  have hx' : ac.eval x = .bool a := (ev_den hr.see hx).trans hxv
  have hy' : ac.eval y = .bool b := (ev_den hr.see hy).trans hyv
  have he : (Op.equal ty (.bool a) (.bool b)).run P w = .ok (a == b) w := run_equalIn_bool' w _ ty a b ht
  have hb : (binOp .eql ty (.bool a) (.bool b)).run P w = .ok (.bool (a == b)) w := by
    simp only [binOp]
    rw [Sem.run_bind, he]
    rfl
  have hg : (eqGuard .eql ty x y (.bool a) (.bool b)).run P w = .ok () w := by
    unfold eqGuard
    rfl
  have hrun : (execOp ac.eval o).run P w = .ok (.value (.bool (a == b))) w := by
    unfold execOp
    simp only [ho, hx', hy', hg, hb, Sem.run_bind, Sem.run_pure, Result.andThen_ok]
  exact wp_of_value hrun (hn _ _ _ rfl (hr.put o.dst (.c (.v _)) (dOk_lt hd)))
theorem wgX_do {rec_ : Cmd → St → Prop} {k : Cont} {ops : Array Oper} {rest : List Oper} {ctx : List Bool} {z : Option (Prop × SC)} (hz : z = none) (hs : stepO P o σ = .no) (hc : ctx.all id = true) (h : Ok E σ (wpList P ops (k.den P) (o :: rest))) : WgX P E rec_ k ops rest o σ ctx z := by
  rw [hz]
  refine ⟨fun _ => ?_, fun q => by rw [hc] at q; cases q⟩
  rw [hs]
  exact h
end
set_option maxRecDepth 100000 in
set_option maxHeartbeats 8000000 in
theorem sameInts_does {av bv : Value} {l : List Int} {G0 : GW} (hW : G0.Wf) (ha : IntsG G0 av l) (hb : IntsG G0 bv l) :
    Calls Tryz.prog 55 #[av, bv] G0.w (Ret G0 fun y _ => y = .bool true) := by
  obtain ⟨A, c, rfl, hc1, hc2⟩ := Sq.form ha
  obtain ⟨B, d, rfl, hd1, hd2⟩ := Sq.form hb
  have hml := max_le
  refine enterS (G := G0) (n := 26) 3000 hW Tryz.func55 rfl Tryz.ntmps55 (by simp) ?_
  simp only [go_sem, simprocAttr]
  refine loop_ok (N := 3000) (ι := Nat) (fun i => ⟨[(0, .c (.v (.slice A l.length c))), (1, .c (.v (.slice B l.length d))), (12, .c (.v (.int .i64 (l.length : Int)))), (13, .c (.v (.int .i64 (i : Int))))], [], [], [], [G0], 0⟩)
    (fun i => i ≤ l.length) (fun i => l.length - i) (QOk_body _ _ _) 0 (Nat.zero_le _) (by simp only [go_sem, simprocAttr]; simp) ?_
  rintro i hi
  by_cases hlt : i < l.length
  · have q : decide ((i : Int) < (l.length : Int)) = true := decide_eq_true (by omega)
    obtain ⟨x, hx⟩ : ∃ x, l[i]? = some x := ⟨_, List.getElem?_eq_getElem hlt⟩
    simp only [go_sem, simprocAttr, q]
    refine preview_ok (R := IntG) (kc := 1) hx (fun G hG => (Sq.mono ha intG_mono (hG G0 (by simp))).sc) fun g1 o1 cs1 G1 hA hcl1 hcs1 hle1 => ?_
    subst hA
    obtain rfl := hcs1
    simp only [go_sem, simprocAttr]
    refine preview_ok (R := IntG) (kc := 1) hx (fun G hG => (Sq.mono hb intG_mono (hG G0 (by simp))).sc) fun g2 o2 cs2 G2 hB hcl2 hcs2 hle2 => ?_
    subst hB
    obtain rfl := hcs2
    refine draw_ok (N := 3000) (.take 0 (.take 1 (.take 2 (.take 3 (.take 4 (.take 5 (.take 6 (.take 7 (.take 8 .done))))))))) [] (QOk_body _ _ _) follows_mixed (by kernel_rfl) (by kernel_rfl) ?_
    simp only [go_sem, simprocAttr]
    refine take_elem 0 (m := i) rfl tySlice28 tySize3 rfl rfl (dk rfl) rfl hlt ?_
    simp only [go_sem, simprocAttr]
    refine take_elem 1 (m := i) rfl tySlice28 tySize3 rfl rfl (dk rfl) rfl hlt ?_
    simp only [go_sem, simprocAttr]
    exact ⟨by omega, again_ok (i + 1) hlt (by show l.length - (i + 1) < l.length - i; omega) (by simp only [go_sem, simprocAttr]; simp)⟩
  · have q : decide ((i : Int) < (l.length : Int)) = false := decide_eq_false (by omega)
    simp only [go_sem, simprocAttr, q]
    refine fin_ret (G := G0) Tryz.results55 ?_
    simp only [go_sem, simprocAttr]
    intro aa w' _ hle
    rfl
set_option maxRecDepth 100000 in
set_option maxHeartbeats 8000000 in
theorem samePart_does {x : Prt} {av bv : Value} {G0 : GW} (hW : G0.Wf) (ha : IntsG G0 av x.secs) (hb : IntsG G0 bv x.secs) :
    Calls Tryz.prog 57 #[.agg #[.int .i64 x.n, .int .i64 x.size, av], .agg #[.int .i64 x.n, .int .i64 x.size, bv]] G0.w (Ret G0 fun y _ => y = .bool true) := by
  obtain ⟨A, c, rfl, hc1, hc2⟩ := Sq.form ha
  obtain ⟨B, d, rfl, hd1, hd2⟩ := Sq.form hb
  have hml := max_le
  refine enterS (G := G0) (n := 24) 3000 hW Tryz.func57 rfl Tryz.ntmps57 (by simp) ?_
  simp only [go_sem, simprocAttr]
  intro g1 g2
  refine plain_ok (N := 3000) (call_does (fun y _ => y = .bool true) rfl rfl (by kernel_rfl) rfl (dk rfl) (fun G hG => sameInts_does hG.wf (ha.mono (hG.le G0 (by simp))) (hb.mono (hG.le G0 (by simp))))) (QOk_body _ _ _) (by first | exact .inl rfl | exact .inr ⟨_, _, rfl, rfl⟩) ?_
  rintro _ ⟨_, G1, rfl, hn1, rfl⟩
  clear hn1
  simp only [go_sem, simprocAttr]
  refine fin_ret (G := G0) Tryz.results57 ?_
  simp only [go_sem, simprocAttr]
  intro aa w' _ hle
  rfl
set_option maxRecDepth 100000 in
set_option maxHeartbeats 8000000 in
theorem sameVersion_does {x : Ver} {av bv : Value} {G0 : GW} (hW : G0.Wf) (ha : IntsG G0 av x.secs) (hb : IntsG G0 bv x.secs) :
    Calls Tryz.prog 56 #[.agg (verV x av).toArray, .agg (verV x bv).toArray] G0.w (Ret G0 fun y _ => y = .bool true) := by
  obtain ⟨A, c, rfl, hc1, hc2⟩ := Sq.form ha
  obtain ⟨B, d, rfl, hd1, hd2⟩ := Sq.form hb
  have hml := max_le
  refine enterS (G := G0) (n := 87) 3000 hW Tryz.func56 rfl Tryz.ntmps56 (by simp) ?_
  simp only [go_sem, simprocAttr, verV]
  intro g1 g2
  simp only [go_sem, simprocAttr, List.append_eq, List.cons_append, List.nil_append]
  refine wgX_do rfl rfl rfl ?_
  refine plain_ok (N := 3000) (booleq_does (a := x.null) (b := x.null) rfl Tryz.underlying4 rfl rfl rfl rfl (dk rfl)) (QOk_body _ _ _) (by first | exact .inl rfl | exact .inr ⟨_, _, rfl, rfl⟩) ?_
  rintro _ rfl
  simp only [go_sem, simprocAttr, List.append_eq, List.cons_append, List.nil_append, beq_self_eq_true]
  refine wgX_do rfl rfl rfl ?_
  refine plain_ok (N := 3000) (booleq_does (a := x.marker) (b := x.marker) rfl Tryz.underlying4 rfl rfl rfl rfl (dk rfl)) (QOk_body _ _ _) (by first | exact .inl rfl | exact .inr ⟨_, _, rfl, rfl⟩) ?_
  rintro _ rfl
  simp only [go_sem, simprocAttr, List.append_eq, List.cons_append, List.nil_append, beq_self_eq_true]
  refine plain_ok (N := 3000) (call_does (fun y _ => y = .bool true) rfl rfl (by kernel_rfl) rfl (dk rfl) (fun G hG => sameInts_does hG.wf (ha.mono (hG.le G0 (by simp))) (hb.mono (hG.le G0 (by simp))))) (QOk_body _ _ _) (by first | exact .inl rfl | exact .inr ⟨_, _, rfl, rfl⟩) ?_
  rintro _ ⟨_, G1, rfl, hn1, rfl⟩
  clear hn1
  simp only [go_sem, simprocAttr]
  refine fin_ret (G := G0) Tryz.results56 ?_
  simp only [go_sem, simprocAttr]
  intro aa w' _ hle
  rfl
end Go.Proofs.YtohdfcnjcpjdcaaGreat
/- Two readings of one state are told the same. Conditions: as each law states them. -/
namespace Go.Proofs.YtohdfcnjcpjdcaaGreat
open Go.RowKit
set_option linter.unusedSimpArgs false
/-- two structs, compared, taken first -/
theorem take_neq {P : Program} {E : Env} {σ : St} {o : Oper} {rec_ : Cmd → St → Prop} {dr : Dr} {q : Nat} {p : Plan} {ty t2 : TypeId} {x y : Operand} {vx vy : SV} {r : Bool} (ho : o.op = .binOp .neq ty x y t2) (hx : ev σ x = some vx) (hy : ev σ y = some vy)
    (hg : ∀ w, (eqGuard .neq ty x y vx.den vy.den).run P w = .ok () w) (hb : ∀ w, (binOp .neq ty vx.den vy.den).run P w = .ok (.bool r) w) (hd : dOk E o.dst) (h : rec_ (dr.next q p) (σ.put o.dst (.c (.v (.bool r))))) : TakeStop P E rec_ dr q p o σ := by
  refine ⟨.c (.v (.bool r)), hd, fun a w hr => ?_, h⟩
  have hx' : a.eval x = vx.den := ev_den hr hx
  have hy' : a.eval y = vy.den := ev_den hr hy
  show (execOp a.eval o).run P w = .ok (.value (.bool r)) w
  unfold execOp
  simp only [ho, hx', hy', hg, hb, Sem.run_bind, Sem.run_pure, Result.andThen_ok]
theorem eqF_cons {P : Program} {w : World} (d : Nat) (xs ys : Array Value) (f : Field) (fs : List Field) {x y : Value} {b : Bool} (hn : f.name ≠ "_") (hx : ∀ w, (part f.type xs f.offset).run P w = .ok x w) (hy : ∀ w, (part f.type ys f.offset).run P w = .ok y w) (he : ∀ w, (Op.equalIn d f.type x y).run P w = .ok b w) :
    (Op.eqFields d xs ys (f :: fs)).run P w = if b then (Op.eqFields d xs ys fs).run P w else .ok false w := by
  simp only [Op.eqFields, Sem.run_bind, Sem.run_ite, if_pos hn, hx, hy, he, Result.andThen_ok]
  cases b <;> simp
def rulA (a : Rul) : Value := .agg #[.string a.pre, .int .i64 a.freeze, .int .i64 a.drop]
def bktA (a : Bkt) : Value := .agg #[.string a.name, .int .i64 a.mode, .string a.rule.pre, .int .i64 a.rule.freeze, .int .i64 a.rule.drop]
def askQ (a : Ask) : Value := .agg #[.int .i64 a.ver, .int .i64 a.days, .int .i64 a.cls]
theorem field3 {L : List Field} {p q r : TypeId × Nat × Bool} (hm : L.map (fun f => (f.type, f.offset, decide (f.name = "_"))) = [p, q, r]) : ∃ f0 f1 f2, L = [f0, f1, f2] := by
  rcases L with _ | ⟨f0, _ | ⟨f1, _ | ⟨f2, _ | ⟨f3, L⟩⟩⟩⟩
  · cases hm
  · simp at hm
  · simp at hm
  · exact ⟨_, _, _, rfl⟩
  · simp at hm
theorem rul_fields : (Tryz.prog.fieldsOf 40).toList.map (fun f => (f.type, f.offset, decide (f.name = "_"))) = [(9, 0, false), (3, 1, false), (3, 2, false)] := by kernel_rfl
theorem rul_eq_run (a b : Rul) (w : World) : (Op.equalIn 9999 40 (rulA a) (rulA b)).run Tryz.prog w = .ok ((a.pre.toList == b.pre.toList) && ((a.freeze == b.freeze) && (a.drop == b.drop))) w := by
  unfold rulA
  rw [run_equalIn_agg w 9998 40 _ _ (by kernel_rfl) (by kernel_rfl)]
  have hi : ∀ (x y : Int) w, (Op.equalIn 9998 3 (.int .i64 x) (.int .i64 y)).run Tryz.prog w = .ok (x == y) w := fun x y w => run_equalIn_int w 9997 3 .i64 .i64 x y (by kernel_rfl)
  have hs : ∀ (x y : ByteArray) w, (Op.equalIn 9998 9 (.string x) (.string y)).run Tryz.prog w = .ok (x.toList == y.toList) w := fun x y w => run_equalIn_string w 9997 9 x y (by kernel_rfl)
  have hm := rul_fields
  generalize (Tryz.prog.fieldsOf 40).toList = L at hm ⊢
  obtain ⟨f0, f1, f2, rfl⟩ := field3 hm
  simp only [List.map_cons, List.map_nil, List.cons.injEq, Prod.mk.injEq, decide_eq_false_iff_not, and_true] at hm
  obtain ⟨⟨t0, o0, n0⟩, ⟨t1, o1, n1⟩, ⟨t2, o2, n2⟩⟩ := hm
  rw [eqF_cons 9998 _ _ f0 _ (x := .string a.pre) (y := .string b.pre) (b := (a.pre.toList == b.pre.toList)) n0 (fun w => by rw [t0, o0]; kernel_rfl) (fun w => by rw [t0, o0]; kernel_rfl) (fun w => by rw [t0]; exact hs _ _ w)]
  rw [eqF_cons 9998 _ _ f1 _ (x := .int .i64 a.freeze) (y := .int .i64 b.freeze) (b := (a.freeze == b.freeze)) n1 (fun w => by rw [t1, o1]; kernel_rfl) (fun w => by rw [t1, o1]; kernel_rfl) (fun w => by rw [t1]; exact hi _ _ w)]
  rw [eqF_cons 9998 _ _ f2 _ (x := .int .i64 a.drop) (y := .int .i64 b.drop) (b := (a.drop == b.drop)) n2 (fun w => by rw [t2, o2]; kernel_rfl) (fun w => by rw [t2, o2]; kernel_rfl) (fun w => by rw [t2]; exact hi _ _ w)]
  cases (a.pre.toList == b.pre.toList) <;> cases (a.freeze == b.freeze) <;> cases (a.drop == b.drop) <;> simp [Op.eqFields]
theorem bkt_fields : (Tryz.prog.fieldsOf 42).toList.map (fun f => (f.type, f.offset, decide (f.name = "_"))) = [(9, 0, false), (3, 1, false), (40, 2, false)] := by kernel_rfl
theorem bkt_eq_run (a b : Bkt) (w : World) : (Op.equalIn 10000 42 (bktA a) (bktA b)).run Tryz.prog w = .ok ((a.name.toList == b.name.toList) && ((a.mode == b.mode) && ((a.rule.pre.toList == b.rule.pre.toList) && ((a.rule.freeze == b.rule.freeze) && (a.rule.drop == b.rule.drop))))) w := by
  unfold bktA
  rw [run_equalIn_agg w 9999 42 _ _ (by kernel_rfl) (by kernel_rfl)]
  have hi : ∀ (x y : Int) w, (Op.equalIn 9999 3 (.int .i64 x) (.int .i64 y)).run Tryz.prog w = .ok (x == y) w := fun x y w => run_equalIn_int w 9998 3 .i64 .i64 x y (by kernel_rfl)
  have hs : ∀ (x y : ByteArray) w, (Op.equalIn 9999 9 (.string x) (.string y)).run Tryz.prog w = .ok (x.toList == y.toList) w := fun x y w => run_equalIn_string w 9998 9 x y (by kernel_rfl)
  have hm := bkt_fields
  generalize (Tryz.prog.fieldsOf 42).toList = L at hm ⊢
  obtain ⟨f0, f1, f2, rfl⟩ := field3 hm
  simp only [List.map_cons, List.map_nil, List.cons.injEq, Prod.mk.injEq, decide_eq_false_iff_not, and_true] at hm
  obtain ⟨⟨t0, o0, n0⟩, ⟨t1, o1, n1⟩, ⟨t2, o2, n2⟩⟩ := hm
  rw [eqF_cons 9999 _ _ f0 _ (x := .string a.name) (y := .string b.name) (b := (a.name.toList == b.name.toList)) n0 (fun w => by rw [t0, o0]; kernel_rfl) (fun w => by rw [t0, o0]; kernel_rfl) (fun w => by rw [t0]; exact hs _ _ w)]
  rw [eqF_cons 9999 _ _ f1 _ (x := .int .i64 a.mode) (y := .int .i64 b.mode) (b := (a.mode == b.mode)) n1 (fun w => by rw [t1, o1]; kernel_rfl) (fun w => by rw [t1, o1]; kernel_rfl) (fun w => by rw [t1]; exact hi _ _ w)]
  rw [eqF_cons 9999 _ _ f2 _ (x := rulA a.rule) (y := rulA b.rule) (b := ((a.rule.pre.toList == b.rule.pre.toList) && ((a.rule.freeze == b.rule.freeze) && (a.rule.drop == b.rule.drop)))) n2 (fun w => by rw [t2, o2]; kernel_rfl) (fun w => by rw [t2, o2]; kernel_rfl) (fun w => by rw [t2]; exact rul_eq_run _ _ w)]
  cases (a.name.toList == b.name.toList) <;> cases (a.mode == b.mode) <;> cases ((a.rule.pre.toList == b.rule.pre.toList) && ((a.rule.freeze == b.rule.freeze) && (a.rule.drop == b.rule.drop))) <;> simp [Op.eqFields]
theorem askQ_fields : (Tryz.prog.fieldsOf 68).toList.map (fun f => (f.type, f.offset, decide (f.name = "_"))) = [(3, 0, false), (3, 1, false), (3, 2, false)] := by kernel_rfl
theorem askQ_eq_run (a b : Ask) (w : World) : (Op.equalIn 10000 68 (askQ a) (askQ b)).run Tryz.prog w = .ok ((a.ver == b.ver) && ((a.days == b.days) && (a.cls == b.cls))) w := by
  unfold askQ
  rw [run_equalIn_agg w 9999 68 _ _ (by kernel_rfl) (by kernel_rfl)]
  have hi : ∀ (x y : Int) w, (Op.equalIn 9999 3 (.int .i64 x) (.int .i64 y)).run Tryz.prog w = .ok (x == y) w := fun x y w => run_equalIn_int w 9998 3 .i64 .i64 x y (by kernel_rfl)
  have hs : ∀ (x y : ByteArray) w, (Op.equalIn 9999 9 (.string x) (.string y)).run Tryz.prog w = .ok (x.toList == y.toList) w := fun x y w => run_equalIn_string w 9998 9 x y (by kernel_rfl)
  have hm := askQ_fields
  generalize (Tryz.prog.fieldsOf 68).toList = L at hm ⊢
  obtain ⟨f0, f1, f2, rfl⟩ := field3 hm
  simp only [List.map_cons, List.map_nil, List.cons.injEq, Prod.mk.injEq, decide_eq_false_iff_not, and_true] at hm
  obtain ⟨⟨t0, o0, n0⟩, ⟨t1, o1, n1⟩, ⟨t2, o2, n2⟩⟩ := hm
  rw [eqF_cons 9999 _ _ f0 _ (x := .int .i64 a.ver) (y := .int .i64 b.ver) (b := (a.ver == b.ver)) n0 (fun w => by rw [t0, o0]; kernel_rfl) (fun w => by rw [t0, o0]; kernel_rfl) (fun w => by rw [t0]; exact hi _ _ w)]
  rw [eqF_cons 9999 _ _ f1 _ (x := .int .i64 a.days) (y := .int .i64 b.days) (b := (a.days == b.days)) n1 (fun w => by rw [t1, o1]; kernel_rfl) (fun w => by rw [t1, o1]; kernel_rfl) (fun w => by rw [t1]; exact hi _ _ w)]
  rw [eqF_cons 9999 _ _ f2 _ (x := .int .i64 a.cls) (y := .int .i64 b.cls) (b := (a.cls == b.cls)) n2 (fun w => by rw [t2, o2]; kernel_rfl) (fun w => by rw [t2, o2]; kernel_rfl) (fun w => by rw [t2]; exact hi _ _ w)]
  cases (a.ver == b.ver) <;> cases (a.days == b.days) <;> cases (a.cls == b.cls) <;> simp [Op.eqFields]
theorem bkt_same (a : Bkt) (w : World) : (binOp .neq 42 (bktA a) (bktA a)).run Tryz.prog w = .ok (.bool false) w := by
  have h := bkt_eq_run a a w
  unfold bktA at h ⊢
  rw [run_neq_struct, h]
  simp
theorem bkt_guard (x y : Operand) (a : Bkt) (w : World) : (eqGuard .neq 42 x y (bktA a) (bktA a)).run Tryz.prog w = .ok () w := run_eqGuard_agg w .neq _ x y _ _ (by kernel_rfl)
theorem askQ_same (a : Ask) (w : World) : (binOp .neq 68 (askQ a) (askQ a)).run Tryz.prog w = .ok (.bool false) w := by
  have h := askQ_eq_run a a w
  unfold askQ at h ⊢
  rw [run_neq_struct, h]
  simp
theorem askQ_guard (x y : Operand) (a : Ask) (w : World) : (eqGuard .neq 68 x y (askQ a) (askQ a)).run Tryz.prog w = .ok () w := run_eqGuard_agg w .neq _ x y _ _ (by kernel_rfl)
set_option maxRecDepth 100000 in
set_option maxHeartbeats 16000000 in
theorem sameState_does {s : Sta} {av bv : Value} {G0 : GW} (hW : G0.Wf) (ha : StaG G0 av s) (hb : StaG G0 bv s) :
    Calls Tryz.prog 16 #[av, bv] G0.w (Ret G0 fun y _ => y = .bool true) := by
  obtain ⟨A1, c1, A2, c2, A3, c3, A4, c4, A5, c5, rfl, hP⟩ := ha.form
  obtain ⟨B1, d1, B2, d2, B3, d3, B4, d4, B5, d5, rfl, hQ⟩ := hb.form
  have hml := max_le
  obtain ⟨_, _, eb, hb1, hb2⟩ := Sq.form hP.bkts
  cases eb
  obtain ⟨_, _, ev, hv1, hv2⟩ := Sq.form hP.vers
  cases ev
  obtain ⟨_, _, eu, hu1, hu2⟩ := Sq.form hP.upls
  cases eu
  obtain ⟨_, _, eq, hq1, hq2⟩ := Sq.form hP.queue
  cases eq
  refine enterS (G := G0) (n := 187) 3000 hW Tryz.func16 rfl Tryz.ntmps16 (by simp) ?_
  simp only [go_sem, simprocAttr]
  intro g1 g2
  refine plain_ok (N := 3000) (call_does (fun y _ => y = .bool true) rfl rfl (by kernel_rfl) rfl (dk rfl) (fun G hG => sameInts_does hG.wf (hP.gone.mono (hG.le G0 (by simp))) (hQ.gone.mono (hG.le G0 (by simp))))) (QOk_body _ _ _) (by first | exact .inl rfl | exact .inr ⟨_, _, rfl, rfl⟩) ?_
  rintro _ ⟨_, G1, rfl, hn1, rfl⟩
  clear hn1
  simp only [go_sem, simprocAttr]
  refine loop_ok (N := 3000) (ι := Nat) (fun i => ⟨[(2, .c (.p 0 g1 0)), (3, .c (.p 1 g2 0)), (70, .c (.v (.int .i64 (s.bkts.length : Int)))), (71, .c (.v (.int .i64 (i : Int))))], [⟨1, g2, 30, [.v (.int .i64 s.next), .v (.int .i64 s.clock), .v (.slice B1 s.bkts.length d1), .v (.slice B2 s.vers.length d2), .v (.slice B3 s.upls.length d3), .v (.slice B4 s.queue.length d4), .v (.slice B5 s.gone.length d5)]⟩, ⟨0, g1, 30, [.v (.int .i64 s.next), .v (.int .i64 s.clock), .v (.slice A1 s.bkts.length c1), .v (.slice A2 s.vers.length c2), .v (.slice A3 s.upls.length c3), .v (.slice A4 s.queue.length c4), .v (.slice A5 s.gone.length c5)]⟩], [], [], [G0], 2⟩)
    (fun i => i ≤ s.bkts.length) (fun i => s.bkts.length - i) (QOk_body _ _ _) 0 (Nat.zero_le _) (by simp only [go_sem, simprocAttr]; simp) ?_
  rintro i1 hi1
  by_cases hlt1 : i1 < s.bkts.length
  · have q : decide ((i1 : Int) < (s.bkts.length : Int)) = true := decide_eq_true (by omega)
    obtain ⟨x, hx⟩ : ∃ x, s.bkts[i1]? = some x := ⟨_, List.getElem?_eq_getElem hlt1⟩
    simp only [go_sem, simprocAttr, q]
    refine preview_ok (R := BktG) (kc := 5) hx (fun G hG => (Sq.mono hP.bkts bktG_mono (hG G0 (by simp))).sc) fun h1 o1 cs1 G1 hA hcl1 hcs1 hle1 => ?_
    subst hA
    obtain ⟨rfl, _, _⟩ := hcs1
    simp only [go_sem, simprocAttr]
    refine preview_ok (R := BktG) (kc := 5) hx (fun G hG => (Sq.mono hQ.bkts bktG_mono (hG G0 (by simp))).sc) fun h2 o2 cs2 G2 hB hcl2 hcs2 hle2 => ?_
    subst hB
    obtain ⟨rfl, _, _⟩ := hcs2
    simp only [go_sem, simprocAttr]
    refine draw_ok (N := 3000) (.take 0 (.take 1 (.take 2 (.take 3 (.take 4 (.take 5 (.take 6 (.take 7 (.take 8 (.take 9 (.take 10 .done))))))))))) [] (QOk_body _ _ _) follows_mixed (by kernel_rfl) (by kernel_rfl) ?_
    simp only [go_sem, simprocAttr]
    refine take_elem 2 (m := i1) rfl tySlice24 tySize42 rfl rfl (dk rfl) rfl hlt1 ?_
    simp only [go_sem, simprocAttr]
    refine take_elem 3 (m := i1) rfl tySlice24 tySize42 rfl rfl (dk rfl) rfl hlt1 ?_
    simp only [go_sem, simprocAttr]
    refine (show TakeStop _ _ _ _ _ _ _ _ from ?_)
    refine take_neq (vx := .a [.v (.string x.name), .v (.int .i64 x.mode), .v (.string x.rule.pre), .v (.int .i64 x.rule.freeze), .v (.int .i64 x.rule.drop)]) (vy := .a [.v (.string x.name), .v (.int .i64 x.mode), .v (.string x.rule.pre), .v (.int .i64 x.rule.freeze), .v (.int .i64 x.rule.drop)]) (r := false) rfl rfl rfl (fun w => bkt_guard _ _ x w) (fun w => bkt_same x w) (dk rfl) ?_
    simp only [go_sem, simprocAttr]
    exact ⟨by omega, again_ok (i1 + 1) hlt1 (by show s.bkts.length - (i1 + 1) < s.bkts.length - i1; omega) (by simp only [go_sem, simprocAttr]; simp)⟩
  have q1 : decide ((i1 : Int) < (s.bkts.length : Int)) = false := decide_eq_false (by omega)
  simp only [go_sem, simprocAttr, q1]
  refine loop_ok (N := 3000) (ι := Nat) (fun i => ⟨[(2, .c (.p 0 g1 0)), (3, .c (.p 1 g2 0)), (88, .c (.v (.int .i64 (s.vers.length : Int)))), (89, .c (.v (.int .i64 (i : Int))))], [⟨1, g2, 30, [.v (.int .i64 s.next), .v (.int .i64 s.clock), .v (.slice B1 s.bkts.length d1), .v (.slice B2 s.vers.length d2), .v (.slice B3 s.upls.length d3), .v (.slice B4 s.queue.length d4), .v (.slice B5 s.gone.length d5)]⟩, ⟨0, g1, 30, [.v (.int .i64 s.next), .v (.int .i64 s.clock), .v (.slice A1 s.bkts.length c1), .v (.slice A2 s.vers.length c2), .v (.slice A3 s.upls.length c3), .v (.slice A4 s.queue.length c4), .v (.slice A5 s.gone.length c5)]⟩], [], [], [G0], 2⟩)
    (fun i => i ≤ s.vers.length) (fun i => s.vers.length - i) (QOk_body _ _ _) 0 (Nat.zero_le _) (by simp only [go_sem, simprocAttr]; simp) ?_
  rintro i2 hi2
  by_cases hlt2 : i2 < s.vers.length
  · have q : decide ((i2 : Int) < (s.vers.length : Int)) = true := decide_eq_true (by omega)
    obtain ⟨x, hx⟩ : ∃ x, s.vers[i2]? = some x := ⟨_, List.getElem?_eq_getElem hlt2⟩
    simp only [go_sem, simprocAttr, q]
    refine preview_ok (R := VerG) (kc := 12) hx (fun G hG => (Sq.mono hP.vers verG_mono (hG G0 (by simp))).sc) fun h1 o1 cs1 G1 hA hcl1 hcs1 hle1 => ?_
    subst hA
    obtain ⟨sv1, rfl, hs1, _, _⟩ := hcs1
    simp only [go_sem, simprocAttr]
    refine preview_ok (R := VerG) (kc := 12) hx (fun G hG => (Sq.mono hQ.vers verG_mono (hG G0 (by simp))).sc) fun h2 o2 cs2 G2 hB hcl2 hcs2 hle2 => ?_
    subst hB
    obtain ⟨sv2, rfl, hs2, _, _⟩ := hcs2
    simp only [go_sem, simprocAttr]
    obtain ⟨S1, e1, rfl, _, _⟩ := Sq.form hs1
    obtain ⟨S2, e2, rfl, _, _⟩ := Sq.form hs2
    refine draw_ok (N := 3000) (.take 0 (.take 1 (.take 2 (.take 3 (.take 4 (.take 5 (.take 6 (.take 7 (.take 8 (.take 9 (.alt 10 (.take 11 .done) .last))))))))))) [] (QOk_body _ _ _) follows_mixed (by kernel_rfl) (by kernel_rfl) ?_
    simp only [go_sem, simprocAttr, verV]
    refine take_elem 2 (m := i2) rfl tySlice25 tySize38 rfl rfl (dk rfl) rfl hlt2 ?_
    simp only [go_sem, simprocAttr]
    refine take_elem 3 (m := i2) rfl tySlice25 tySize38 rfl rfl (dk rfl) rfl hlt2 ?_
    simp only [go_sem, simprocAttr]
    refine anyc_ok (N := 3000) (call_does (fun y _ => y = .bool true) rfl rfl (by kernel_rfl) rfl (dk rfl) (fun G hG => sameVersion_does hG.wf (hs1.mono (hG.le G1 (by simp))) (hs2.mono (hG.le G2 (by simp))))) (QOk_body _ _ _) rfl (by first | exact .inl rfl | exact .inr ⟨_, _, rfl, rfl⟩) ?_
    rintro _ ⟨_, G3, rfl, hn3, rfl⟩
    clear hn3
    simp only [go_sem, simprocAttr]
    exact ⟨by omega, again_ok (i2 + 1) hlt2 (by show s.vers.length - (i2 + 1) < s.vers.length - i2; omega) (by simp only [go_sem, simprocAttr]; simp)⟩
  have q2 : decide ((i2 : Int) < (s.vers.length : Int)) = false := decide_eq_false (by omega)
  simp only [go_sem, simprocAttr, q2]
  refine loop_ok (N := 3000) (ι := Nat) (fun i => ⟨[(2, .c (.p 0 g1 0)), (3, .c (.p 1 g2 0)), (107, .c (.v (.int .i64 (s.upls.length : Int)))), (108, .c (.v (.int .i64 (i : Int))))], [⟨1, g2, 30, [.v (.int .i64 s.next), .v (.int .i64 s.clock), .v (.slice B1 s.bkts.length d1), .v (.slice B2 s.vers.length d2), .v (.slice B3 s.upls.length d3), .v (.slice B4 s.queue.length d4), .v (.slice B5 s.gone.length d5)]⟩, ⟨0, g1, 30, [.v (.int .i64 s.next), .v (.int .i64 s.clock), .v (.slice A1 s.bkts.length c1), .v (.slice A2 s.vers.length c2), .v (.slice A3 s.upls.length c3), .v (.slice A4 s.queue.length c4), .v (.slice A5 s.gone.length c5)]⟩], [], [], [G0], 2⟩)
    (fun i => i ≤ s.upls.length) (fun i => s.upls.length - i) (QOk_body _ _ _) 0 (Nat.zero_le _) (by simp only [go_sem, simprocAttr]; simp) ?_
  rintro i3 hi3
  by_cases hlt3 : i3 < s.upls.length
  · have q : decide ((i3 : Int) < (s.upls.length : Int)) = true := decide_eq_true (by omega)
    obtain ⟨x, hx⟩ : ∃ x, s.upls[i3]? = some x := ⟨_, List.getElem?_eq_getElem hlt3⟩
    simp only [go_sem, simprocAttr, q]
    refine plain_ok (N := 3000) (elem_does (R := UplG) (l := s.upls) (m := i3) rfl tySlice26 tySize89 rfl rfl (dk rfl) rfl hx (fun G hG => Sq.mono hP.upls uplG_mono (hG.le G0 (by simp)))) (QOk_body _ _ _) (by first | exact .inl rfl | exact .inr ⟨_, _, rfl, rfl⟩) ?_
    rintro _ ⟨gx1, ox1, cs1, GE1, hcl1, hcs1, rfl⟩
    obtain ⟨pv1, rfl, hp1, _, _⟩ := hcs1
    obtain ⟨P1, k1, rfl, _⟩ := Sq.form hp1
    simp only [go_sem, simprocAttr]
    intro gu1
    refine plain_ok (N := 3000) (elem_does (R := UplG) (l := s.upls) (m := i3) rfl tySlice26 tySize89 rfl rfl (dk rfl) rfl hx (fun G hG => Sq.mono hQ.upls uplG_mono (hG.le G0 (by simp)))) (QOk_body _ _ _) (by first | exact .inl rfl | exact .inr ⟨_, _, rfl, rfl⟩) ?_
    rintro _ ⟨gx2, ox2, cs2, GE2, hcl2, hcs2, rfl⟩
    obtain ⟨pv2, rfl, hp2, _, _⟩ := hcs2
    obtain ⟨P2, k2, rfl, _⟩ := Sq.form hp2
    simp only [go_sem, simprocAttr]
    intro gu2
    obtain ⟨_, _, ep, hl1, hl2⟩ := Sq.form hp1
    cases ep
    refine loop_ok (N := 3000) (ι := Nat) (fun i => ⟨[(2, .c (.p 0 g1 0)), (3, .c (.p 1 g2 0)), (8, .c (.p 3 gu1 0)), (9, .c (.p 5 gu2 0)), (107, .c (.v (.int .i64 (s.upls.length : Int)))), (108, .c (.v (.int .i64 (i3 : Int)))), (151, .c (.v (.int .i64 (x.parts.length : Int)))), (152, .c (.v (.int .i64 (i : Int))))], [⟨5, gu2, 89, [.v (.int .i64 x.id), .v (.string x.bucket), .v (.string x.key), .v (.slice P2 x.parts.length k2)]⟩, ⟨3, gu1, 89, [.v (.int .i64 x.id), .v (.string x.bucket), .v (.string x.key), .v (.slice P1 x.parts.length k1)]⟩, ⟨1, g2, 30, [.v (.int .i64 s.next), .v (.int .i64 s.clock), .v (.slice B1 s.bkts.length d1), .v (.slice B2 s.vers.length d2), .v (.slice B3 s.upls.length d3), .v (.slice B4 s.queue.length d4), .v (.slice B5 s.gone.length d5)]⟩, ⟨0, g1, 30, [.v (.int .i64 s.next), .v (.int .i64 s.clock), .v (.slice A1 s.bkts.length c1), .v (.slice A2 s.vers.length c2), .v (.slice A3 s.upls.length c3), .v (.slice A4 s.queue.length c4), .v (.slice A5 s.gone.length c5)]⟩], [], [], [GE2, GE1, G0], 6⟩)
      (fun i => i ≤ x.parts.length) (fun i => x.parts.length - i) (QOk_body _ _ _) 0 (Nat.zero_le _) (by simp only [go_sem, simprocAttr]; simp) ?_
    rintro i4 hi4
    by_cases hlt4 : i4 < x.parts.length
    · have q : decide ((i4 : Int) < (x.parts.length : Int)) = true := decide_eq_true (by omega)
      obtain ⟨y, hy⟩ : ∃ y, x.parts[i4]? = some y := ⟨_, List.getElem?_eq_getElem hlt4⟩
      simp only [go_sem, simprocAttr, q]
      refine preview_ok (R := PrtG) (kc := 3) hy (fun G hG => (Sq.mono hp1 prtG_mono (hG GE1 (by simp))).sc) fun h1 o1 cs1 G1 hA hcl1 hcs1 hle1 => ?_
      subst hA
      obtain ⟨sv1, rfl, hs1⟩ := hcs1
      simp only [go_sem, simprocAttr]
      refine preview_ok (R := PrtG) (kc := 3) hy (fun G hG => (Sq.mono hp2 prtG_mono (hG GE2 (by simp))).sc) fun h2 o2 cs2 G2 hB hcl2 hcs2 hle2 => ?_
      subst hB
      obtain ⟨sv2, rfl, hs2⟩ := hcs2
      simp only [go_sem, simprocAttr]
      obtain ⟨S1, e1, rfl, _, _⟩ := Sq.form hs1
      obtain ⟨S2, e2, rfl, _, _⟩ := Sq.form hs2
      refine draw_ok (N := 3000) (.take 0 (.take 1 (.take 2 (.take 3 (.take 4 (.take 5 (.take 6 (.take 7 (.take 8 (.take 9 (.alt 10 (.take 11 .done) .last))))))))))) [] (QOk_body _ _ _) follows_mixed (by kernel_rfl) (by kernel_rfl) ?_
      simp only [go_sem, simprocAttr]
      refine take_elem 6 (m := i4) rfl tySlice87 tySize70 rfl rfl (dk rfl) rfl hlt4 ?_
      simp only [go_sem, simprocAttr]
      refine take_elem 7 (m := i4) rfl tySlice87 tySize70 rfl rfl (dk rfl) rfl hlt4 ?_
      simp only [go_sem, simprocAttr]
      refine anyc_ok (N := 3000) (call_does (fun y _ => y = .bool true) rfl rfl (by kernel_rfl) rfl (dk rfl) (fun G hG => samePart_does hG.wf (hs1.mono (hG.le G1 (by simp))) (hs2.mono (hG.le G2 (by simp))))) (QOk_body _ _ _) rfl (by first | exact .inl rfl | exact .inr ⟨_, _, rfl, rfl⟩) ?_
      rintro _ ⟨_, G3, rfl, hn3, rfl⟩
      clear hn3
      simp only [go_sem, simprocAttr]
      exact ⟨by omega, again_ok (i4 + 1) hlt4 (by show x.parts.length - (i4 + 1) < x.parts.length - i4; omega) (by simp only [go_sem, simprocAttr]; simp)⟩
    have q4 : decide ((i4 : Int) < (x.parts.length : Int)) = false := decide_eq_false (by omega)
    simp only [go_sem, simprocAttr, q4]
    exact ⟨by omega, again_ok (i3 + 1) hlt3 (by show s.upls.length - (i3 + 1) < s.upls.length - i3; omega) (by simp only [go_sem, simprocAttr]; simp)⟩
  have q3 : decide ((i3 : Int) < (s.upls.length : Int)) = false := decide_eq_false (by omega)
  simp only [go_sem, simprocAttr, q3]
  refine loop_ok (N := 3000) (ι := Nat) (fun i => ⟨[(2, .c (.p 0 g1 0)), (3, .c (.p 1 g2 0)), (171, .c (.v (.int .i64 (s.queue.length : Int)))), (172, .c (.v (.int .i64 (i : Int))))], [⟨1, g2, 30, [.v (.int .i64 s.next), .v (.int .i64 s.clock), .v (.slice B1 s.bkts.length d1), .v (.slice B2 s.vers.length d2), .v (.slice B3 s.upls.length d3), .v (.slice B4 s.queue.length d4), .v (.slice B5 s.gone.length d5)]⟩, ⟨0, g1, 30, [.v (.int .i64 s.next), .v (.int .i64 s.clock), .v (.slice A1 s.bkts.length c1), .v (.slice A2 s.vers.length c2), .v (.slice A3 s.upls.length c3), .v (.slice A4 s.queue.length c4), .v (.slice A5 s.gone.length c5)]⟩], [], [], [G0], 2⟩)
    (fun i => i ≤ s.queue.length) (fun i => s.queue.length - i) (QOk_body _ _ _) 0 (Nat.zero_le _) (by simp only [go_sem, simprocAttr]; simp) ?_
  rintro i5 hi5
  by_cases hlt5 : i5 < s.queue.length
  · have q : decide ((i5 : Int) < (s.queue.length : Int)) = true := decide_eq_true (by omega)
    obtain ⟨x, hx⟩ : ∃ x, s.queue[i5]? = some x := ⟨_, List.getElem?_eq_getElem hlt5⟩
    simp only [go_sem, simprocAttr, q]
    refine preview_ok (R := AskG) (kc := 3) hx (fun G hG => (Sq.mono hP.queue askG_mono (hG G0 (by simp))).sc) fun h1 o1 cs1 G1 hA hcl1 hcs1 hle1 => ?_
    subst hA
    obtain rfl := hcs1
    simp only [go_sem, simprocAttr]
    refine preview_ok (R := AskG) (kc := 3) hx (fun G hG => (Sq.mono hQ.queue askG_mono (hG G0 (by simp))).sc) fun h2 o2 cs2 G2 hB hcl2 hcs2 hle2 => ?_
    subst hB
    obtain rfl := hcs2
    simp only [go_sem, simprocAttr]
    refine draw_ok (N := 3000) (.take 0 (.take 1 (.take 2 (.take 3 (.take 4 (.take 5 (.take 6 (.take 7 (.take 8 (.take 9 (.take 10 .done))))))))))) [] (QOk_body _ _ _) follows_mixed (by kernel_rfl) (by kernel_rfl) ?_
    simp only [go_sem, simprocAttr]
    refine take_elem 2 (m := i5) rfl tySlice27 tySize68 rfl rfl (dk rfl) rfl hlt5 ?_
    simp only [go_sem, simprocAttr]
    refine take_elem 3 (m := i5) rfl tySlice27 tySize68 rfl rfl (dk rfl) rfl hlt5 ?_
    simp only [go_sem, simprocAttr]
    refine (show TakeStop _ _ _ _ _ _ _ _ from ?_)
    refine take_neq (vx := .a [.v (.int .i64 x.ver), .v (.int .i64 x.days), .v (.int .i64 x.cls)]) (vy := .a [.v (.int .i64 x.ver), .v (.int .i64 x.days), .v (.int .i64 x.cls)]) (r := false) rfl rfl rfl (fun w => askQ_guard _ _ x w) (fun w => askQ_same x w) (dk rfl) ?_
    simp only [go_sem, simprocAttr]
    exact ⟨by omega, again_ok (i5 + 1) hlt5 (by show s.queue.length - (i5 + 1) < s.queue.length - i5; omega) (by simp only [go_sem, simprocAttr]; simp)⟩
  have q5 : decide ((i5 : Int) < (s.queue.length : Int)) = false := decide_eq_false (by omega)
  simp only [go_sem, simprocAttr, q5]
  refine fin_ret (G := G0) Tryz.results16 ?_
  simp only [go_sem, simprocAttr]
  intro aa w' _ hle
  rfl
end Go.Proofs.YtohdfcnjcpjdcaaGreat
/- A state's bytes are not many; the first so many of a slice of bytes. Conditions: as each law states them. -/
namespace Go.Proofs.YtohdfcnjcpjdcaaGreat
open Go.RowKit
set_option linter.unusedSimpArgs false
theorem flatMap_le {α : Type} {f : α → List UInt8} {K : Nat} : ∀ l : List α, (∀ x ∈ l, (f x).length ≤ K) → (l.flatMap f).length ≤ l.length * K
  | [], _ => by simp
  | x :: l, h => by
    have h1 := flatMap_le l (fun y hy => h y (List.mem_cons_of_mem _ hy))
    have h2 := h x (List.mem_cons_self ..)
    rw [List.flatMap_cons, List.length_append, List.length_cons, Nat.add_mul]
    omega
theorem staB_len {s : Sta} (h : Small s) : (staB s).length ≤ 1000000 := by
  have h1 := flatMap_le (f := bkB) (K := 2011) s.bkts (fun x hx => by
    have := h.b x hx
    simp only [bkB, List.length_append, numB_len, txB_len, ruB_len]
    omega)
  have h2 := flatMap_le (f := vrB) (K := 3022) s.vers (fun x hx => by
    have := h.v x hx
    rw [vrB_len]
    omega)
  have h3 := flatMap_le (f := upB) (K := 22086) s.upls (fun x hx => by
    obtain ⟨a1, a2, a3, a4⟩ := h.u x hx
    have := flatMap_le (f := ptB) (K := 1004) x.parts (fun p hp => by
      have := a4 p hp
      rw [ptB_len]
      omega)
    simp only [upB, List.length_append, numB_len, txB_len]
    omega)
  have h4 := flatMap_le (f := akB) (K := 6) s.queue (fun x _ => by rw [akB_len]; omega)
  have e1 := h.bl
  have e2 := h.vl
  have e3 := h.ul
  have e4 := h.ql
  have e5 := h.gl
  simp only [staB, List.length_append, numB_len, itB_len]
  omega
section
variable {P : Program} {E : Env} {σ : St} {o : Oper}
theorem run_append_nil_sc (w : World) (t ty e : TypeId) (i : TypeInfo) (z : Value) (size bytes : Nat) (ht : P.underlying t = some (.slice e)) (hi : P.info? e = some i) (hz : i.zero = some z)
    (hsize : i.size = size) (hby : i.bytes = bytes) (hzs : z.cells.size = size) (A : Option Addr) (m c : Nat) (news : List Value) (hl : news.length = m * size)
    (hA : 0 < m → ∃ a, A = some a ∧ ∀ j u, news[j]? = some u → w.cell? (a.add j) = some u) (h63 : m ≤ maxLen) (hbytes : m * bytes ≤ 140737488355328) :
    ∃ A' c' w', (Builtin.append_ #[t, t] ty #[.slice none 0 0, .slice A m c]).run P w = .ok (.slice A' m c') w' ∧ RowIs w' ⟨.slice A' m c', e, size, m, news⟩ ∧ w.grownBy w' (rb (.slice none 0 0)) ∧
      ∀ g, rb (.slice A' m c') = some g → rb (.slice none 0 0) = some g ∨ w.heap.size ≤ g := by
  subst hsize
  subst hby
  by_cases hm : m = 0
  · subst hm
    have hn : news = [] := List.eq_nil_of_length_eq_zero (by simpa using hl)
    subst hn
    refine ⟨none, 0, w, ?_, .inl ⟨none, rfl, rfl, rfl⟩, World.grownBy.refl w _, fun g hg => .inl hg⟩
    cases A <;> simp [Builtin.append_, run_underlying ht, sizeOf, typeInfo, hi, Builtin.lenOf, Builtin.firstCells, loadCells, loadCellsFrom, storeCells]
  · obtain ⟨a, rfl, hnew⟩ := hA (by omega)
    have hrun := run_append_nil (P := P) w t ty e i z ht hi hz a m c news hl hnew (by omega) (by unfold maxLen at h63; omega) (by omega)
    have hge := grownCap_ge w m 0 e
    have hcm := grownCap_le_maxLen w m 0 e h63
    refine ⟨_, _, _, hrun, .inr (.inl ⟨hl, .inr ⟨w.heap.size, _, _, rfl, Nat.zero_le _, heap_alloc_new w.drew _, hge, hcm, ?_, ?_⟩⟩), ⟨rfl, rfl, rfl, by simp, fun k hk _ => Below.heap_alloc w.drew _ k hk⟩, fun g hg => .inr ?_⟩
    · simp only [Array.size_append, List.size_toArray, size_zeroCells, hzs, hl, ← Nat.add_mul]
      congr 1
      omega
    · simp only [Array.toList_append]
      rw [← hl]
      exact List.take_left
    · unfold rb at hg
      simp only at hg
      split at hg
      · cases hg
      · cases hg; exact Nat.le_refl _
/-- a new row from an argument's cells -/
theorem appendNil_does {s x : Operand} {t e kc by_ m cx : Nat} {Ax : Option Addr} {news : List Value} {R1 R2 : List Rw} (ho : o.op = .call ⟨.builtin .append, #[s, x], #[t, t]⟩) (ht : tSlice P t = some e) (ha : tApp P e = some (kc, by_))
    (hR : σ.rows = R1 ++ ⟨.slice none 0 0, e, kc, 0, []⟩ :: R2) (hs : ev σ s = some (.c (.v (.slice none 0 0)))) (hx : ev σ x = some (.c (.v (.slice Ax m cx)))) (hd : dOk E o.dst)
    (h63 : m ≤ maxLen) (hb : m * by_ ≤ 140737488355328) (hn : ∀ G : GW, Now E σ G → Sc G kc m (.slice Ax m cx) news) :
    Does P E σ o (fun σ' => ∃ A' c', σ' = (σ.rowsTo (R1 ++ ⟨.slice A' m c', e, kc, m, news⟩ :: R2)).put o.dst (.c (.v (.slice A' m c')))) := by
  intro a w Q next hr hnx
  obtain ⟨i, z, hi, hz, hk, hby, hzs, h0⟩ := tApp_spec ha
  have hs' : a.eval s = .slice none 0 0 := ev_den hr.see hs
  have hx' : a.eval x = .slice Ax m cx := ev_den hr.see hx
  obtain ⟨A1, c1, e1, q1, q2, q3, q4⟩ := hn _ hr.now
  cases e1
  obtain ⟨A', c', w', hrun, hown, hg, hat⟩ := run_append_nil_sc (P := P) w t o.type e i z kc by_ (tSlice_spec ht) hi hz hk hby hzs Ax m cx news q3 (fun hm => by
    obtain ⟨g, o', rfl, _, _, hcell⟩ := q4 hm
    refine ⟨_, rfl, fun j u hj => ?_⟩
    have hadd : (⟨g, o', none⟩ : Addr).add j = ⟨g, o' + j, none⟩ := by unfold Addr.add; split <;> simp_all
    rw [hadd]
    exact hcell j u hj) h63 hb
  unfold Oper.wp execOp
  simp only [ho, resolve, invoke, builtin, Sem.run_bind, Sem.run_pure, Result.andThen_ok, List.map_toArray, List.map_cons, List.map_nil, hs', hx', hrun]
  exact hnx _ _ _ ⟨A', c', rfl⟩ ((hr.grow (r' := ⟨.slice A' m c', e, kc, m, news⟩) hR hg hown hat).put o.dst (.c (.v (.slice A' m c'))) (dOk_lt hd))
end
end Go.Proofs.YtohdfcnjcpjdcaaGreat
/- 'icehousekeep.StateBack' returns true for whatever raw numbers, byte and place. Conditions: none. -/
namespace Go.Proofs.YtohdfcnjcpjdcaaGreat
open Go.RowKit
set_option linter.unusedSimpArgs false
theorem wfB_nonL (w : World) : GW.Wf ⟨Non, w⟩ := fun _ h => h.elim
theorem byte_of {n : Int} (h : (Lit.int .u8 n).wf = true) : ∃ b : UInt8, enc8 b = .int .u8 n := by
  have hm : 0 ≤ n ∧ n ≤ 255 := by
    simp [Lit.wf, IntKind.signed, IntKind.bits, IntKind.min, IntKind.max] at h
    omega
  refine ⟨UInt8.ofNat n.toNat, ?_⟩
  have e2 : ((UInt8.ofNat n.toNat).toNat : Int) = n := by
    rw [UInt8.toNat_ofNat']
    omega
  unfold enc8
  rw [e2]
set_option maxRecDepth 100000 in
set_option maxHeartbeats 16000000 in
theorem stateBack_ret {w : World} (v0 : Value) (l0 : List Raw) (h0 : RawsG ⟨Non, w⟩ v0 l0) (b : UInt8) (n : Int) (hn : i64 n) :
    Calls Tryz.prog 4 #[v0, enc8 b, .int .i64 n] w (Ret ⟨Non, w⟩ fun v _ => v = .bool true) := by
  have hml := max_le
  have hok := stateS_ok l0 40
  obtain ⟨A0, c0, rfl, _, _⟩ := ScR.form h0
  obtain ⟨bn, hbn⟩ : ∃ bn : Int, enc8 b = .int .u8 bn := ⟨_, rfl⟩
  rw [hbn]
  refine enterS (G := ⟨Non, w⟩) (n := 71) 3000 (wfB_nonL w) Tryz.func4 rfl Tryz.ntmps4 (by simp) ?_
  simp only [go_sem, simprocAttr]
  refine plain_ok (N := 3000) (call_does (fun v G => ∃ sv ov, v = .tuple #[sv, ov] ∧ StaG G sv (stateS l0 40).1 ∧ RecsG G ov (stateS l0 40).2) rfl rfl (by kernel_rfl) rfl (dk rfl) (fun G hG => state_does (most := 40) hG.wf (ScR.mono h0 rawG_mono (hG.le ⟨Non, w⟩ (by simp))) (by omega))) (QOk_body _ _ _) (by first | exact .inl rfl | exact .inr ⟨_, _, rfl, rfl⟩) ?_
  rintro _ ⟨_, G1, ⟨sv, ov, rfl, hs, ho⟩, hn1, rfl⟩
  clear hn1
  obtain ⟨A1, c1, A2, c2, A3, c3, A4, c4, A5, c5, rfl, hP⟩ := hs.form
  obtain ⟨Ao, co, rfl, _⟩ := Sq.form ho
  obtain ⟨s, hsd⟩ : ∃ s, s = (stateS l0 40).1 := ⟨_, rfl⟩
  obtain ⟨rs, hrd⟩ : ∃ rs, rs = (stateS l0 40).2 := ⟨_, rfl⟩
  rw [← hsd] at hok hP hs ⊢
  rw [← hrd] at ho ⊢
  clear hsd hrd
  have her : errSt s = 0 := by unfold errSt; rw [if_pos hok]
  have hst := err_ok her
  have hsl := staB_len (err_small her)
  have hbk := dec_back hst her
  have hmo := dec_more hst b
  have hto := fun n => dec_torn hst (n := n)
  have hen : encS s = (staB s, 0) := by unfold encS; rw [if_pos her]
  simp only [go_sem, simprocAttr]
  intro g1
  refine plain_ok (N := 3000) (call_does (fun y G => ∃ bv, y = .tuple #[bv, .int .i64 (encS s).2] ∧ ByG G bv (encS s).1) rfl rfl (by kernel_rfl) rfl (dk rfl) (fun G hG => encode_does hG.wf (hs.mono (hG.le G1 (by simp))) err_small)) (QOk_body _ _ _) (by first | exact .inl rfl | exact .inr ⟨_, _, rfl, rfl⟩) ?_
  rintro _ ⟨_, G2, ⟨bv, rfl, hbv⟩, hn2, rfl⟩
  clear hn2
  rw [hen] at hbv ⊢
  obtain ⟨l, hl⟩ : ∃ l, l = staB s := ⟨_, rfl⟩
  rw [← hl] at hsl hbk hmo hto hbv
  have hlp : 1 ≤ l.length := by rw [hl]; simp only [staB, List.length_append, numB_len]; omega
  clear hl hen
  obtain ⟨Ab, cb, rfl, hcb1, hcb2⟩ := hbv.form
  simp only [go_sem, simprocAttr]
  refine plain_ok (N := 3000) (call_does (fun y G => ∃ sv, y = .tuple #[sv, .int .i64 (decS l).2] ∧ StaG G sv (decS l).1) rfl rfl (by kernel_rfl) rfl (dk rfl) (fun G hG => decode_does hG.wf (hbv.mono (hG.le G2 (by simp))) (by omega))) (QOk_body _ _ _) (by first | exact .inl rfl | exact .inr ⟨_, _, rfl, rfl⟩) ?_
  rintro _ ⟨_, G3, ⟨tv, rfl, ht⟩, hn3, rfl⟩
  clear hn3
  rw [hbk] at ht ⊢
  obtain ⟨B1, d1, B2, d2, B3, d3, B4, d4, B5, d5, rfl, hQ⟩ := ht.form
  simp only [go_sem, simprocAttr]
  intro g2
  refine row_ok 5 1 ?_
  refine plain_ok (N := 3000) (appendNil_does (R1 := []) (R2 := []) (m := l.length) (news := l.map enc8) rfl tySlice44 tyApp5 rfl rfl rfl (dk rfl) (by unfold maxLen; omega) (by omega) (fun G hG => Sl.sc (hbv.mono (hG.le G2 (by simp [St.rowsTo]))))) (QOk_body _ _ _) (by first | exact .inl rfl | exact .inr ⟨_, _, rfl, rfl⟩) ?_
  rintro _ ⟨Ac, cc, rfl⟩
  simp only [go_sem, simprocAttr]
  intro g3
  refine plain_ok (N := 3000) (append_does (R1 := []) (R2 := []) (n := l.length) (v := .slice Ac l.length cc) (xs := l.map enc8) (news := [.int .u8 bn]) rfl tySlice44 tyApp5 rfl rfl rfl rfl (dk rfl) (fun u hu => by rw [List.mem_singleton.1 hu]; rfl) (by unfold maxLen; omega) (by omega) (fun G hG => tsl_blk hG (b := ⟨2, g3, 5, [.v (.int .u8 bn)]⟩) (by simp) rfl (by unfold maxLen; omega))) (QOk_body _ _ _) (by first | exact .inl rfl | exact .inr ⟨_, _, rfl, rfl⟩) ?_
  rintro _ ⟨A', c', rfl⟩
  simp only [go_sem, simprocAttr]
  refine read_ok (R1 := []) rfl (fun GB hleB hslB => ?_) (fun _ _ q => q) (by show (1 : Nat) ≠ 0; decide)
  simp only [St.seen, St.rowsTo, List.nil_append]
  have hb4 : ByG GB (.slice A' (l.length + 1) c') (l ++ [b]) := by
    have h9 : Sl GB 5 1 (l.length + 1) (.slice A' (l.length + 1) c') (l.map enc8 ++ [.int .u8 bn]) := hslB
    show Sl GB _ 1 (l ++ [b]).length _ ((l ++ [b]).map enc8)
    rw [List.map_append, List.length_append, List.map_cons, List.map_nil, hbn]
    exact h9
  have hl4 : (l ++ [b]).length = l.length + 1 := by rw [List.length_append]; rfl
  refine plain_ok (N := 3000) (call_does (fun y G => ∃ sv, y = .tuple #[sv, .int .i64 (decS (l ++ [b])).2] ∧ StaG G sv (decS (l ++ [b])).1) rfl rfl (by kernel_rfl) rfl (dk rfl) (fun G hG => decode_does hG.wf (hb4.mono (hG.le GB (by simp))) (by omega))) (QOk_body _ _ _) (by first | exact .inl rfl | exact .inr ⟨_, _, rfl, rfl⟩) ?_
  rintro _ ⟨_, G4, ⟨tv4, rfl, ht4⟩, hn4, rfl⟩
  clear hn4
  rw [hmo]
  generalize (decS (l ++ [b])).1 = s4 at ht4
  obtain ⟨C1, x1, C2, x2, C3, x3, C4, x4, C5, x5, rfl, _⟩ := ht4.form
  simp only [go_sem, simprocAttr]
  intro g4
  have hmx : max (l.length : Int) 1 = (l.length : Int) := by omega
  rw [hmx]
  refine plain_ok (N := 3000) (call_does (fun y _ => y = .int .i64 (pick n (l.length : Int))) rfl rfl (by kernel_rfl) rfl (dk rfl) (fun G hG => picked_does hG.wf hn (by omega) (by omega))) (QOk_body _ _ _) (by first | exact .inl rfl | exact .inr ⟨_, _, rfl, rfl⟩) ?_
  rintro _ ⟨_, G5, rfl, hn5, rfl⟩
  clear hn5
  have hpb := pick_bd n (l.length : Int) (by omega)
  obtain ⟨k, hk⟩ : ∃ k : Nat, pick n (l.length : Int) = (k : Int) := ⟨(pick n (l.length : Int)).toNat, by omega⟩
  rw [hk] at hpb ⊢
  clear hk
  simp only [go_sem, simprocAttr]
  refine plain_ok (N := 3000) (cutq_does (R := ByteG) (l := l) (m := k) rfl rfl tySlice44 tySize5 rfl ⟨_, _, rfl, by omega⟩ (dk rfl) (by omega) hcb1) (QOk_body _ _ _) (by first | exact .inl rfl | exact .inr ⟨_, _, rfl, rfl⟩) ?_
  rintro _ ⟨Ak, hAk, rfl⟩
  have hlk : (l.take k).length = k := by rw [List.length_take]; omega
  have hb5 : ∀ G : GW, G2.Le G → ByG G (.slice Ak k cb) (l.take k) := fun G h => by_of_sq (hAk G (hbv.mono h).sq)
  simp only [go_sem, simprocAttr]
  refine plain_ok (N := 3000) (call_does (fun y G => ∃ sv, y = .tuple #[sv, .int .i64 (decS (l.take k)).2] ∧ StaG G sv (decS (l.take k)).1) rfl rfl (by kernel_rfl) rfl (dk rfl) (fun G hG => decode_does hG.wf (hb5 _ (hG.le G2 (by simp))) (by omega))) (QOk_body _ _ _) (by first | exact .inl rfl | exact .inr ⟨_, _, rfl, rfl⟩) ?_
  rintro _ ⟨_, G6, ⟨tv6, rfl, ht6⟩, hn6, rfl⟩
  clear hn6
  rw [hto k (by omega)]
  generalize (decS (l.take k)).1 = s6 at ht6
  obtain ⟨D1, y1, D2, y2, D3, y3, D4, y4, D5, y5, rfl, _⟩ := ht6.form
  simp only [go_sem, simprocAttr]
  intro g6
  refine plain_ok (N := 3000) (call_does (fun y _ => y = .bool true) rfl rfl (by kernel_rfl) rfl (dk rfl) (fun G hG => sameState_does hG.wf (hs.mono (hG.le G1 (by simp))) (ht.mono (hG.le G3 (by simp))))) (QOk_body _ _ _) (by first | exact .inl rfl | exact .inr ⟨_, _, rfl, rfl⟩) ?_
  rintro _ ⟨_, G7, rfl, hn7, rfl⟩
  clear hn7
  simp only [go_sem, simprocAttr]
  refine fin_ret (G := ⟨Non, w⟩) Tryz.results4 ?_
  simp only [go_sem, simprocAttr]
  intro aa w' _ hle
  rfl
theorem stateBack_walk {w : World} (v0 : Value) (l0 : List Raw) (h0 : RawsG ⟨Non, w⟩ v0 l0) (b : Int) (hb : (Lit.int .u8 b).wf = true) (n : Int) (hn : i64 n) : Calls Tryz.prog 4 #[v0, .int .u8 b, .int .i64 n] w fun e w' => e = .returned (.bool true) ∧ Below w.heap.size w w' := by
  obtain ⟨b', hb'⟩ := byte_of hb
  rw [← hb']
  exact (stateBack_ret v0 l0 h0 b' n hn).mono fun e w' ⟨v, he, hv, hc⟩ => ⟨by rw [he, hv], hc.below⟩
end Go.Proofs.YtohdfcnjcpjdcaaGreat
