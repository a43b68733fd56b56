/- Shifts, 'or', texts of bytes; numbers as bytes and back. Names no program. Conditions: as each law states them. -/
import Derived.Test.YtohdfcnjcpjdcaaGreatDoorP11q
import Derived.Test.YtohdfcnjcpjdcaaGreatDoorS15q
import Derived.Test.YtohdfcnjcpjdcaaGreatDoorS26q
import Derived.Lib.AppendStr
namespace Go.Proofs.YtohdfcnjcpjdcaaGreatDoor
open Go.RowKit
set_option linter.unusedSimpArgs false
section
variable {P : Program} {E : Env} {σ : St} {o : Oper}
theorem in_i64 {x : Int} (h0 : -9223372036854775808 ≤ x) (h1 : x ≤ 9223372036854775807) : inR .i64 x := ⟨h0, h1⟩
theorem shl_does {ty t2 : TypeId} {x y : Operand} {a b m : Int} {kk : IntKind} (ho : o.op = .binOp .shl ty x y t2) (hx : ev σ x = some (.c (.v (.int .i64 a)))) (hy : ev σ y = some (.c (.v (.int kk b)))) (h0 : 0 ≤ b) (h1 : b ≤ 64) (hm : (2 : Int) ^ b.toNat = m) (hd : dOk E o.dst)
  (hr0 : -9223372036854775808 ≤ a * m) (hr1 : a * m ≤ 9223372036854775807) :
  Does P E σ o (fun σ' => σ' = σ.put o.dst (.c (.v (.int .i64 (a * m))))) := by
 intro ac w Q next hr hn
 have hx' : ac.eval x = .int .i64 a := ev_den hr.see hx
 have hy' : ac.eval y = .int kk b := ev_den hr.see hy
 have hrun : (execOp ac.eval o).run P w = .ok (.value (.int .i64 (a * m))) w := by
  unfold execOp
  simp only [ho, hx', hy', eqGuard_shl, binOp_shl, shift_shl .i64 kk a b h0 h1, hm, wrap_inR (in_i64 hr0 hr1), Sem.run_bind, Sem.run_pure, Result.andThen_ok]
 exact wp_of_value hrun (hn _ _ _ rfl (hr.put o.dst (.c (.v _)) (dOk_lt hd)))
theorem or_nat {n c : Nat} (hc : c < 256) (h : n * 256 + c < 9223372036854775808) : (BitVec.ofNat 64 (n * 256) ||| BitVec.ofNat 64 c).toNat = n * 256 + c := by
 have hb : 9223372036854775808 ≤ 18446744073709551616 := by decide
 have h1 : n * 256 < 18446744073709551616 := Nat.lt_of_lt_of_le (Nat.lt_of_le_of_lt (Nat.le_add_right _ _) h) hb
 have h2 : c < 18446744073709551616 := Nat.lt_of_lt_of_le (Nat.lt_of_le_of_lt (Nat.le_add_left _ _) h) hb
 have h3 : n * 256 = 2 ^ 8 * n := by rw [Nat.mul_comm]
 rw [BitVec.toNat_or, BitVec.toNat_ofNat, BitVec.toNat_ofNat, Nat.mod_eq_of_lt h1, Nat.mod_eq_of_lt h2, h3]
 exact (Nat.two_pow_add_eq_or_of_lt (i := 8) (b := c) hc n).symm
theorem or_low {n c : Nat} (hc : c < 256) (h : n * 256 + c < 9223372036854775808) : Op.intBits .or .i64 ((n : Int) * 256) (c : Int) = pure (.int .i64 ((n : Int) * 256 + (c : Int))) := by
 have e3 := or_nat hc h
 have hw : IntKind.wrap .i64 ((n * 256 + c : Nat) : Int) = (n : Int) * 256 + (c : Int) := by rw [wrap_inR (in_i64 (by omega) (by omega))]; omega
 have e1 : BitVec.ofInt 64 ((n : Int) * 256) = BitVec.ofNat 64 (n * 256) := BitVec.ofInt_natCast 64 (n * 256)
 have e2 : BitVec.ofInt 64 (c : Int) = BitVec.ofNat 64 c := BitVec.ofInt_natCast 64 c
 show pure (Value.int .i64 (IntKind.wrap .i64 ((BitVec.ofInt 64 ((n : Int) * 256) ||| BitVec.ofInt 64 (c : Int)).toNat : Int))) = _
 rw [e1, e2, e3, hw]
theorem or_does {ty t2 : TypeId} {x y : Operand} {n c : Nat} {a b : Int} (ho : o.op = .binOp .or ty x y t2) (hx : ev σ x = some (.c (.v (.int .i64 a)))) (hy : ev σ y = some (.c (.v (.int .i64 b)))) (ha : a = (n : Int) * 256) (hb : b = (c : Int)) (hc : c < 256) (h : n * 256 + c < 9223372036854775808) (hd : dOk E o.dst) :
  Does P E σ o (fun σ' => σ' = σ.put o.dst (.c (.v (.int .i64 ((n : Int) * 256 + (c : Int)))))) := by
 intro ac w Q next hr hn
 subst ha
 subst hb
 have hx' : ac.eval x = .int .i64 ((n : Int) * 256) := ev_den hr.see hx
 have hy' : ac.eval y = .int .i64 (c : Int) := ev_den hr.see hy
 have hrun : (execOp ac.eval o).run P w = .ok (.value (.int .i64 ((n : Int) * 256 + (c : Int)))) w := by
  unfold execOp
  simp only [ho, hx', hy', eqGuard_or, binOp_or, or_low hc h, Sem.run_bind, Sem.run_pure, Result.andThen_ok]
 exact wp_of_value hrun (hn _ _ _ rfl (hr.put o.dst (.c (.v _)) (dOk_lt hd)))
theorem tStr_spec {t : TypeId} (h : tStr P t = true) : P.underlying t = some .string := by
 unfold tStr at h
 split at h
 ·rename_i hh; exact hh
 ·cases h
theorem strOf_enc (bs : List UInt8) : strOfNums (bs.map fun b => (b.toNat : Int)) = ⟨bs.toArray⟩ := by
 unfold strOfNums
 congr 1
 rw [List.map_map]
 congr 1
 conv => rhs; rw [← List.map_id bs]
 apply List.map_congr_left
 intro b _
 simp
/-- bytes as a text -/
theorem text_does {src dst e : TypeId} {x : Operand} {v : Value} {bs : List UInt8} (ho : o.op = .convert src dst x) (h1 : tStr P dst = true) (h2 : tSlice P src = some e) (h3 : tInt P e = some .u8)
  (hx : ev σ x = some (.c (.v v))) (hd : dOk E o.dst) (hb : ∀ G : GW, Now E σ G → Byt e G v bs) :
  Does P E σ o (fun σ' => σ' = σ.put o.dst (.c (.v (.string ⟨bs.toArray⟩)))) := by
 intro a w Q next hr hn
 have hx' : a.eval x = v := ev_den hr.see hx
 obtain ⟨A, c, rfl, hc1, hc2, hl, hbk⟩ := hb _ hr.now
 have hrun : (convert src dst (.slice A bs.length c)).run P w = .ok (.string ⟨bs.toArray⟩) w := by
  cases bs with
  | nil =>
   cases A with
   | none => exact run_convert_bytes_nil w src e (tSlice_spec h2) (tInt_spec h3) 0 c dst (tStr_spec h1)
   | some ad =>
    simp [convert, run_underlying (tSlice_spec h2), run_underlying (tStr_spec h1), run_underlying (tInt_spec h3), Conv.bytesToString, loadCells, loadCellsFrom]
    rfl
  | cons b r =>
   obtain ⟨g, o', cur, fr, rfl, _, hbl, hcell⟩ := hbk (by simp)
   have := run_convert_bytes_arg w src e (tSlice_spec h2) (tInt_spec h3) g o' (b :: r).length c ((b :: r).map fun b => (b.toNat : Int)) (by simp) (fun i hi => by
    rw [cell_of_block hbl]
    refine hcell i _ ?_
    rw [List.getElem?_map, List.getElem?_eq_getElem hi]
    rw [List.getD_eq_getElem?_getD, List.getElem?_map, List.getElem?_eq_getElem hi]
    rfl) dst (tStr_spec h1)
   rw [strOf_enc] at this
   exact this
 have hrun2 : (execOp a.eval o).run P w = .ok (.value (.string ⟨bs.toArray⟩)) w := by
  unfold execOp
  simp only [ho, hx', Sem.run_bind, hrun, Result.andThen_ok, Sem.run_pure]
 exact wp_of_value hrun2 (hn _ _ _ rfl (hr.put o.dst (.c (.v (.string ⟨bs.toArray⟩))) (dOk_lt hd)))
end
theorem pow8 (k : Nat) : (2 : Int) ^ (8 * (k : Int)).toNat = 256 ^ k := by
 rw [show (8 * (k : Int)).toNat = 8 * k by omega, Int.pow_mul]
 rfl
def byteOf (n : Int) : UInt8 := UInt8.ofNat (HMod.hMod n 256).toNat
/-- a number as bytes, the highest first -/
def numB (n : Int) : Nat → List UInt8
 | 0 => []
 | k + 1 => byteOf (n / 256 ^ k) :: numB n k
theorem numB_len (n : Int) : ∀ k, (numB n k).length = k
 | 0 => rfl
 | k + 1 => by rw [numB, List.length_cons, numB_len n k]
/-- the value of bytes -/
def valFrom (n : Int) : List UInt8 → Int
 | [] => n
 | c :: l => valFrom (n * 256 + (c.toNat : Int)) l
def valB (l : List UInt8) : Int := valFrom 0 l
theorem byteOf_val (n : Int) : ((byteOf n).toNat : Int) = HMod.hMod n 256 := by
 have h0 := Int.emod_nonneg n (b := 256) (by omega)
 have h1 := Int.emod_lt_of_pos n (b := 256) (by omega)
 unfold byteOf
 rw [UInt8.toNat_ofNat']
 omega
theorem valB_1 (n : Int) (h0 : 0 ≤ n) (h1 : n < 256) : valB (numB n 1) = n := by
 simp only [numB, valB, valFrom, byteOf_val, Int.pow_zero]
 omega
theorem valB_2 (n : Int) (h0 : 0 ≤ n) (h1 : n < 65536) : valB (numB n 2) = n := by
 simp only [numB, valB, valFrom, byteOf_val]
 omega
theorem valB_4 (n : Int) (h0 : 0 ≤ n) (h1 : n < 4294967296) : valB (numB n 4) = n := by
 simp only [numB, valB, valFrom, byteOf_val]
 omega
theorem valFrom_app (n : Int) : ∀ (l : List UInt8) (c : UInt8), valFrom n (l ++ [c]) = valFrom n l * 256 + (c.toNat : Int)
 | [], _ => rfl
 | x :: l, c => valFrom_app (n * 256 + (x.toNat : Int)) l c
theorem valFrom_bd : ∀ (l : List UInt8) (n : Int), 0 ≤ n → 0 ≤ valFrom n l ∧ valFrom n l < (n + 1) * ((256 ^ l.length : Nat) : Int)
 | [], n, h => by simp only [valFrom, List.length_nil, Nat.pow_zero]; omega
 | x :: l, n, h => by
  have hx := x.toNat_lt
  obtain ⟨h1, h2⟩ := valFrom_bd l (n * 256 + (x.toNat : Int)) (by omega)
  refine ⟨h1, Int.lt_of_lt_of_le h2 ?_⟩
  rw [List.length_cons, Nat.pow_succ, Int.natCast_mul, Int.mul_comm (((256 ^ l.length : Nat) : Int)) _, ← Int.mul_assoc]
  exact Int.mul_le_mul_of_nonneg_right (by omega) (Int.natCast_nonneg _)
theorem valB_bd (l : List UInt8) : 0 ≤ valB l ∧ valB l < ((256 ^ l.length : Nat) : Int) := by
 have := valFrom_bd l 0 (by omega)
 rw [Int.zero_add, Int.one_mul] at this
 exact this
end Go.Proofs.YtohdfcnjcpjdcaaGreatDoor
/- The reader of bytes: what it reads, in plain words; take. Conditions: as each law states them. -/
namespace Go.Proofs.YtohdfcnjcpjdcaaGreatDoor
open Go.RowKit
set_option linter.unusedSimpArgs false
def ByG (G : GW) (v : Value) (l : List UInt8) : Prop := Byt 5 G v l
theorem ByG.mono {G G' : GW} {v : Value} {l : List UInt8} (h : ByG G v l) (hl : G.Le G') : ByG G' v l := Sl.mono h hl
theorem ByG.form {G : GW} {v : Value} {l : List UInt8} (h : ByG G v l) : ∃ A c, v = .slice A l.length c ∧ l.length ≤ c ∧ c ≤ maxLen := let ⟨A, c, e, h1, h2, _⟩ := h; ⟨A, c, e, h1, h2⟩
def ByteG (_ : GW) (x : UInt8) (cs : List Value) : Prop := cs = [enc8 x]
theorem byteG_mono : MonoR ByteG := fun _ _ _ _ _ h => h
theorem ByG.sq {G : GW} {v : Value} {l : List UInt8} (h : ByG G v l) : Sq ByteG 5 1 G v l := by
 refine ⟨l.map fun x => [enc8 x], ⟨by simp, by simp, fun i cs x h1 h2 => ?_⟩, ?_⟩
 ·rw [List.getElem?_map, h2] at h1
  cases h1
  rfl
 ·have : (l.map fun x => [enc8 x]).flatten = l.map enc8 := by
   clear h
   induction l with
   | nil => rfl
   | cons a r ih => simp [ih]
  rw [this]
  exact h
theorem ByG.nil (G : GW) : ByG G (.slice none 0 0) [] := Sl.nil _ _ _
theorem ByG.cut {G : GW} {A : Option Addr} {c k : Nat} {l : List UInt8} (h : ByG G (.slice A l.length c) l) (hk : k ≤ l.length) (hc : l.length ≤ c) : ByG G (.slice (if k + (c - k) = k then A else A.map (·.add (k * 1))) (l.length - k) (c - k)) (l.drop k) := by
 have h2 := Sl.cut (l := k) (n' := l.length - k) (c' := c - k) h (by omega) (by omega) (by omega)
 show Sl G _ 1 (l.drop k).length _ ((l.drop k).map enc8)
 rw [List.length_drop, List.map_drop]
 have e : ((l.map enc8).drop (k * 1)).take ((l.length - k) * 1) = (l.map enc8).drop k := by
  rw [Nat.mul_one, Nat.mul_one]
  exact List.take_of_length_le (by simp)
 rw [e] at h2
 exact h2
/-! ### in plain words -/
structure RS where
 l : List UInt8
 f : Int
def tk (k : Nat) (s : RS) : Int × RS := if s.l.length < k then (0, ⟨[], if s.f = 0 then 5 else s.f⟩) else (valB (s.l.take k), ⟨s.l.drop k, s.f⟩)
def tx (s : RS) : ByteArray × RS := if ((tk 1 s).2.l.length : Int) < (tk 1 s).1 then (⟨#[]⟩, (tk (tk 1 s).1.toNat (tk 1 s).2).2) else (⟨((tk 1 s).2.l.take (tk 1 s).1.toNat).toArray⟩, ⟨(tk 1 s).2.l.drop (tk 1 s).1.toNat, (tk 1 s).2.f⟩)
def bt (s : RS) : Bool × RS := (decide ((tk 1 s).1 = 1), if (decide (1 < (tk 1 s).1) && decide ((tk 1 s).2.f = 0)) = true then ⟨(tk 1 s).2.l, 4⟩ else (tk 1 s).2)
/-- many times something is read, as long as nothing is wrong -/
def mn {α : Type} (st : α → RS → α × RS) : Nat → α → RS → α × RS
 | 0, a, s => (a, s)
 | n + 1, a, s => if s.f = 0 then mn st n (st a s).1 (st a s).2 else (a, s)
def mny {α : Type} (st : α → RS → α × RS) (a : α) (s : RS) : α × RS := mn st (tk 1 s).1.toNat a (tk 1 s).2
def itS (a : List Int) (s : RS) : List Int × RS := (a ++ [(tk 1 s).1], (tk 1 s).2)
def its (s : RS) : List Int × RS := mny itS [] s
theorem tk_bd {k : Nat} (s : RS) (hk : k ≤ 4) : 0 ≤ (tk k s).1 ∧ (tk k s).1 < 4294967296 := by
 unfold tk
 split
 ·exact ⟨Int.le_refl _, by show (0 : Int) < _; omega⟩
 ·have h := valB_bd (s.l.take k)
  have h1 : (256 : Nat) ^ (s.l.take k).length ≤ 256 ^ 4 := Nat.pow_le_pow_right (by omega) (by rw [List.length_take]; omega)
  have h2 : (256 : Nat) ^ 4 = 4294967296 := rfl
  exact ⟨h.1, by show valB _ < _; omega⟩
theorem tk1_bd (s : RS) : 0 ≤ (tk 1 s).1 ∧ (tk 1 s).1 < 256 := by
 unfold tk
 split
 ·exact ⟨Int.le_refl _, by show (0 : Int) < _; omega⟩
 ·have h := valB_bd (s.l.take 1)
  have h1 : (256 : Nat) ^ (s.l.take 1).length ≤ 256 ^ 1 := Nat.pow_le_pow_right (by omega) (by rw [List.length_take]; omega)
  exact ⟨h.1, by show valB _ < _; omega⟩
/-! ### take -/
set_option maxRecDepth 100000 in
set_option maxHeartbeats 8000000 in
theorem take_does' {g : Nat} {k : Nat} {rv : Value} {s : RS} {G0 : GW} (hW : G0.Wf) (hh : HandsOk G0.w ⟨[⟨g, 68, [rv, .int .i64 s.f]⟩], []⟩) (hM : ∀ k, Hands.A ⟨[⟨g, 68, [rv, .int .i64 s.f]⟩], []⟩ k → G0.M k) (hb : ByG G0 rv s.l) (hk : k ≤ 4 ∨ s.l.length < k) (hk2 : k ≤ 1000000) :
  Calls Tryz.prog 17 #[.pointer (some ⟨g, 0, none⟩), .int .i64 (k : Int)] G0.w (RetH G0 ⟨[⟨g, 68, [rv, .int .i64 s.f]⟩], []⟩ fun y css R G => R = [] ∧ y = .int .i64 (tk k s).1 ∧ ∃ rv', css = [[rv', .int .i64 (tk k s).2.f]] ∧ ByG G rv' (tk k s).2.l) := by
 obtain ⟨A, c, rfl, hc1, hc2⟩ := hb.form
 have hml := max_le
 refine enterH (n := 53) 3000 ([.c (.p 0 g 0), .c (.v (.int .i64 (k : Int)))]) ([⟨0, g, 68, [.v (.slice A s.l.length c), .v (.int .i64 s.f)]⟩]) rfl hW hh hM Tryz.func17 rfl Tryz.ntmps17 (by simp) ?_
 by_cases hlt : s.l.length < k
 ·have q : decide ((s.l.length : Int) < (k : Int)) = true := decide_eq_true (by omega)
  have e : tk k s = (0, ⟨[], if s.f = 0 then 5 else s.f⟩) := by unfold tk; rw [if_pos hlt]
  rw [e]
  by_cases hf : s.f = 0
  ·have qf : decide (s.f = 0) = true := decide_eq_true hf
   rw [if_pos hf]
   simp only [go_sem, simprocAttr, q, qf]
   refine fin_retH (G := G0) Tryz.results17 ?_
   simp only [go_sem, simprocAttr]
   intro aa w' _ _
   exact ⟨_, rfl, ByG.nil _⟩
  ·have qf : decide (s.f = 0) = false := decide_eq_false hf
   rw [if_neg hf]
   simp only [go_sem, simprocAttr, q, qf]
   refine fin_retH (G := G0) Tryz.results17 ?_
   simp only [go_sem, simprocAttr]
   intro aa w' _ _
   exact ⟨_, rfl, ByG.nil _⟩
 ·have q : decide ((s.l.length : Int) < (k : Int)) = false := decide_eq_false (by omega)
  have e : tk k s = (valB (s.l.take k), ⟨s.l.drop k, s.f⟩) := by unfold tk; rw [if_neg hlt]
  have hk4 : k ≤ 4 := by omega
  have hkl : (s.l.take k).length = k := by rw [List.length_take]; omega
  rw [e]
  simp only [go_sem, simprocAttr, q]
  refine pk (cutq_does (R := ByteG) (l := s.l) (m := k) rfl rfl tySlice33 tySize5 rfl ⟨_, _, rfl, by omega⟩ (dk rfl) (by omega) hc1) ?_
  rintro _ ⟨A', hA, rfl⟩
  simp only [go_sem, simprocAttr]
  refine loop_ok (N := 3000) (ι := Nat × Nat) (fun i => match i with | (i, n) => ⟨[(0, .c (.p 0 g 0)), (1, .c (.v (.int .i64 (k : Int)))), (5, .c (.v (.int .i64 (n : Int)))), (31, .c (.v (.slice A' k c))), (32, .c (.v (.int .i64 (k : Int)))), (33, .c (.v (.int .i64 (i : Int))))],
    [⟨0, g, 68, [.v (.slice A s.l.length c), .v (.int .i64 s.f)]⟩], [], [], [G0], 1⟩)
   (fun i => match i with | (i, n) => i ≤ k ∧ (n : Int) = valB ((s.l.take k).take i))
   (fun i => k - i.1) (QOk_body _ _ _) (0, 0) ⟨Nat.zero_le _, rfl⟩ (by simp only [go_sem, simprocAttr]; simp) ?_
  rintro ⟨i, n⟩ ⟨hi, hn⟩
  simp only
  by_cases hli : i < k
  ·have qi : decide ((i : Int) < (k : Int)) = true := decide_eq_true (by omega)
   obtain ⟨x, hx⟩ : ∃ x, (s.l.take k)[i]? = some x := ⟨_, List.getElem?_eq_getElem (by omega)⟩
   have hxl := x.toNat_lt
   have hbd := valB_bd ((s.l.take k).take i)
   have hbn : n < 4294967296 := by
    have h1 : (256 : Nat) ^ ((s.l.take k).take i).length ≤ 256 ^ 4 := Nat.pow_le_pow_right (by omega) (by rw [List.length_take]; omega)
    have h2 : (256 : Nat) ^ 4 = 4294967296 := rfl
    omega
   simp only [go_sem, simprocAttr, qi]
   refine pk (elem_does (R := ByteG) (l := s.l.take k) (m := i) rfl tySlice33 tySize5 rfl rfl (dk rfl) rfl hx (fun G hG => by have := hA G ((hb.mono (hG.le G0 (by simp))).sq); exact this)) ?_
   rintro _ ⟨gw, ow, cs, G9, _, rfl, rfl⟩
   simp only [go_sem, simprocAttr, enc8]
   refine pk (shl_does (m := 256) rfl rfl rfl (by omega) (by omega) (by decide) (dk rfl) (by omega) (by omega)) ?_
   rintro _ rfl
   simp only [go_sem, simprocAttr]
   refine ⟨by omega, ?_⟩
   refine pk (or_does (n := n) (c := x.toNat) rfl rfl rfl rfl rfl (by omega) (by omega) (dk rfl)) ?_
   rintro _ rfl
   simp only [go_sem, simprocAttr]
   have e1 : ((n : Int) * 256 + (x.toNat : Int)) = ((n * 256 + x.toNat : Nat) : Int) := by omega
   have e9 : valB ((s.l.take k).take (i + 1)) = valB ((s.l.take k).take i) * 256 + (x.toNat : Int) := by
    unfold valB
    rw [List.take_add_one, hx]
    exact valFrom_app 0 ((s.l.take k).take i) x
   rw [e1]
   refine ⟨by omega, ?_⟩
   exact again_ok (i + 1, n * 256 + x.toNat) ⟨hli, (by rw [e9, ← hn, e1])⟩ (by show k - (i + 1) < k - i; omega) (by simp only [go_sem, simprocAttr]; simp)
  have hik : i = k := by omega
  subst hik
  have qi : decide ((i : Int) < (i : Int)) = false := decide_eq_false (by omega)
  rw [List.take_of_length_le (by omega)] at hn
  simp only [go_sem, simprocAttr, qi]
  refine pk (cutv_does i (s.l.length - i) (c - i) rfl tySlice33 tySize5 rfl ⟨_, _, rfl, rfl⟩ (show i + (s.l.length - i) = s.l.length from by omega) (show i + (c - i) = c from by omega) (by simp) (dk rfl) (by omega) (by omega)) ?_
  rintro _ rfl
  have hcut := hb.cut (k := i) (by omega) hc1
  obtain ⟨A2, hA2⟩ : ∃ A2, A2 = (if i + (c - i) = i then A else A.map (·.add (i * 1))) := ⟨_, rfl⟩
  rw [← hA2] at hcut ⊢
  simp only [go_sem, simprocAttr]
  refine fin_retH (G := G0) Tryz.results17 ?_
  simp only [go_sem, simprocAttr]
  intro aa w' _ hle
  refine ⟨?_, _, rfl, hcut.mono (hle G0 (by simp))⟩
  rw [← hn]
end Go.Proofs.YtohdfcnjcpjdcaaGreatDoor
/- The reader of bytes: text, bit, ints, rule, part, ask, version, end. Conditions: as each law states them. -/
namespace Go.Proofs.YtohdfcnjcpjdcaaGreatDoor
open Go.RowKit
set_option linter.unusedSimpArgs false
theorem by_of_sq {G : GW} {A : Option Addr} {n c : Nat} {l : List UInt8} (h : Sq ByteG 5 1 G (.slice A n c) l) : ByG G (.slice A n c) l := by
 have h2 := sq_flat (R := ByteG) (f := fun x => [enc8 x]) (fun _ _ _ h => h) h
 have : l.flatMap (fun x => [enc8 x]) = l.map enc8 := by
  clear h h2
  induction l with
  | nil => rfl
  | cons a r ih => simp [ih]
 rw [this] at h2
 exact h2
theorem tk1_nat (s : RS) : ∃ n : Nat, (tk 1 s).1 = (n : Int) ∧ n < 256 := ⟨(tk 1 s).1.toNat, by have := tk1_bd s; omega, by have := tk1_bd s; omega⟩
set_option maxRecDepth 100000 in
set_option maxHeartbeats 8000000 in
theorem rtext_does {g : Nat} {rv : Value} {s : RS} {G0 : GW} (hW : G0.Wf) (hh : HandsOk G0.w ⟨[⟨g, 68, [rv, .int .i64 s.f]⟩], []⟩) (hM : ∀ k, Hands.A ⟨[⟨g, 68, [rv, .int .i64 s.f]⟩], []⟩ k → G0.M k) (hb : ByG G0 rv s.l) :
  Calls Tryz.prog 40 #[.pointer (some ⟨g, 0, none⟩)] G0.w (RetH G0 ⟨[⟨g, 68, [rv, .int .i64 s.f]⟩], []⟩ fun y css R G => R = [] ∧ y = .string (tx s).1 ∧ ∃ rv', css = [[rv', .int .i64 (tx s).2.f]] ∧ ByG G rv' (tx s).2.l) := by
 obtain ⟨A, c, rfl, hc1, hc2⟩ := hb.form
 have hml := max_le
 refine enterH (n := 34) 3000 ([.c (.p 0 g 0)]) ([⟨0, g, 68, [.v (.slice A s.l.length c), .v (.int .i64 s.f)]⟩]) rfl hW hh hM Tryz.func40 rfl Tryz.ntmps40 (by simp) ?_
 simp only [go_sem, simprocAttr]
 refine pk (callH_does ([0]) ([]) ([]) ([]) (fun y css R G => R = [] ∧ y = .int .i64 (tk 1 s).1 ∧ ∃ rv', css = [[rv', .int .i64 (tk 1 s).2.f]] ∧ ByG G rv' (tk 1 s).2.l) upV rfl rfl (by kernel_rfl) rfl (dk rfl) rfl rfl (by simp [ids, Diff]) (by simp) (fun G hG hh hM => take_does' (k := 1) (s := s) hG.wf hh hM (hb.mono (hG.le G0 (by simp))) (.inl (by omega)) (by omega)) (fun v css R G _ _ => upV_den css)) ?_
 rintro _ ⟨_, css, _, G1, ⟨rfl, rfl, rv1, rfl, hb1⟩, hcs, hle, rfl⟩
 clear hcs hle
 obtain ⟨A1, c1, rfl, hc11, hc12⟩ := hb1.form
 
 obtain ⟨n, hn, hn2⟩ := tk1_nat s
 obtain ⟨s1, hs1⟩ : ∃ s1, s1 = (tk 1 s).2 := ⟨_, rfl⟩
 have ht : tx s = if (s1.l.length : Int) < (n : Int) then (⟨#[]⟩, (tk n s1).2) else (⟨(s1.l.take n).toArray⟩, ⟨s1.l.drop n, s1.f⟩) := by
  unfold tx
  rw [← hs1, hn, Int.toNat_natCast]
 rw [ht, hn, ← hs1]
 rw [← hs1] at hb1 hc11
 clear ht
 by_cases hlt : (s1.l.length : Int) < (n : Int)
 ·have q : decide ((s1.l.length : Int) < (n : Int)) = true := decide_eq_true hlt
  rw [if_pos hlt]
  simp only [go_sem, simprocAttr, q]
  refine pk (callH_does ([0]) ([]) ([]) ([]) (fun y css R G => R = [] ∧ y = .int .i64 (tk n s1).1 ∧ ∃ rv', css = [[rv', .int .i64 (tk n s1).2.f]] ∧ ByG G rv' (tk n s1).2.l) upV rfl rfl (by kernel_rfl) rfl (dk rfl) rfl rfl (by simp [ids, Diff]) (by simp) (fun G hG hh hM => take_does' (k := n) (s := s1) hG.wf hh hM (hb1.mono (hG.le G1 (by simp))) (.inr (by omega)) (by omega)) (fun v css R G _ _ => upV_den css)) ?_
  rintro _ ⟨_, css, _, G2, ⟨rfl, rfl, rv2, rfl, hb2⟩, hcs, hle, rfl⟩
  clear hcs hle
  obtain ⟨A2, c2, rfl, hc21, hc22⟩ := hb2.form
  simp only [go_sem, simprocAttr]
  refine fin_retH (G := G0) Tryz.results40 ?_
  simp only [go_sem, simprocAttr]
  intro aa w' _ hle
  exact ⟨_, rfl, hb2.mono (hle G2 (by simp))⟩
 ·have q : decide ((s1.l.length : Int) < (n : Int)) = false := decide_eq_false hlt
  rw [if_neg hlt]
  simp only [go_sem, simprocAttr, q]
  refine pk (cutq_does (R := ByteG) (l := s1.l) (m := n) rfl rfl tySlice33 tySize5 rfl ⟨_, _, rfl, by omega⟩ (dk rfl) (by omega) hc11) ?_
  rintro _ ⟨A', hA, rfl⟩
  have hkl : (s1.l.take n).length = n := by rw [List.length_take]; omega
  simp only [go_sem, simprocAttr]
  refine pk (text_does (bs := s1.l.take n) rfl tyStr9 tySlice33 tyInt5 rfl (dk rfl) (fun G hG => by_of_sq (hA G ((hb1.mono (hG.le G1 (by simp))).sq)))) ?_
  rintro _ rfl
  simp only [go_sem, simprocAttr]
  refine pk (cutv_does n (s1.l.length - n) (c1 - n) rfl tySlice33 tySize5 rfl ⟨_, _, rfl, rfl⟩ (show n + (s1.l.length - n) = s1.l.length from by omega) (show n + (c1 - n) = c1 from by omega) (by simp) (dk rfl) (by omega) (by omega)) ?_
  rintro _ rfl
  have hcut := hb1.cut (k := n) (by omega) hc11
  obtain ⟨A2, hA2⟩ : ∃ A2, A2 = (if n + (c1 - n) = n then A1 else A1.map (·.add (n * 1))) := ⟨_, rfl⟩
  rw [← hA2] at hcut ⊢
  simp only [go_sem, simprocAttr]
  refine fin_retH (G := G0) Tryz.results40 ?_
  simp only [go_sem, simprocAttr]
  intro aa w' _ hle
  exact ⟨_, rfl, hcut.mono (hle G1 (by simp))⟩
set_option maxRecDepth 100000 in
set_option maxHeartbeats 8000000 in
theorem bit_does {g : Nat} {rv : Value} {s : RS} {G0 : GW} (hW : G0.Wf) (hh : HandsOk G0.w ⟨[⟨g, 68, [rv, .int .i64 s.f]⟩], []⟩) (hM : ∀ k, Hands.A ⟨[⟨g, 68, [rv, .int .i64 s.f]⟩], []⟩ k → G0.M k) (hb : ByG G0 rv s.l) :
  Calls Tryz.prog 73 #[.pointer (some ⟨g, 0, none⟩)] G0.w (RetH G0 ⟨[⟨g, 68, [rv, .int .i64 s.f]⟩], []⟩ fun y css R G => R = [] ∧ y = .bool (bt s).1 ∧ ∃ rv', css = [[rv', .int .i64 (bt s).2.f]] ∧ ByG G rv' (bt s).2.l) := by
 obtain ⟨A, c, rfl, hc1, hc2⟩ := hb.form
 have hml := max_le
 refine enterH (n := 20) 3000 ([.c (.p 0 g 0)]) ([⟨0, g, 68, [.v (.slice A s.l.length c), .v (.int .i64 s.f)]⟩]) rfl hW hh hM Tryz.func73 rfl Tryz.ntmps73 (by simp) ?_
 simp only [go_sem, simprocAttr]
 refine pk (callH_does ([0]) ([]) ([]) ([]) (fun y css R G => R = [] ∧ y = .int .i64 (tk 1 s).1 ∧ ∃ rv', css = [[rv', .int .i64 (tk 1 s).2.f]] ∧ ByG G rv' (tk 1 s).2.l) upV rfl rfl (by kernel_rfl) rfl (dk rfl) rfl rfl (by simp [ids, Diff]) (by simp) (fun G hG hh hM => take_does' (k := 1) (s := s) hG.wf hh hM (hb.mono (hG.le G0 (by simp))) (.inl (by omega)) (by omega)) (fun v css R G _ _ => upV_den css)) ?_
 rintro _ ⟨_, css, _, G1, ⟨rfl, rfl, rv1, rfl, hb1⟩, hcs, hle, rfl⟩
 clear hcs hle
 obtain ⟨A1, c1, rfl, hc11, hc12⟩ := hb1.form
 
 obtain ⟨n, hn⟩ : ∃ n, n = (tk 1 s).1 := ⟨_, rfl⟩
 obtain ⟨s1, hs1⟩ : ∃ s1, s1 = (tk 1 s).2 := ⟨_, rfl⟩
 have ht : bt s = (decide (n = 1), if (decide (1 < n) && decide (s1.f = 0)) = true then ⟨s1.l, 4⟩ else s1) := by
  unfold bt
  rw [← hs1, ← hn]
 rw [ht, ← hn, ← hs1]
 rw [← hs1] at hb1 hc11
 clear ht
 simp only [go_sem, simprocAttr]
 refine Wb_mk (fun h1 => ?_) (fun h1 => ?_)
 ·rw [if_pos h1]
  refine fin_retH (G := G0) Tryz.results73 ?_
  simp only [go_sem, simprocAttr]
  intro aa w' _ hle
  exact ⟨_, rfl, hb1.mono (hle G1 (by simp))⟩
 ·rw [if_neg (by rw [h1]; simp)]
  refine fin_retH (G := G0) Tryz.results73 ?_
  simp only [go_sem, simprocAttr]
  intro aa w' _ hle
  exact ⟨_, rfl, hb1.mono (hle G1 (by simp))⟩
def en (s : RS) : RS := if (decide (s.f = 0) && decide (0 < (s.l.length : Int))) = true then ⟨s.l, 4⟩ else s
set_option maxRecDepth 100000 in
set_option maxHeartbeats 8000000 in
theorem end_does {g : Nat} {rv : Value} {s : RS} {G0 : GW} (hW : G0.Wf) (hh : HandsOk G0.w ⟨[⟨g, 68, [rv, .int .i64 s.f]⟩], []⟩) (hM : ∀ k, Hands.A ⟨[⟨g, 68, [rv, .int .i64 s.f]⟩], []⟩ k → G0.M k) (hb : ByG G0 rv s.l) :
  Calls Tryz.prog 19 #[.pointer (some ⟨g, 0, none⟩)] G0.w (RetH G0 ⟨[⟨g, 68, [rv, .int .i64 s.f]⟩], []⟩ fun y css R G => R = [] ∧ y = .int .i64 (en s).f ∧ ∃ rv', css = [[rv', .int .i64 (en s).f]] ∧ ByG G rv' (en s).l) := by
 obtain ⟨A, c, rfl, hc1, hc2⟩ := hb.form
 have hml := max_le
 refine enterH (n := 23) 3000 ([.c (.p 0 g 0)]) ([⟨0, g, 68, [.v (.slice A s.l.length c), .v (.int .i64 s.f)]⟩]) rfl hW hh hM Tryz.func19 rfl Tryz.ntmps19 (by simp) ?_
 simp only [go_sem, simprocAttr]
 refine Wb_mk (fun h1 => ?_) (fun h1 => ?_)
 ·have e : en s = ⟨s.l, 4⟩ := by unfold en; rw [if_pos h1]
  rw [e]
  refine fin_retH (G := G0) Tryz.results19 ?_
  simp only [go_sem, simprocAttr]
  intro aa w' _ hle
  exact ⟨_, rfl, hb.mono (hle G0 (by simp))⟩
 ·have e : en s = s := by unfold en; rw [if_neg (by rw [h1]; simp)]
  rw [e]
  refine fin_retH (G := G0) Tryz.results19 ?_
  simp only [go_sem, simprocAttr]
  intro aa w' _ hle
  exact ⟨_, rfl, hb.mono (hle G0 (by simp))⟩
end Go.Proofs.YtohdfcnjcpjdcaaGreatDoor
/- The reader of bytes: ints, rule, version, part, ask. Conditions: as each law states them. -/
namespace Go.Proofs.YtohdfcnjcpjdcaaGreatDoor
open Go.RowKit
set_option linter.unusedSimpArgs false
section
variable {E : Env} {σ : St}
/-- a row of the call's own that it does not write any more, where the blocks that it was handed are known -/
theorem read_own {Φ : Act → World → Prop} {R1 R2 : List Rw} {r : Rw} (hR : σ.rows = R1 ++ r :: R2) (hA : ∀ k, E.A k → ∃ b ∈ σ.blks, b.g = k) (hk : r.k ≠ 0) (h : ∀ G : GW, (∀ s ∈ σ.snaps, s.Le G) → Sl G r.t r.k r.n r.v r.xs → Ok E ((σ.rowsTo (R1 ++ R2)).seen G) Φ) : Ok E σ Φ := fun a w hr =>
 read_ok hR h (fun g hg q => let ⟨b, hb, e⟩ := hA g q; hr.apart r (by rw [hR]; simp) b hb (by rw [hg, e])) hk a w hr
end
set_option maxRecDepth 100000 in
set_option maxHeartbeats 8000000 in
theorem ints_does {g : Nat} {rv : Value} {s : RS} {G0 : GW} (hW : G0.Wf) (hh : HandsOk G0.w ⟨[⟨g, 68, [rv, .int .i64 s.f]⟩], []⟩) (hM : ∀ k, Hands.A ⟨[⟨g, 68, [rv, .int .i64 s.f]⟩], []⟩ k → G0.M k) (hb : ByG G0 rv s.l) :
  Calls Tryz.prog 45 #[.pointer (some ⟨g, 0, none⟩)] G0.w (RetH G0 ⟨[⟨g, 68, [rv, .int .i64 s.f]⟩], []⟩ fun y css R G => R = [] ∧ IntsG G y (its s).1 ∧ ∃ rv', css = [[rv', .int .i64 (its s).2.f]] ∧ ByG G rv' (its s).2.l) := by
 obtain ⟨A, c, rfl, hc1, hc2⟩ := hb.form
 have hml := max_le
 refine enterH (n := 24) 3000 ([.c (.p 0 g 0)]) ([⟨0, g, 68, [.v (.slice A s.l.length c), .v (.int .i64 s.f)]⟩]) rfl hW hh hM Tryz.func45 rfl Tryz.ntmps45 (by simp) ?_
 simp only [go_sem, simprocAttr]
 refine pk (callH_does ([0]) ([]) ([]) ([]) (fun y css R G => R = [] ∧ y = .int .i64 (tk 1 s).1 ∧ ∃ rv', css = [[rv', .int .i64 (tk 1 s).2.f]] ∧ ByG G rv' (tk 1 s).2.l) upV rfl rfl (by kernel_rfl) rfl (dk rfl) rfl rfl (by simp [ids, Diff]) (by simp) (fun G hG hh hM => take_does' (k := 1) (s := s) hG.wf hh hM (hb.mono (hG.le G0 (by simp))) (.inl (by omega)) (by omega)) (fun v css R G _ _ => upV_den css)) ?_
 
 rintro _ ⟨_, css, _, G1, ⟨rfl, rfl, rv1, rfl, hb1⟩, hcs, hle, rfl⟩
 clear hcs hle
 obtain ⟨A1, c1, rfl, hc11, hc12⟩ := hb1.form
 obtain ⟨n, hn, hn2⟩ := tk1_nat s
 obtain ⟨s1, hs1⟩ : ∃ s1, s1 = (tk 1 s).2 := ⟨_, rfl⟩
 have ht : its s = mn itS n [] s1 := by
  unfold its mny
  rw [← hs1, hn, Int.toNat_natCast]
 rw [ht, hn, ← hs1]
 rw [← hs1] at hb1 hc11
 clear ht
 simp only [go_sem, simprocAttr]
 refine row_ok 3 1 ?_
 refine loop_ok (N := 3000) (ι := Nat × List Int × Option Addr × Nat × Option Addr × Nat × RS × GW) (fun i => match i with | (m, a, A, c, B, d, s', G) => ⟨[(0, .c (.p 0 g 0)), (3, .c (.v (.slice A a.length c))), (4, .c (.v (.int .i64 (m : Int))))],
   [⟨0, g, 68, [.v (.slice B s'.l.length d), .v (.int .i64 s'.f)]⟩], [intRow (.slice A a.length c) a], [], [G, G0], 1⟩)
  (fun i => match i with | (m, a, A, c, B, d, s', G) => mn itS n [] s1 = mn itS m a s' ∧ a.length + m ≤ 256 ∧ ByG G (.slice B s'.l.length d) s'.l)
  (fun i => i.1) (QOk_body _ _ _) (n, [], none, 0, A1, c1, s1, G1) ⟨rfl, by simp; omega, hb1⟩ (by simp only [go_sem, simprocAttr]; simp [intRow]) ?_
 clear hb1 hc11 hc12
 rintro ⟨m, a, A2, c2, B, d, s2, G2⟩ ⟨hm, hal, hb2⟩
 simp only at hm hal hb2 ⊢
 cases m with
 | zero =>
  have q : decide (0 < ((0 : Nat) : Int)) = false := decide_eq_false (by omega)
  rw [mn] at hm
  simp only [go_sem, simprocAttr, q]
  refine read_own (R1 := []) rfl (fun k hk => by
   rcases hk with ⟨b, hb, rfl⟩ | ⟨r, hr, _⟩
   ·exact ⟨_, List.mem_cons_self, by rw [List.mem_singleton.1 hb]⟩
   ·cases hr) (by show (1 : Nat) ≠ 0; decide) (fun G8 hle8 hsl8 => ?_)
  have hO : IntsG G8 (.slice A2 a.length c2) a := ints_of hsl8
  refine fin_retH (G := G0) Tryz.results45 ?_
  simp only [go_sem, simprocAttr]
  intro aa w' _ hle
  rw [hm]
  exact ⟨hO.mono (hle G8 (by simp)), _, rfl, hb2.mono (hle G2 (by simp))⟩
 | succ m =>
  have q : decide (0 < ((m + 1 : Nat) : Int)) = true := decide_eq_true (by omega)
  by_cases hf : s2.f = 0
  ·have qf : decide (s2.f = 0) = true := decide_eq_true hf
   rw [mn, if_pos hf] at hm
   simp only [go_sem, simprocAttr, q, qf]
   refine pk (callH_does ([0]) ([intRow (.slice A2 a.length c2) a]) ([]) ([]) (fun y css R G => R = [] ∧ y = .int .i64 (tk 1 s2).1 ∧ ∃ rv', css = [[rv', .int .i64 (tk 1 s2).2.f]] ∧ ByG G rv' (tk 1 s2).2.l) upV rfl rfl (by kernel_rfl) rfl (dk rfl) rfl rfl (by simp [ids, Diff]) (by simp) (fun G hG hh hM => take_does' (k := 1) (s := s2) hG.wf hh hM (hb2.mono (hG.le G2 (by simp))) (.inl (by omega)) (by omega)) (fun v css R G _ _ => upV_den css)) ?_
   rintro _ ⟨_, css, _, G3, ⟨rfl, rfl, rv3, rfl, hb3⟩, hcs, hle, rfl⟩
   clear hcs hle
   obtain ⟨A3, c3, rfl, hc31, hc32⟩ := hb3.form
   simp only [go_sem, simprocAttr]
   intro g4
   refine pk (append_does (R1 := []) (R2 := []) (n := a.length) (v := .slice A2 a.length c2) (xs := a.flatMap intC) (news := [.int .i64 (tk 1 s2).1]) rfl tySlice27 tyApp3 rfl rfl rfl rfl (dk rfl) (fun u hu => by rw [List.mem_singleton.1 hu]; rfl) (by unfold maxLen; omega) (by omega) (fun G hG => tsl_blk hG (b := ⟨1, g4, 3, [.v (.int .i64 (tk 1 s2).1)]⟩) (by simp) rfl (by unfold maxLen; omega))) ?_
   rintro _ ⟨A', c', rfl⟩
   have hl5 : (a ++ [(tk 1 s2).1]).length = a.length + 1 := by simp
   have e0 : ((m + 1 : Nat) : Int) - 1 = (m : Int) := by omega
   simp only [go_sem, simprocAttr]
   refine ⟨by omega, ?_⟩
   refine again_ok (m, a ++ [(tk 1 s2).1], A', c', A3, c3, (tk 1 s2).2, G3) ⟨hm, by show (a ++ [(tk 1 s2).1]).length + m ≤ 256; omega, hb3⟩ (by show m < m + 1; omega) (by rw [hl5, e0]; simp only [go_sem, simprocAttr]; simp [intRow, intC])
  ·have qf : decide (s2.f = 0) = false := decide_eq_false hf
   rw [mn, if_neg hf] at hm
   simp only [go_sem, simprocAttr, q, qf]
   refine read_own (R1 := []) rfl (fun k hk => by
    rcases hk with ⟨b, hb, rfl⟩ | ⟨r, hr, _⟩
    ·exact ⟨_, List.mem_cons_self, by rw [List.mem_singleton.1 hb]⟩
    ·cases hr) (by show (1 : Nat) ≠ 0; decide) (fun G8 hle8 hsl8 => ?_)
   have hO : IntsG G8 (.slice A2 a.length c2) a := ints_of hsl8
   refine fin_retH (G := G0) Tryz.results45 ?_
   simp only [go_sem, simprocAttr]
   intro aa w' _ hle
   rw [hm]
   exact ⟨hO.mono (hle G8 (by simp)), _, rfl, hb2.mono (hle G2 (by simp))⟩
def rl (s : RS) : Rul × RS := (⟨(tx s).1, (tk 4 (tx s).2).1 - 1, (tk 4 (tk 4 (tx s).2).2).1 - 1⟩, (tk 4 (tk 4 (tx s).2).2).2)
set_option maxRecDepth 100000 in
set_option maxHeartbeats 8000000 in
theorem rule_does {g : Nat} {rv : Value} {s : RS} {G0 : GW} (hW : G0.Wf) (hh : HandsOk G0.w ⟨[⟨g, 68, [rv, .int .i64 s.f]⟩], []⟩) (hM : ∀ k, Hands.A ⟨[⟨g, 68, [rv, .int .i64 s.f]⟩], []⟩ k → G0.M k) (hb : ByG G0 rv s.l) :
  Calls Tryz.prog 41 #[.pointer (some ⟨g, 0, none⟩)] G0.w (RetH G0 ⟨[⟨g, 68, [rv, .int .i64 s.f]⟩], []⟩ fun y css R G => R = [] ∧ y = .agg #[.string (rl s).1.pre, .int .i64 (rl s).1.freeze, .int .i64 (rl s).1.drop] ∧ ∃ rv', css = [[rv', .int .i64 (rl s).2.f]] ∧ ByG G rv' (rl s).2.l) := by
 obtain ⟨A, c, rfl, hc1, hc2⟩ := hb.form
 have hml := max_le
 refine enterH (n := 16) 3000 ([.c (.p 0 g 0)]) ([⟨0, g, 68, [.v (.slice A s.l.length c), .v (.int .i64 s.f)]⟩]) rfl hW hh hM Tryz.func41 rfl Tryz.ntmps41 (by simp) ?_
 simp only [go_sem, simprocAttr]
 intro g1
 refine pk (callH_does ([0]) ([]) ([]) ([]) (fun y css R G => R = [] ∧ y = .string (tx s).1 ∧ ∃ rv', css = [[rv', .int .i64 (tx s).2.f]] ∧ ByG G rv' (tx s).2.l) upV rfl rfl (by kernel_rfl) rfl (dk rfl) rfl rfl (by simp [ids, Diff]) (by simp) (fun G hG hh hM => rtext_does (s := s) hG.wf hh hM (hb.mono (hG.le G0 (by simp)))) (fun v css R G _ _ => upV_den css)) ?_
 rintro _ ⟨_, css, _, G1, ⟨rfl, rfl, rv1, rfl, hb1⟩, hcs, hle, rfl⟩
 clear hcs hle
 obtain ⟨A1, c1, rfl, hc11, hc12⟩ := hb1.form
 obtain ⟨X1, hX1⟩ : ∃ X, X = tx s := ⟨_, rfl⟩
 rw [← hX1] at hb1 hc11 ⊢
 simp only [go_sem, simprocAttr]
 refine pk (callH_does ([0]) ([]) ([]) ([]) (fun y css R G => R = [] ∧ y = .int .i64 (tk 4 X1.2).1 ∧ ∃ rv', css = [[rv', .int .i64 (tk 4 X1.2).2.f]] ∧ ByG G rv' (tk 4 X1.2).2.l) upV rfl rfl (by kernel_rfl) rfl (dk rfl) rfl rfl (by simp [ids, Diff]) (by simp) (fun G hG hh hM => take_does' (k := 4) (s := X1.2) hG.wf hh hM (hb1.mono (hG.le G1 (by simp))) (.inl (by omega)) (by omega)) (fun v css R G _ _ => upV_den css)) ?_
 rintro _ ⟨_, css, _, G2, ⟨rfl, rfl, rv2, rfl, hb2⟩, hcs, hle, rfl⟩
 clear hcs hle
 obtain ⟨A2, c2, rfl, hc21, hc22⟩ := hb2.form
 have hbd2 := tk_bd (k := 4) X1.2 (by omega)
 obtain ⟨X2, hX2⟩ : ∃ X, X = tk 4 X1.2 := ⟨_, rfl⟩
 rw [← hX2] at hb2 hc21 hbd2 ⊢
 simp only [go_sem, simprocAttr]
 refine ⟨by omega, ?_⟩
 refine pk (callH_does ([0]) ([]) ([]) ([]) (fun y css R G => R = [] ∧ y = .int .i64 (tk 4 X2.2).1 ∧ ∃ rv', css = [[rv', .int .i64 (tk 4 X2.2).2.f]] ∧ ByG G rv' (tk 4 X2.2).2.l) upV rfl rfl (by kernel_rfl) rfl (dk rfl) rfl rfl (by simp [ids, Diff]) (by simp) (fun G hG hh hM => take_does' (k := 4) (s := X2.2) hG.wf hh hM (hb2.mono (hG.le G2 (by simp))) (.inl (by omega)) (by omega)) (fun v css R G _ _ => upV_den css)) ?_
 rintro _ ⟨_, css, _, G3, ⟨rfl, rfl, rv3, rfl, hb3⟩, hcs, hle, rfl⟩
 clear hcs hle
 obtain ⟨A3, c3, rfl, hc31, hc32⟩ := hb3.form
 have hbd3 := tk_bd (k := 4) X2.2 (by omega)
 obtain ⟨X3, hX3⟩ : ∃ X, X = tk 4 X2.2 := ⟨_, rfl⟩
 rw [← hX3] at hb3 hc31 hbd3 ⊢
 simp only [go_sem, simprocAttr]
 refine ⟨by omega, ?_⟩
 have e : rl s = (⟨X1.1, X2.1 - 1, X3.1 - 1⟩, X3.2) := by
  subst hX3
  subst hX2
  subst hX1
  rfl
 rw [e]
 refine fin_retH (G := G0) Tryz.results41 ?_
 simp only [go_sem, simprocAttr]
 intro aa w' _ hle
 exact ⟨_, rfl, hb3.mono (hle G3 (by simp))⟩
def pt1 (s : RS) := tk 1 s
def pt2 (s : RS) := tk 2 (pt1 s).2
def pt3 (s : RS) := its (pt2 s).2
def pt (s : RS) : Prt × RS := (⟨(pt1 s).1, (pt2 s).1, (pt3 s).1⟩, (pt3 s).2)
def ak1 (s : RS) := tk 3 s
def ak2 (s : RS) := tk 2 (ak1 s).2
def ak3 (s : RS) := tk 1 (ak2 s).2
def ak (s : RS) : Ask × RS := (⟨(ak1 s).1, (ak2 s).1, (ak3 s).1⟩, (ak3 s).2)
def vr1 (s : RS) := tk 3 s
def vr2 (s : RS) := tx (vr1 s).2
def vr3 (s : RS) := tx (vr2 s).2
def vr4 (s : RS) := bt (vr3 s).2
def vr5 (s : RS) := bt (vr4 s).2
def vr6 (s : RS) := tk 2 (vr5 s).2
def vr7 (s : RS) := tk 4 (vr6 s).2
def vr8 (s : RS) := tk 1 (vr7 s).2
def vr9 (s : RS) := its (vr8 s).2
def vr10 (s : RS) := tk 1 (vr9 s).2
def vr11 (s : RS) := tk 2 (vr10 s).2
def vr12 (s : RS) := tk 4 (vr11 s).2
def vr (s : RS) : Ver × RS := (⟨(vr1 s).1, (vr2 s).1, (vr3 s).1, (vr4 s).1, (vr5 s).1, (vr6 s).1, (vr7 s).1, (vr8 s).1, (vr9 s).1, (vr10 s).1, (vr11 s).1, (vr12 s).1⟩, (vr12 s).2)
set_option maxRecDepth 100000 in
set_option maxHeartbeats 8000000 in
theorem part_does {g : Nat} {rv : Value} {s : RS} {G0 : GW} (hW : G0.Wf) (hh : HandsOk G0.w ⟨[⟨g, 68, [rv, .int .i64 s.f]⟩], []⟩) (hM : ∀ k, Hands.A ⟨[⟨g, 68, [rv, .int .i64 s.f]⟩], []⟩ k → G0.M k) (hb : ByG G0 rv s.l) :
  Calls Tryz.prog 44 #[.pointer (some ⟨g, 0, none⟩)] G0.w (RetH G0 ⟨[⟨g, 68, [rv, .int .i64 s.f]⟩], []⟩ fun y css R G => R = [] ∧ (∃ sv, y = .agg #[.int .i64 (pt s).1.n, .int .i64 (pt s).1.size, sv] ∧ IntsG G sv (pt s).1.secs) ∧ ∃ rv', css = [[rv', .int .i64 (pt s).2.f]] ∧ ByG G rv' (pt s).2.l) := by
 obtain ⟨A, c, rfl, hc1, hc2⟩ := hb.form
 have hml := max_le
 refine enterH (n := 14) 3000 ([.c (.p 0 g 0)]) ([⟨0, g, 68, [.v (.slice A s.l.length c), .v (.int .i64 s.f)]⟩]) rfl hW hh hM Tryz.func44 rfl Tryz.ntmps44 (by simp) ?_
 simp only [go_sem, simprocAttr]
 intro g1 g2
 refine pk (callH_does ([0]) ([]) ([]) ([]) (fun y css R G => R = [] ∧ y = .int .i64 (tk 1 s).1 ∧ ∃ rv', css = [[rv', .int .i64 (tk 1 s).2.f]] ∧ ByG G rv' (tk 1 s).2.l) upV rfl rfl (by kernel_rfl) rfl (dk rfl) rfl rfl (by simp [ids, Diff]) (by simp) (fun G hG hh hM => take_does' (k := 1) (s := s) hG.wf hh hM (hb.mono (hG.le G0 (by simp))) (.inl (by omega)) (by omega)) (fun v css R G _ _ => upV_den css)) ?_
 rintro _ ⟨_, css, _, G1, ⟨rfl, rfl, rv1, rfl, hb1⟩, hcs, hle, rfl⟩
 clear hcs hle
 obtain ⟨A1, c1, rfl, hc11, hc12⟩ := hb1.form
 have hbd1 := tk_bd (k := 1) s (by omega)
 obtain ⟨X1, hX1⟩ : ∃ X, X = tk 1 s := ⟨_, rfl⟩
 rw [← hX1] at hb1 hc11 hbd1 ⊢
 simp only [go_sem, simprocAttr]
 refine pk (callH_does ([0]) ([]) ([]) ([]) (fun y css R G => R = [] ∧ y = .int .i64 (tk 2 X1.2).1 ∧ ∃ rv', css = [[rv', .int .i64 (tk 2 X1.2).2.f]] ∧ ByG G rv' (tk 2 X1.2).2.l) upV rfl rfl (by kernel_rfl) rfl (dk rfl) rfl rfl (by simp [ids, Diff]) (by simp) (fun G hG hh hM => take_does' (k := 2) (s := X1.2) hG.wf hh hM (hb1.mono (hG.le G1 (by simp))) (.inl (by omega)) (by omega)) (fun v css R G _ _ => upV_den css)) ?_
 rintro _ ⟨_, css, _, G2, ⟨rfl, rfl, rv2, rfl, hb2⟩, hcs, hle, rfl⟩
 clear hcs hle
 obtain ⟨A2, c2, rfl, hc21, hc22⟩ := hb2.form
 have hbd2 := tk_bd (k := 2) X1.2 (by omega)
 obtain ⟨X2, hX2⟩ : ∃ X, X = tk 2 X1.2 := ⟨_, rfl⟩
 rw [← hX2] at hb2 hc21 hbd2 ⊢
 simp only [go_sem, simprocAttr]
 refine pk (callH_does ([0]) ([]) ([]) ([]) (fun y css R G => R = [] ∧ IntsG G y (its X2.2).1 ∧ ∃ rv', css = [[rv', .int .i64 (its X2.2).2.f]] ∧ ByG G rv' (its X2.2).2.l) upV rfl rfl (by kernel_rfl) rfl (dk rfl) rfl rfl (by simp [ids, Diff]) (by simp) (fun G hG hh hM => ints_does (s := X2.2) hG.wf hh hM (hb2.mono (hG.le G2 (by simp)))) (fun v css R G _ _ => upV_den css)) ?_
 rintro _ ⟨_, css, _, G3, ⟨rfl, hiv3, rv3, rfl, hb3⟩, hcs, hle, rfl⟩
 clear hcs hle
 obtain ⟨A3, c3, rfl, hc31, hc32⟩ := hb3.form
 obtain ⟨X3, hX3⟩ : ∃ X, X = its X2.2 := ⟨_, rfl⟩
 rw [← hX3] at hb3 hc31 hiv3 ⊢
 obtain ⟨AI3, ci3, rfl, _⟩ := Sq.form hiv3
 simp only [go_sem, simprocAttr]
 have e : pt s = (⟨X1.1, X2.1, X3.1⟩, X3.2) := by
  subst hX3
  subst hX2
  subst hX1
  rfl
 rw [e]
 refine fin_retH (G := G0) Tryz.results44 ?_
 simp only [go_sem, simprocAttr]
 intro aa w' _ hle
 exact ⟨⟨_, rfl, hiv3.mono (hle G3 (by simp))⟩, _, rfl, hb3.mono (hle G3 (by simp))⟩
set_option maxRecDepth 100000 in
set_option maxHeartbeats 8000000 in
theorem ask_does' {g : Nat} {rv : Value} {s : RS} {G0 : GW} (hW : G0.Wf) (hh : HandsOk G0.w ⟨[⟨g, 68, [rv, .int .i64 s.f]⟩], []⟩) (hM : ∀ k, Hands.A ⟨[⟨g, 68, [rv, .int .i64 s.f]⟩], []⟩ k → G0.M k) (hb : ByG G0 rv s.l) :
  Calls Tryz.prog 43 #[.pointer (some ⟨g, 0, none⟩)] G0.w (RetH G0 ⟨[⟨g, 68, [rv, .int .i64 s.f]⟩], []⟩ fun y css R G => R = [] ∧ y = .agg #[.int .i64 (ak s).1.ver, .int .i64 (ak s).1.days, .int .i64 (ak s).1.cls] ∧ ∃ rv', css = [[rv', .int .i64 (ak s).2.f]] ∧ ByG G rv' (ak s).2.l) := by
 obtain ⟨A, c, rfl, hc1, hc2⟩ := hb.form
 have hml := max_le
 refine enterH (n := 14) 3000 ([.c (.p 0 g 0)]) ([⟨0, g, 68, [.v (.slice A s.l.length c), .v (.int .i64 s.f)]⟩]) rfl hW hh hM Tryz.func43 rfl Tryz.ntmps43 (by simp) ?_
 simp only [go_sem, simprocAttr]
 intro g1 g2
 refine pk (callH_does ([0]) ([]) ([]) ([]) (fun y css R G => R = [] ∧ y = .int .i64 (tk 3 s).1 ∧ ∃ rv', css = [[rv', .int .i64 (tk 3 s).2.f]] ∧ ByG G rv' (tk 3 s).2.l) upV rfl rfl (by kernel_rfl) rfl (dk rfl) rfl rfl (by simp [ids, Diff]) (by simp) (fun G hG hh hM => take_does' (k := 3) (s := s) hG.wf hh hM (hb.mono (hG.le G0 (by simp))) (.inl (by omega)) (by omega)) (fun v css R G _ _ => upV_den css)) ?_
 rintro _ ⟨_, css, _, G1, ⟨rfl, rfl, rv1, rfl, hb1⟩, hcs, hle, rfl⟩
 clear hcs hle
 obtain ⟨A1, c1, rfl, hc11, hc12⟩ := hb1.form
 have hbd1 := tk_bd (k := 3) s (by omega)
 obtain ⟨X1, hX1⟩ : ∃ X, X = tk 3 s := ⟨_, rfl⟩
 rw [← hX1] at hb1 hc11 hbd1 ⊢
 simp only [go_sem, simprocAttr]
 refine pk (callH_does ([0]) ([]) ([]) ([]) (fun y css R G => R = [] ∧ y = .int .i64 (tk 2 X1.2).1 ∧ ∃ rv', css = [[rv', .int .i64 (tk 2 X1.2).2.f]] ∧ ByG G rv' (tk 2 X1.2).2.l) upV rfl rfl (by kernel_rfl) rfl (dk rfl) rfl rfl (by simp [ids, Diff]) (by simp) (fun G hG hh hM => take_does' (k := 2) (s := X1.2) hG.wf hh hM (hb1.mono (hG.le G1 (by simp))) (.inl (by omega)) (by omega)) (fun v css R G _ _ => upV_den css)) ?_
 rintro _ ⟨_, css, _, G2, ⟨rfl, rfl, rv2, rfl, hb2⟩, hcs, hle, rfl⟩
 clear hcs hle
 obtain ⟨A2, c2, rfl, hc21, hc22⟩ := hb2.form
 have hbd2 := tk_bd (k := 2) X1.2 (by omega)
 obtain ⟨X2, hX2⟩ : ∃ X, X = tk 2 X1.2 := ⟨_, rfl⟩
 rw [← hX2] at hb2 hc21 hbd2 ⊢
 simp only [go_sem, simprocAttr]
 refine pk (callH_does ([0]) ([]) ([]) ([]) (fun y css R G => R = [] ∧ y = .int .i64 (tk 1 X2.2).1 ∧ ∃ rv', css = [[rv', .int .i64 (tk 1 X2.2).2.f]] ∧ ByG G rv' (tk 1 X2.2).2.l) upV rfl rfl (by kernel_rfl) rfl (dk rfl) rfl rfl (by simp [ids, Diff]) (by simp) (fun G hG hh hM => take_does' (k := 1) (s := X2.2) hG.wf hh hM (hb2.mono (hG.le G2 (by simp))) (.inl (by omega)) (by omega)) (fun v css R G _ _ => upV_den css)) ?_
 rintro _ ⟨_, css, _, G3, ⟨rfl, rfl, rv3, rfl, hb3⟩, hcs, hle, rfl⟩
 clear hcs hle
 obtain ⟨A3, c3, rfl, hc31, hc32⟩ := hb3.form
 have hbd3 := tk_bd (k := 1) X2.2 (by omega)
 obtain ⟨X3, hX3⟩ : ∃ X, X = tk 1 X2.2 := ⟨_, rfl⟩
 rw [← hX3] at hb3 hc31 hbd3 ⊢
 simp only [go_sem, simprocAttr]
 have e : ak s = (⟨X1.1, X2.1, X3.1⟩, X3.2) := by
  subst hX3
  subst hX2
  subst hX1
  rfl
 rw [e]
 refine fin_retH (G := G0) Tryz.results43 ?_
 simp only [go_sem, simprocAttr]
 intro aa w' _ hle
 exact ⟨_, rfl, hb3.mono (hle G3 (by simp))⟩
set_option maxRecDepth 100000 in
set_option maxHeartbeats 8000000 in
theorem rversion_does {g : Nat} {rv : Value} {s : RS} {G0 : GW} (hW : G0.Wf) (hh : HandsOk G0.w ⟨[⟨g, 68, [rv, .int .i64 s.f]⟩], []⟩) (hM : ∀ k, Hands.A ⟨[⟨g, 68, [rv, .int .i64 s.f]⟩], []⟩ k → G0.M k) (hb : ByG G0 rv s.l) :
  Calls Tryz.prog 42 #[.pointer (some ⟨g, 0, none⟩)] G0.w (RetH G0 ⟨[⟨g, 68, [rv, .int .i64 s.f]⟩], []⟩ fun y css R G => R = [] ∧ (∃ sv, y = .agg (verV (vr s).1 sv).toArray ∧ IntsG G sv (vr s).1.secs) ∧ ∃ rv', css = [[rv', .int .i64 (vr s).2.f]] ∧ ByG G rv' (vr s).2.l) := by
 obtain ⟨A, c, rfl, hc1, hc2⟩ := hb.form
 have hml := max_le
 refine enterH (n := 41) 3000 ([.c (.p 0 g 0)]) ([⟨0, g, 68, [.v (.slice A s.l.length c), .v (.int .i64 s.f)]⟩]) rfl hW hh hM Tryz.func42 rfl Tryz.ntmps42 (by simp) ?_
 simp only [go_sem, simprocAttr]
 intro g1 g2
 refine pk (callH_does ([0]) ([]) ([]) ([]) (fun y css R G => R = [] ∧ y = .int .i64 (tk 3 s).1 ∧ ∃ rv', css = [[rv', .int .i64 (tk 3 s).2.f]] ∧ ByG G rv' (tk 3 s).2.l) upV rfl rfl (by kernel_rfl) rfl (dk rfl) rfl rfl (by simp [ids, Diff]) (by simp) (fun G hG hh hM => take_does' (k := 3) (s := s) hG.wf hh hM (hb.mono (hG.le G0 (by simp))) (.inl (by omega)) (by omega)) (fun v css R G _ _ => upV_den css)) ?_
 rintro _ ⟨_, css, _, G1, ⟨rfl, rfl, rv1, rfl, hb1⟩, hcs, hle, rfl⟩
 clear hcs hle
 obtain ⟨A1, c1, rfl, hc11, hc12⟩ := hb1.form
 have hbd1 := tk_bd (k := 3) s (by omega)
 obtain ⟨X1, hX1⟩ : ∃ X, X = tk 3 s := ⟨_, rfl⟩
 rw [← hX1] at hb1 hc11 hbd1 ⊢
 simp only [go_sem, simprocAttr]
 refine pk (callH_does ([0]) ([]) ([]) ([]) (fun y css R G => R = [] ∧ y = .string (tx X1.2).1 ∧ ∃ rv', css = [[rv', .int .i64 (tx X1.2).2.f]] ∧ ByG G rv' (tx X1.2).2.l) upV rfl rfl (by kernel_rfl) rfl (dk rfl) rfl rfl (by simp [ids, Diff]) (by simp) (fun G hG hh hM => rtext_does (s := X1.2) hG.wf hh hM (hb1.mono (hG.le G1 (by simp)))) (fun v css R G _ _ => upV_den css)) ?_
 rintro _ ⟨_, css, _, G2, ⟨rfl, rfl, rv2, rfl, hb2⟩, hcs, hle, rfl⟩
 clear hcs hle
 obtain ⟨A2, c2, rfl, hc21, hc22⟩ := hb2.form
 obtain ⟨X2, hX2⟩ : ∃ X, X = tx X1.2 := ⟨_, rfl⟩
 rw [← hX2] at hb2 hc21 ⊢
 simp only [go_sem, simprocAttr]
 refine pk (callH_does ([0]) ([]) ([]) ([]) (fun y css R G => R = [] ∧ y = .string (tx X2.2).1 ∧ ∃ rv', css = [[rv', .int .i64 (tx X2.2).2.f]] ∧ ByG G rv' (tx X2.2).2.l) upV rfl rfl (by kernel_rfl) rfl (dk rfl) rfl rfl (by simp [ids, Diff]) (by simp) (fun G hG hh hM => rtext_does (s := X2.2) hG.wf hh hM (hb2.mono (hG.le G2 (by simp)))) (fun v css R G _ _ => upV_den css)) ?_
 rintro _ ⟨_, css, _, G3, ⟨rfl, rfl, rv3, rfl, hb3⟩, hcs, hle, rfl⟩
 clear hcs hle
 obtain ⟨A3, c3, rfl, hc31, hc32⟩ := hb3.form
 obtain ⟨X3, hX3⟩ : ∃ X, X = tx X2.2 := ⟨_, rfl⟩
 rw [← hX3] at hb3 hc31 ⊢
 simp only [go_sem, simprocAttr]
 refine pk (callH_does ([0]) ([]) ([]) ([]) (fun y css R G => R = [] ∧ y = .bool (bt X3.2).1 ∧ ∃ rv', css = [[rv', .int .i64 (bt X3.2).2.f]] ∧ ByG G rv' (bt X3.2).2.l) upV rfl rfl (by kernel_rfl) rfl (dk rfl) rfl rfl (by simp [ids, Diff]) (by simp) (fun G hG hh hM => bit_does (s := X3.2) hG.wf hh hM (hb3.mono (hG.le G3 (by simp)))) (fun v css R G _ _ => upV_den css)) ?_
 rintro _ ⟨_, css, _, G4, ⟨rfl, rfl, rv4, rfl, hb4⟩, hcs, hle, rfl⟩
 clear hcs hle
 obtain ⟨A4, c4, rfl, hc41, hc42⟩ := hb4.form
 obtain ⟨X4, hX4⟩ : ∃ X, X = bt X3.2 := ⟨_, rfl⟩
 rw [← hX4] at hb4 hc41 ⊢
 simp only [go_sem, simprocAttr]
 refine pk (callH_does ([0]) ([]) ([]) ([]) (fun y css R G => R = [] ∧ y = .bool (bt X4.2).1 ∧ ∃ rv', css = [[rv', .int .i64 (bt X4.2).2.f]] ∧ ByG G rv' (bt X4.2).2.l) upV rfl rfl (by kernel_rfl) rfl (dk rfl) rfl rfl (by simp [ids, Diff]) (by simp) (fun G hG hh hM => bit_does (s := X4.2) hG.wf hh hM (hb4.mono (hG.le G4 (by simp)))) (fun v css R G _ _ => upV_den css)) ?_
 rintro _ ⟨_, css, _, G5, ⟨rfl, rfl, rv5, rfl, hb5⟩, hcs, hle, rfl⟩
 clear hcs hle
 obtain ⟨A5, c5, rfl, hc51, hc52⟩ := hb5.form
 obtain ⟨X5, hX5⟩ : ∃ X, X = bt X4.2 := ⟨_, rfl⟩
 rw [← hX5] at hb5 hc51 ⊢
 simp only [go_sem, simprocAttr]
 refine pk (callH_does ([0]) ([]) ([]) ([]) (fun y css R G => R = [] ∧ y = .int .i64 (tk 2 X5.2).1 ∧ ∃ rv', css = [[rv', .int .i64 (tk 2 X5.2).2.f]] ∧ ByG G rv' (tk 2 X5.2).2.l) upV rfl rfl (by kernel_rfl) rfl (dk rfl) rfl rfl (by simp [ids, Diff]) (by simp) (fun G hG hh hM => take_does' (k := 2) (s := X5.2) hG.wf hh hM (hb5.mono (hG.le G5 (by simp))) (.inl (by omega)) (by omega)) (fun v css R G _ _ => upV_den css)) ?_
 rintro _ ⟨_, css, _, G6, ⟨rfl, rfl, rv6, rfl, hb6⟩, hcs, hle, rfl⟩
 clear hcs hle
 obtain ⟨A6, c6, rfl, hc61, hc62⟩ := hb6.form
 have hbd6 := tk_bd (k := 2) X5.2 (by omega)
 obtain ⟨X6, hX6⟩ : ∃ X, X = tk 2 X5.2 := ⟨_, rfl⟩
 rw [← hX6] at hb6 hc61 hbd6 ⊢
 simp only [go_sem, simprocAttr]
 refine pk (callH_does ([0]) ([]) ([]) ([]) (fun y css R G => R = [] ∧ y = .int .i64 (tk 4 X6.2).1 ∧ ∃ rv', css = [[rv', .int .i64 (tk 4 X6.2).2.f]] ∧ ByG G rv' (tk 4 X6.2).2.l) upV rfl rfl (by kernel_rfl) rfl (dk rfl) rfl rfl (by simp [ids, Diff]) (by simp) (fun G hG hh hM => take_does' (k := 4) (s := X6.2) hG.wf hh hM (hb6.mono (hG.le G6 (by simp))) (.inl (by omega)) (by omega)) (fun v css R G _ _ => upV_den css)) ?_
 rintro _ ⟨_, css, _, G7, ⟨rfl, rfl, rv7, rfl, hb7⟩, hcs, hle, rfl⟩
 clear hcs hle
 obtain ⟨A7, c7, rfl, hc71, hc72⟩ := hb7.form
 have hbd7 := tk_bd (k := 4) X6.2 (by omega)
 obtain ⟨X7, hX7⟩ : ∃ X, X = tk 4 X6.2 := ⟨_, rfl⟩
 rw [← hX7] at hb7 hc71 hbd7 ⊢
 simp only [go_sem, simprocAttr]
 refine pk (callH_does ([0]) ([]) ([]) ([]) (fun y css R G => R = [] ∧ y = .int .i64 (tk 1 X7.2).1 ∧ ∃ rv', css = [[rv', .int .i64 (tk 1 X7.2).2.f]] ∧ ByG G rv' (tk 1 X7.2).2.l) upV rfl rfl (by kernel_rfl) rfl (dk rfl) rfl rfl (by simp [ids, Diff]) (by simp) (fun G hG hh hM => take_does' (k := 1) (s := X7.2) hG.wf hh hM (hb7.mono (hG.le G7 (by simp))) (.inl (by omega)) (by omega)) (fun v css R G _ _ => upV_den css)) ?_
 rintro _ ⟨_, css, _, G8, ⟨rfl, rfl, rv8, rfl, hb8⟩, hcs, hle, rfl⟩
 clear hcs hle
 obtain ⟨A8, c8, rfl, hc81, hc82⟩ := hb8.form
 have hbd8 := tk_bd (k := 1) X7.2 (by omega)
 obtain ⟨X8, hX8⟩ : ∃ X, X = tk 1 X7.2 := ⟨_, rfl⟩
 rw [← hX8] at hb8 hc81 hbd8 ⊢
 simp only [go_sem, simprocAttr]
 refine pk (callH_does ([0]) ([]) ([]) ([]) (fun y css R G => R = [] ∧ IntsG G y (its X8.2).1 ∧ ∃ rv', css = [[rv', .int .i64 (its X8.2).2.f]] ∧ ByG G rv' (its X8.2).2.l) upV rfl rfl (by kernel_rfl) rfl (dk rfl) rfl rfl (by simp [ids, Diff]) (by simp) (fun G hG hh hM => ints_does (s := X8.2) hG.wf hh hM (hb8.mono (hG.le G8 (by simp)))) (fun v css R G _ _ => upV_den css)) ?_
 rintro _ ⟨_, css, _, G9, ⟨rfl, hiv9, rv9, rfl, hb9⟩, hcs, hle, rfl⟩
 clear hcs hle
 obtain ⟨A9, c9, rfl, hc91, hc92⟩ := hb9.form
 obtain ⟨X9, hX9⟩ : ∃ X, X = its X8.2 := ⟨_, rfl⟩
 rw [← hX9] at hb9 hc91 hiv9 ⊢
 obtain ⟨AI9, ci9, rfl, _⟩ := Sq.form hiv9
 simp only [go_sem, simprocAttr]
 refine pk (callH_does ([0]) ([]) ([]) ([]) (fun y css R G => R = [] ∧ y = .int .i64 (tk 1 X9.2).1 ∧ ∃ rv', css = [[rv', .int .i64 (tk 1 X9.2).2.f]] ∧ ByG G rv' (tk 1 X9.2).2.l) upV rfl rfl (by kernel_rfl) rfl (dk rfl) rfl rfl (by simp [ids, Diff]) (by simp) (fun G hG hh hM => take_does' (k := 1) (s := X9.2) hG.wf hh hM (hb9.mono (hG.le G9 (by simp))) (.inl (by omega)) (by omega)) (fun v css R G _ _ => upV_den css)) ?_
 rintro _ ⟨_, css, _, G10, ⟨rfl, rfl, rv10, rfl, hb10⟩, hcs, hle, rfl⟩
 clear hcs hle
 obtain ⟨A10, c10, rfl, hc101, hc102⟩ := hb10.form
 have hbd10 := tk_bd (k := 1) X9.2 (by omega)
 obtain ⟨X10, hX10⟩ : ∃ X, X = tk 1 X9.2 := ⟨_, rfl⟩
 rw [← hX10] at hb10 hc101 hbd10 ⊢
 simp only [go_sem, simprocAttr]
 refine pk (callH_does ([0]) ([]) ([]) ([]) (fun y css R G => R = [] ∧ y = .int .i64 (tk 2 X10.2).1 ∧ ∃ rv', css = [[rv', .int .i64 (tk 2 X10.2).2.f]] ∧ ByG G rv' (tk 2 X10.2).2.l) upV rfl rfl (by kernel_rfl) rfl (dk rfl) rfl rfl (by simp [ids, Diff]) (by simp) (fun G hG hh hM => take_does' (k := 2) (s := X10.2) hG.wf hh hM (hb10.mono (hG.le G10 (by simp))) (.inl (by omega)) (by omega)) (fun v css R G _ _ => upV_den css)) ?_
 rintro _ ⟨_, css, _, G11, ⟨rfl, rfl, rv11, rfl, hb11⟩, hcs, hle, rfl⟩
 clear hcs hle
 obtain ⟨A11, c11, rfl, hc111, hc112⟩ := hb11.form
 have hbd11 := tk_bd (k := 2) X10.2 (by omega)
 obtain ⟨X11, hX11⟩ : ∃ X, X = tk 2 X10.2 := ⟨_, rfl⟩
 rw [← hX11] at hb11 hc111 hbd11 ⊢
 simp only [go_sem, simprocAttr]
 refine pk (callH_does ([0]) ([]) ([]) ([]) (fun y css R G => R = [] ∧ y = .int .i64 (tk 4 X11.2).1 ∧ ∃ rv', css = [[rv', .int .i64 (tk 4 X11.2).2.f]] ∧ ByG G rv' (tk 4 X11.2).2.l) upV rfl rfl (by kernel_rfl) rfl (dk rfl) rfl rfl (by simp [ids, Diff]) (by simp) (fun G hG hh hM => take_does' (k := 4) (s := X11.2) hG.wf hh hM (hb11.mono (hG.le G11 (by simp))) (.inl (by omega)) (by omega)) (fun v css R G _ _ => upV_den css)) ?_
 rintro _ ⟨_, css, _, G12, ⟨rfl, rfl, rv12, rfl, hb12⟩, hcs, hle, rfl⟩
 clear hcs hle
 obtain ⟨A12, c12, rfl, hc121, hc122⟩ := hb12.form
 have hbd12 := tk_bd (k := 4) X11.2 (by omega)
 obtain ⟨X12, hX12⟩ : ∃ X, X = tk 4 X11.2 := ⟨_, rfl⟩
 rw [← hX12] at hb12 hc121 hbd12 ⊢
 simp only [go_sem, simprocAttr]
 have e : vr s = (⟨X1.1, X2.1, X3.1, X4.1, X5.1, X6.1, X7.1, X8.1, X9.1, X10.1, X11.1, X12.1⟩, X12.2) := by
  subst hX12
  subst hX11
  subst hX10
  subst hX9
  subst hX8
  subst hX7
  subst hX6
  subst hX5
  subst hX4
  subst hX3
  subst hX2
  subst hX1
  rfl
 rw [e]
 refine fin_retH (G := G0) Tryz.results42 ?_
 simp only [go_sem, simprocAttr]
 intro aa w' _ hle
 exact ⟨⟨_, rfl, hiv9.mono (hle G9 (by simp))⟩, _, rfl, hb12.mono (hle G12 (by simp))⟩
end Go.Proofs.YtohdfcnjcpjdcaaGreatDoor
/- A text's bytes appended to a row. Names no program. Conditions: as each law states them. -/
namespace Go.Proofs.YtohdfcnjcpjdcaaGreatDoor
open Go.RowKit
open Go.Lib (strCells strCells_length strCells_oneCell run_firstCells_string run_append_room_string run_append_grow_string)
set_option linter.unusedSimpArgs false
section
variable {P : Program}
/-- 'append' of a text onto a row of bytes, whether there is room, or not, or none at all -/
theorem run_append_row_str (w : World) (t u ty e : TypeId) (i : TypeInfo) (z : Value) (ht : P.underlying t = some (.slice e)) (hu : P.underlying u = some .string) (hi : P.info? e = some i) (hz : i.zero = some z)
  (hsize : i.size = 1) (hby : i.bytes = 1) (hzs : z.cells.size = 1)
  (v : Value) (n : Nat) (xs : List Value) (hown : RowIs w ⟨v, e, 1, n, xs⟩) (s : ByteArray)
  (h63 : n + s.size ≤ maxLen) (hbytes : n + s.size ≤ 140737488355328) :
  ∃ A' c' w', (Builtin.append_ #[t, u] ty #[v, .string s]).run P w = .ok (.slice A' (n + s.size) c') w' ∧ RowIs w' ⟨.slice A' (n + s.size) c', e, 1, n + s.size, xs ++ strCells s⟩ ∧ w.grownBy w' (rb v) ∧
   ∀ g, rb (.slice A' (n + s.size) c') = some g → rb v = some g ∨ w.heap.size ≤ g := by
 have hsmall : n + s.size ≤ 9223372036854775807 := by simp only [maxLen] at h63; omega
 have fresh : ∀ (old : Nat) (row : Option Nat) (xs : List Value), xs.length = n → old < n + s.size →
   RowIs (w.drew.alloc (.cells (xs.toArray ++ (strCells s).toArray ++ Builtin.zeroCells z.cells (grownCap w (n + s.size) old e - (n + s.size))) e)) ⟨.slice (some ⟨w.heap.size, 0, none⟩) (n + s.size) (grownCap w (n + s.size) old e), e, 1, n + s.size, xs ++ strCells s⟩ ∧
   w.grownBy (w.drew.alloc (.cells (xs.toArray ++ (strCells s).toArray ++ Builtin.zeroCells z.cells (grownCap w (n + s.size) old e - (n + s.size))) e)) row ∧
   ∀ g, rb (.slice (some ⟨w.heap.size, 0, none⟩) (n + s.size) (grownCap w (n + s.size) old e)) = some g → w.heap.size ≤ g := by
  intro old row xs hxl ho
  have hge := grownCap_ge w (n + s.size) old e
  have hcm : grownCap w (n + s.size) old e ≤ maxLen := grownCap_le_maxLen w (n + s.size) old e h63
  have hlen : (xs ++ strCells s).length = (n + s.size) * 1 := by rw [List.length_append, hxl, strCells_length, Nat.mul_one]
  refine ⟨.inr (.inl ⟨hlen, .inr ⟨w.heap.size, _, _, rfl, Nat.zero_le _, heap_alloc_new w.drew _, hge, hcm, ?_, ?_⟩⟩), ⟨rfl, rfl, rfl, by simp, fun k hk _ => Below.heap_alloc w.drew _ k hk⟩, fun g hg => ?_⟩
  ·simp only [Array.size_append, List.size_toArray, size_zeroCells, hzs, hxl, strCells_length]
   omega
  ·simp only [Array.toList_append, List.append_assoc]
   rw [← List.append_assoc, ← hlen]
   exact List.take_left
  ·unfold rb at hg
   simp only at hg
   split at hg
   ·cases hg
   ·cases hg; exact Nat.le_refl _
 have empty : ∀ B, v = .slice B 0 0 → n = 0 → xs = [] → ∃ A' c' w', (Builtin.append_ #[t, u] ty #[v, .string s]).run P w = .ok (.slice A' (n + s.size) c') w' ∧ RowIs w' ⟨.slice A' (n + s.size) c', e, 1, n + s.size, xs ++ strCells s⟩ ∧ w.grownBy w' (rb v) ∧
   ∀ g, rb (.slice A' (n + s.size) c') = some g → rb v = some g ∨ w.heap.size ≤ g := by
  rintro B rfl rfl rfl
  by_cases hm : s.size = 0
  ·have hn : strCells s = [] := List.eq_nil_of_length_eq_zero (by rw [strCells_length]; exact hm)
   have hf := run_firstCells_string (P := P) w 1 s
   rw [hm, hn] at hf
   refine ⟨B, 0, w, ?_, by rw [hm, hn]; exact .inl ⟨B, rfl, rfl, rfl⟩, World.grownBy.refl w _, fun g hg => by rw [hm] at hg; exact .inl hg⟩
   cases B <;> simp [Builtin.append_, run_underlying ht, run_underlying hu, sizeOf, typeInfo, hi, hsize, Builtin.lenOf, hm, hf, storeCells]
  ·obtain ⟨f1, f2, f3⟩ := fresh 0 (rb (.slice B 0 0)) [] rfl (by omega)
   cases B with
   | none =>
    have hr := run_append_nil_string (P := P) w t u ty e i z ht hu hi hz s (by omega) (by omega) (by rw [hby]; omega)
    have e1 : (s.data.map fun b => Value.int .u8 b.toNat) = (strCells s).toArray := by
     apply Array.ext'
     simp [strCells]
    rw [e1] at hr
    simp only [Nat.zero_add, List.nil_append, Array.empty_append] at f1 f2 f3 ⊢
    exact ⟨_, _, _, hr, f1, f2, fun g hg => .inr (f3 g hg)⟩
   | some b =>
    have hr := run_append_grow_string (P := P) w t u ty e i z ht hu hi hz b 0 0 [] (by simp) (by simp) s (by omega) (by omega) (by rw [hby]; exact growslice_fits (by omega) (by omega))
    exact ⟨_, _, _, hr, f1, f2, fun g hg => .inr (f3 g hg)⟩
 rcases row_cases (by omega) hown with ⟨B, hv, hn, hx⟩ | ⟨hvb, h⟩
 ·exact empty B hv hn hx
 ·have hxl : xs.length = n := by simpa using h.1
  have hlen : (xs ++ strCells s).length = (n + s.size) * 1 := by rw [List.length_append, hxl, strCells_length, Nat.mul_one]
  rcases h.2 with ⟨q, q2⟩ | ⟨g, cap, cur, q, hbg, hg, hnc, hcm, hcs, htake⟩
  ·exact empty none q q2 (List.eq_nil_of_length_eq_zero (by rw [hxl]; exact q2))
  ·have q' : v = .slice (some ⟨g, 0, none⟩) n cap := q
   subst q'
   by_cases hroom : n + s.size ≤ cap
   ·have hcs' : cur.size = cap := by simpa using hcs
    have hr := run_append_room_string (P := P) w t u ty e i ht hu hi hsize g n cap cur hg s hroom (by omega)
    refine ⟨_, _, _, hr, .inr (.inl ⟨hlen, .inr ⟨g, cap, _, rfl, hbg, setRow_heap w g cur _ e _ hg, hroom, hcm, ?_, ?_⟩⟩), ⟨rfl, rfl, rfl, by simp, fun k _ hk => setRow_other w g k _ (fun e => hk (by rw [hvb]; simp [Value.ownBlock, e]))⟩, fun k hk => .inl ?_⟩
    ·simp only [List.size_toArray, List.length_append, List.length_take, List.length_drop, Array.length_toList, strCells_length]
     omega
    ·have ht' : cur.toList.take n = xs := by simpa using htake
     rw [ht', ← hlen]
     exact List.take_left
    ·unfold rb at hk ⊢
     exact hk
   ·have holds : ∀ j u, xs[j]? = some u → w.cell? ((⟨g, 0, none⟩ : Addr).add j) = some u := h.cells (g := g) rfl
    have hr := run_append_grow_string (P := P) w t u ty e i z ht hu hi hz ⟨g, 0, none⟩ n cap xs (by rw [hsize]; simpa using hxl) holds s (by omega) (by omega) (by rw [hby]; exact growslice_fits (by omega) (by omega))
    obtain ⟨f1, f2, f3⟩ := fresh cap (rb (.slice (some ⟨g, 0, none⟩) n cap)) xs hxl (by omega)
    exact ⟨_, _, _, hr, f1, f2, fun g hg => .inr (f3 g hg)⟩
variable {E : Env} {σ : St} {o : Oper}
/-- a row of bytes that a text is appended to -/
theorem appendStr_does {s x : Operand} {t u e n : Nat} {bs : ByteArray} {R1 R2 : List Rw} {v : Value} {xs : List Value} (ho : o.op = .call ⟨.builtin .append, #[s, x], #[t, u]⟩) (ht : tSlice P t = some e) (hu : tStr P u = true) (ha : tApp P e = some (1, 1))
  (hR : σ.rows = R1 ++ ⟨v, e, 1, n, xs⟩ :: R2) (hs : ev σ s = some (.c (.v v))) (hx : ev σ x = some (.c (.v (.string bs)))) (hd : dOk E o.dst)
  (h63 : n + bs.size ≤ maxLen) (hb : n + bs.size ≤ 140737488355328) :
  Does P E σ o (fun σ' => ∃ A' c', σ' = (σ.rowsTo (R1 ++ ⟨.slice A' (n + bs.size) c', e, 1, n + bs.size, xs ++ strCells bs⟩ :: R2)).put o.dst (.c (.v (.slice A' (n + bs.size) c')))) := by
 intro a w Q next hr hnx
 obtain ⟨i, z, hi, hz, hk, hby, hzs, h0⟩ := tApp_spec ha
 have hrow := hr.rows _ (by rw [hR]; simp : (⟨v, e, 1, n, xs⟩ : Rw) ∈ σ.rows)
 have hs' : a.eval s = v := ev_den hr.see hs
 have hx' : a.eval x = .string bs := ev_den hr.see hx
 obtain ⟨A', c', w', hrun, hown, hg, hat⟩ := run_append_row_str (P := P) w t u o.type e i z (tSlice_spec ht) (tStr_spec hu) hi hz hk hby hzs v n xs hrow.is bs h63 hb
 unfold Oper.wp execOp
 simp only [ho, resolve, invoke, builtin, Sem.run_bind, Sem.run_pure, Result.andThen_ok, List.map_toArray, List.map_cons, List.map_nil, hs', hx', hrun]
 exact hnx _ _ _ ⟨A', c', rfl⟩ ((hr.grow (r' := ⟨.slice A' (n + bs.size) c', e, 1, n + bs.size, xs ++ strCells bs⟩) hR hg hown hat).put o.dst (.c (.v (.slice A' (n + bs.size) c'))) (dOk_lt hd))
end
end Go.Proofs.YtohdfcnjcpjdcaaGreatDoor
