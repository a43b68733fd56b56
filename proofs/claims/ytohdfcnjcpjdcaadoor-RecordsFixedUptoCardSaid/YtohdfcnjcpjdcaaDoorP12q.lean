/- Shifts, 'or', texts of bytes; numbers as bytes and back. Names no program. Conditions: as each law states them. -/
import Derived.Test.YtohdfcnjcpjdcaaDoorP11q
namespace Go.Proofs.YtohdfcnjcpjdcaaDoor
open Go.RowKit
set_option linter.unusedSimpArgs false
section
variable {P : Program} {E : Env} {σ : St} {o : Oper}
theorem in_i64 {x : Int} (h0 : -9223372036854775808 ≤ x) (h1 : x ≤ 9223372036854775807) : inR .i64 x := ⟨h0, h1⟩
theorem shl_does {ty t2 : TypeId} {x y : Operand} {a b m : Int} {kk : IntKind} (ho : o.op = .binOp .shl ty x y t2) (hx : ev σ x = some (.c (.v (.int .i64 a)))) (hy : ev σ y = some (.c (.v (.int kk b)))) (h0 : 0 ≤ b) (h1 : b ≤ 64) (hm : (2 : Int) ^ b.toNat = m) (hd : dOk E o.dst)
    (hr0 : -9223372036854775808 ≤ a * m) (hr1 : a * m ≤ 9223372036854775807) :
    Does P E σ o (fun σ' => σ' = σ.put o.dst (.c (.v (.int .i64 (a * m))))) := by
  intro ac w Q next hr hn
  have hx' : ac.eval x = .int .i64 a := ev_den hr.see hx
  have hy' : ac.eval y = .int kk b := ev_den hr.see hy
  have hrun : (execOp ac.eval o).run P w = .ok (.value (.int .i64 (a * m))) w := by
    unfold execOp
    simp only [ho, hx', hy', eqGuard_shl, binOp_shl, shift_shl .i64 kk a b h0 h1, hm, wrap_inR (in_i64 hr0 hr1), Sem.run_bind, Sem.run_pure, Result.andThen_ok]
  exact wp_of_value hrun (hn _ _ _ rfl (hr.put o.dst (.c (.v _)) (dOk_lt hd)))
theorem or_nat {n c : Nat} (hc : c < 256) (h : n * 256 + c < 9223372036854775808) : (BitVec.ofNat 64 (n * 256) ||| BitVec.ofNat 64 c).toNat = n * 256 + c := by
  have hb : 9223372036854775808 ≤ 18446744073709551616 := by decide
  have h1 : n * 256 < 18446744073709551616 := Nat.lt_of_lt_of_le (Nat.lt_of_le_of_lt (Nat.le_add_right _ _) h) hb
  have h2 : c < 18446744073709551616 := Nat.lt_of_lt_of_le (Nat.lt_of_le_of_lt (Nat.le_add_left _ _) h) hb
  have h3 : n * 256 = 2 ^ 8 * n := by rw [Nat.mul_comm]
  rw [BitVec.toNat_or, BitVec.toNat_ofNat, BitVec.toNat_ofNat, Nat.mod_eq_of_lt h1, Nat.mod_eq_of_lt h2, h3]
  exact (Nat.two_pow_add_eq_or_of_lt (i := 8) (b := c) hc n).symm
theorem or_low {n c : Nat} (hc : c < 256) (h : n * 256 + c < 9223372036854775808) : Op.intBits .or .i64 ((n : Int) * 256) (c : Int) = pure (.int .i64 ((n : Int) * 256 + (c : Int))) := by
  have e3 := or_nat hc h
  have hw : IntKind.wrap .i64 ((n * 256 + c : Nat) : Int) = (n : Int) * 256 + (c : Int) := by rw [wrap_inR (in_i64 (by omega) (by omega))]; omega
  have e1 : BitVec.ofInt 64 ((n : Int) * 256) = BitVec.ofNat 64 (n * 256) := BitVec.ofInt_natCast 64 (n * 256)
  have e2 : BitVec.ofInt 64 (c : Int) = BitVec.ofNat 64 c := BitVec.ofInt_natCast 64 c
  show pure (Value.int .i64 (IntKind.wrap .i64 ((BitVec.ofInt 64 ((n : Int) * 256) ||| BitVec.ofInt 64 (c : Int)).toNat : Int))) = _
  rw [e1, e2, e3, hw]
theorem or_does {ty t2 : TypeId} {x y : Operand} {n c : Nat} {a b : Int} (ho : o.op = .binOp .or ty x y t2) (hx : ev σ x = some (.c (.v (.int .i64 a)))) (hy : ev σ y = some (.c (.v (.int .i64 b)))) (ha : a = (n : Int) * 256) (hb : b = (c : Int)) (hc : c < 256) (h : n * 256 + c < 9223372036854775808) (hd : dOk E o.dst) :
    Does P E σ o (fun σ' => σ' = σ.put o.dst (.c (.v (.int .i64 ((n : Int) * 256 + (c : Int)))))) := by
  intro ac w Q next hr hn
  subst ha
  subst hb
  have hx' : ac.eval x = .int .i64 ((n : Int) * 256) := ev_den hr.see hx
  have hy' : ac.eval y = .int .i64 (c : Int) := ev_den hr.see hy
  have hrun : (execOp ac.eval o).run P w = .ok (.value (.int .i64 ((n : Int) * 256 + (c : Int)))) w := by
    unfold execOp
    simp only [ho, hx', hy', eqGuard_or, binOp_or, or_low hc h, Sem.run_bind, Sem.run_pure, Result.andThen_ok]
  exact wp_of_value hrun (hn _ _ _ rfl (hr.put o.dst (.c (.v _)) (dOk_lt hd)))
/-- a shift to the right by a number of bits that is known; m: the power of two -/
theorem shr_does {ty t2 : TypeId} {x y : Operand} {a b m : Int} {kk : IntKind} (ho : o.op = .binOp .shr ty x y t2) (hx : ev σ x = some (.c (.v (.int .i64 a)))) (hy : ev σ y = some (.c (.v (.int kk b)))) (h0 : 0 ≤ b) (h1 : b ≤ 64) (hm : (2 : Int) ^ b.toNat = m) (hd : dOk E o.dst) :
    Does P E σ o (fun σ' => σ' = σ.put o.dst (.c (.v (.int .i64 (a / m))))) := by
  intro ac w Q next hr hn
  have hx' : ac.eval x = .int .i64 a := ev_den hr.see hx
  have hy' : ac.eval y = .int kk b := ev_den hr.see hy
  have hrun : (execOp ac.eval o).run P w = .ok (.value (.int .i64 (a / m))) w := by
    unfold execOp
    simp only [ho, hx', hy', eqGuard_shr, binOp_shr, shift_shr .i64 kk a b h0 h1, hm, Sem.run_bind, Sem.run_pure, Result.andThen_ok]
  exact wp_of_value hrun (hn _ _ _ rfl (hr.put o.dst (.c (.v _)) (dOk_lt hd)))
theorem tStr_spec {t : TypeId} (h : tStr P t = true) : P.underlying t = some .string := by
  unfold tStr at h
  split at h
  · rename_i hh; exact hh
  · cases h
theorem strOf_enc (bs : List UInt8) : strOfNums (bs.map fun b => (b.toNat : Int)) = ⟨bs.toArray⟩ := by
  unfold strOfNums
  congr 1
  rw [List.map_map]
  congr 1
  conv => rhs; rw [← List.map_id bs]
  apply List.map_congr_left
  intro b _
  simp
/-- bytes as a text -/
theorem text_does {src dst e : TypeId} {x : Operand} {v : Value} {bs : List UInt8} (ho : o.op = .convert src dst x) (h1 : tStr P dst = true) (h2 : tSlice P src = some e) (h3 : tInt P e = some .u8)
    (hx : ev σ x = some (.c (.v v))) (hd : dOk E o.dst) (hb : ∀ G : GW, Now E σ G → Byt e G v bs) :
    Does P E σ o (fun σ' => σ' = σ.put o.dst (.c (.v (.string ⟨bs.toArray⟩)))) := by
  intro a w Q next hr hn
  have hx' : a.eval x = v := ev_den hr.see hx
  obtain ⟨A, c, rfl, hc1, hc2, hl, hbk⟩ := hb _ hr.now
  have hrun : (convert src dst (.slice A bs.length c)).run P w = .ok (.string ⟨bs.toArray⟩) w := by
    cases bs with
    | nil =>
      cases A with
      | none => exact run_convert_bytes_nil w src e (tSlice_spec h2) (tInt_spec h3) 0 c dst (tStr_spec h1)
      | some ad =>
        simp [convert, run_underlying (tSlice_spec h2), run_underlying (tStr_spec h1), run_underlying (tInt_spec h3), Conv.bytesToString, loadCells, loadCellsFrom]
        rfl
    | cons b r =>
      obtain ⟨g, o', cur, fr, rfl, _, hbl, hcell⟩ := hbk (by simp)
      have := run_convert_bytes_arg w src e (tSlice_spec h2) (tInt_spec h3) g o' (b :: r).length c ((b :: r).map fun b => (b.toNat : Int)) (by simp) (fun i hi => by
        rw [cell_of_block hbl]
        refine hcell i _ ?_
        rw [List.getElem?_map, List.getElem?_eq_getElem hi]
        rw [List.getD_eq_getElem?_getD, List.getElem?_map, List.getElem?_eq_getElem hi]
        rfl) dst (tStr_spec h1)
      rw [strOf_enc] at this
      exact this
  have hrun2 : (execOp a.eval o).run P w = .ok (.value (.string ⟨bs.toArray⟩)) w := by
    unfold execOp
    simp only [ho, hx', Sem.run_bind, hrun, Result.andThen_ok, Sem.run_pure]
  exact wp_of_value hrun2 (hn _ _ _ rfl (hr.put o.dst (.c (.v (.string ⟨bs.toArray⟩))) (dOk_lt hd)))
end
theorem pow8 (k : Nat) : (2 : Int) ^ (8 * (k : Int)).toNat = 256 ^ k := by
  rw [show (8 * (k : Int)).toNat = 8 * k by omega, Int.pow_mul]
  rfl
def byteOf (n : Int) : UInt8 := UInt8.ofNat (HMod.hMod n 256).toNat
/-- a number as bytes, the highest first -/
def numB (n : Int) : Nat → List UInt8
  | 0 => []
  | k + 1 => byteOf (n / 256 ^ k) :: numB n k
theorem numB_len (n : Int) : ∀ k, (numB n k).length = k
  | 0 => rfl
  | k + 1 => by rw [numB, List.length_cons, numB_len n k]
/-- the value of bytes -/
def valFrom (n : Int) : List UInt8 → Int
  | [] => n
  | c :: l => valFrom (n * 256 + (c.toNat : Int)) l
def valB (l : List UInt8) : Int := valFrom 0 l
theorem byteOf_val (n : Int) : ((byteOf n).toNat : Int) = HMod.hMod n 256 := by
  have h0 := Int.emod_nonneg n (b := 256) (by omega)
  have h1 := Int.emod_lt_of_pos n (b := 256) (by omega)
  unfold byteOf
  rw [UInt8.toNat_ofNat']
  omega
theorem valB_1 (n : Int) (h0 : 0 ≤ n) (h1 : n < 256) : valB (numB n 1) = n := by
  simp only [numB, valB, valFrom, byteOf_val, Int.pow_zero]
  omega
theorem valB_2 (n : Int) (h0 : 0 ≤ n) (h1 : n < 65536) : valB (numB n 2) = n := by
  simp only [numB, valB, valFrom, byteOf_val]
  omega
theorem valB_4 (n : Int) (h0 : 0 ≤ n) (h1 : n < 4294967296) : valB (numB n 4) = n := by
  simp only [numB, valB, valFrom, byteOf_val]
  omega
theorem valFrom_app (n : Int) : ∀ (l : List UInt8) (c : UInt8), valFrom n (l ++ [c]) = valFrom n l * 256 + (c.toNat : Int)
  | [], _ => rfl
  | x :: l, c => valFrom_app (n * 256 + (x.toNat : Int)) l c
theorem valFrom_bd : ∀ (l : List UInt8) (n : Int), 0 ≤ n → 0 ≤ valFrom n l ∧ valFrom n l < (n + 1) * ((256 ^ l.length : Nat) : Int)
  | [], n, h => by simp only [valFrom, List.length_nil, Nat.pow_zero]; omega
  | x :: l, n, h => by
    have hx := x.toNat_lt
    obtain ⟨h1, h2⟩ := valFrom_bd l (n * 256 + (x.toNat : Int)) (by omega)
    refine ⟨h1, Int.lt_of_lt_of_le h2 ?_⟩
    rw [List.length_cons, Nat.pow_succ, Int.natCast_mul, Int.mul_comm (((256 ^ l.length : Nat) : Int)) _, ← Int.mul_assoc]
    exact Int.mul_le_mul_of_nonneg_right (by omega) (Int.natCast_nonneg _)
theorem valB_bd (l : List UInt8) : 0 ≤ valB l ∧ valB l < ((256 ^ l.length : Nat) : Int) := by
  have := valFrom_bd l 0 (by omega)
  rw [Int.zero_add, Int.one_mul] at this
  exact this
theorem byteOf_nat (c : UInt8) (n : Int) : byteOf (n * 256 + (c.toNat : Int)) = c := by
  apply UInt8.toNat_inj.1
  have h := byteOf_val (n * 256 + (c.toNat : Int))
  have hc := c.toNat_lt
  omega
theorem valFrom_split : ∀ (l : List UInt8) (n : Int), valFrom n l = n * ((256 ^ l.length : Nat) : Int) + valB l
  | [], n => by simp [valFrom, valB]
  | c :: l, n => by
    unfold valB
    rw [valFrom, valFrom, valFrom_split l (n * 256 + _), valFrom_split l (0 * 256 + _), List.length_cons, Nat.pow_succ, Int.natCast_mul, Int.add_mul, Int.zero_mul, Int.zero_add, Int.mul_assoc, Int.mul_comm (256 : Int)]
    show _ = _ + _
    rw [← Int.add_assoc]
    rfl
/-- a number's bytes are those that it was read from -/
theorem numB_val : ∀ (l : List UInt8) (n : Int), numB (valFrom n l) l.length = l
  | [], _ => rfl
  | c :: l, n => by
    rw [List.length_cons, numB]
    have hb := valB_bd l
    have hp : (0 : Int) < ((256 ^ l.length : Nat) : Int) := by
      have : 0 < 256 ^ l.length := Nat.pow_pos (by omega)
      omega
    have e1 : valFrom n (c :: l) = (n * 256 + (c.toNat : Int)) * ((256 ^ l.length : Nat) : Int) + valB l := by rw [valFrom, valFrom_split]
    have e2 : valFrom n (c :: l) / 256 ^ l.length = n * 256 + (c.toNat : Int) := by
      rw [e1, show (256 : Int) ^ l.length = ((256 ^ l.length : Nat) : Int) by simp, Int.add_comm, Int.add_mul_ediv_right _ _ (by omega), Int.ediv_eq_zero_of_lt hb.1 hb.2, Int.zero_add]
    rw [e2, byteOf_nat]
    congr 1
    exact numB_val l (n * 256 + (c.toNat : Int))
theorem numB_valB (l : List UInt8) : numB (valB l) l.length = l := numB_val l 0
end Go.Proofs.YtohdfcnjcpjdcaaDoor
