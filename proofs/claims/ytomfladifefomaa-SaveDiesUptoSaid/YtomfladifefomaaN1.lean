/- ring.number, ring.value: numbers as bytes, and back. Conditions: as each law states them. -/
import Derived.Test.YtomfladifefomaaR2
import Derived.Test.YtomfladifefomaaP1
namespace Go.Proofs.Ytomfladifefomaa
open Go.RowKit
set_option linter.unusedSimpArgs false
section
variable {P : Program} {E : Env} {σ : St} {o : Oper}
theorem in_i64 {x : Int} (h0 : -9223372036854775808 ≤ x) (h1 : x ≤ 9223372036854775807) : inR .i64 x := ⟨h0, h1⟩
theorem shl_does {ty t2 : TypeId} {x y : Operand} {a b m : Int} {kk : IntKind} (ho : o.op = .binOp .shl ty x y t2) (hx : ev σ x = some (.c (.v (.int .i64 a)))) (hy : ev σ y = some (.c (.v (.int kk b)))) (h0 : 0 ≤ b) (h1 : b ≤ 64) (hm : (2 : Int) ^ b.toNat = m) (hd : dOk E o.dst)
    (hr0 : -9223372036854775808 ≤ a * m) (hr1 : a * m ≤ 9223372036854775807) :
    Does P E σ o (fun σ' => σ' = σ.put o.dst (.c (.v (.int .i64 (a * m))))) := by
  intro ac w Q next hr hn
  have hx' : ac.eval x = .int .i64 a := ev_den hr.see hx
  have hy' : ac.eval y = .int kk b := ev_den hr.see hy
  have hrun : (execOp ac.eval o).run P w = .ok (.value (.int .i64 (a * m))) w := by
    unfold execOp
    simp only [ho, hx', hy', eqGuard_shl, binOp_shl, shift_shl .i64 kk a b h0 h1, hm, wrap_inR (in_i64 hr0 hr1), Sem.run_bind, Sem.run_pure, Result.andThen_ok]
  exact wp_of_value hrun (hn _ _ _ rfl (hr.put o.dst (.c (.v _)) (dOk_lt hd)))
theorem or_nat {n c : Nat} (hc : c < 256) (h : n * 256 + c < 9223372036854775808) : (BitVec.ofNat 64 (n * 256) ||| BitVec.ofNat 64 c).toNat = n * 256 + c := by
  have hb : 9223372036854775808 ≤ 18446744073709551616 := by decide
  have h1 : n * 256 < 18446744073709551616 := Nat.lt_of_lt_of_le (Nat.lt_of_le_of_lt (Nat.le_add_right _ _) h) hb
  have h2 : c < 18446744073709551616 := Nat.lt_of_lt_of_le (Nat.lt_of_le_of_lt (Nat.le_add_left _ _) h) hb
  have h3 : n * 256 = 2 ^ 8 * n := by rw [Nat.mul_comm]
  rw [BitVec.toNat_or, BitVec.toNat_ofNat, BitVec.toNat_ofNat, Nat.mod_eq_of_lt h1, Nat.mod_eq_of_lt h2, h3]
  exact (Nat.two_pow_add_eq_or_of_lt (i := 8) (b := c) hc n).symm
theorem or_low {n c : Nat} (hc : c < 256) (h : n * 256 + c < 9223372036854775808) : Op.intBits .or .i64 ((n : Int) * 256) (c : Int) = pure (.int .i64 ((n : Int) * 256 + (c : Int))) := by
  have e3 := or_nat hc h
  have hw : IntKind.wrap .i64 ((n * 256 + c : Nat) : Int) = (n : Int) * 256 + (c : Int) := by rw [wrap_inR (in_i64 (by omega) (by omega))]; omega
  have e1 : BitVec.ofInt 64 ((n : Int) * 256) = BitVec.ofNat 64 (n * 256) := BitVec.ofInt_natCast 64 (n * 256)
  have e2 : BitVec.ofInt 64 (c : Int) = BitVec.ofNat 64 c := BitVec.ofInt_natCast 64 c
  show pure (Value.int .i64 (IntKind.wrap .i64 ((BitVec.ofInt 64 ((n : Int) * 256) ||| BitVec.ofInt 64 (c : Int)).toNat : Int))) = _
  rw [e1, e2, e3, hw]
theorem or_does {ty t2 : TypeId} {x y : Operand} {n c : Nat} {a b : Int} (ho : o.op = .binOp .or ty x y t2) (hx : ev σ x = some (.c (.v (.int .i64 a)))) (hy : ev σ y = some (.c (.v (.int .i64 b)))) (ha : a = (n : Int) * 256) (hb : b = (c : Int)) (hc : c < 256) (h : n * 256 + c < 9223372036854775808) (hd : dOk E o.dst) :
    Does P E σ o (fun σ' => σ' = σ.put o.dst (.c (.v (.int .i64 ((n : Int) * 256 + (c : Int)))))) := by
  intro ac w Q next hr hn
  subst ha
  subst hb
  have hx' : ac.eval x = .int .i64 ((n : Int) * 256) := ev_den hr.see hx
  have hy' : ac.eval y = .int .i64 (c : Int) := ev_den hr.see hy
  have hrun : (execOp ac.eval o).run P w = .ok (.value (.int .i64 ((n : Int) * 256 + (c : Int)))) w := by
    unfold execOp
    simp only [ho, hx', hy', eqGuard_or, binOp_or, or_low hc h, Sem.run_bind, Sem.run_pure, Result.andThen_ok]
  exact wp_of_value hrun (hn _ _ _ rfl (hr.put o.dst (.c (.v _)) (dOk_lt hd)))
end
theorem pow8 (k : Nat) : (2 : Int) ^ (8 * (k : Int)).toNat = 256 ^ k := by
  rw [show (8 * (k : Int)).toNat = 8 * k by omega, Int.pow_mul]
  rfl
set_option maxRecDepth 100000 in
set_option maxHeartbeats 4000000 in
theorem number_does {n : Int} {many : Nat} (hm : many ≤ 8) {G0 : GW} (hW : G0.Wf) :
    Calls Try.prog 89 #[.int .i64 n, .int .i64 (many : Int)] G0.w (Ret G0 fun v G => ∃ A c, v = .slice A many c ∧ ByG G (.slice A many c) (numB n many)) := by
  refine enter (G := G0) (n := 22) 3000 hW Try.func89 rfl Try.ntmps89 (by simp) ?_
  simp only [go_sem, Nat.reduceAdd, Nat.reduceSub, Nat.reduceMul, Nat.reduceEqDiff, Nat.reduceLT, Nat.reduceLeDiff, Nat.reduceBEq, Nat.reduceBNe, Int.reduceLT, Int.reduceLE, Int.reduceEq, Int.reduceAdd, Int.reduceSub, Int.reduceNeg, reduceCtorEq]
  refine ⟨by omega, ?_⟩
  refine row_ok 5 1 ?_
  refine loop_ok (N := 3000) (ι := Nat × Option Addr × Nat × List UInt8)
    (fun i => match i with | (r, A, c, a) => ⟨[(0, .c (.v (.int .i64 n))), (5, .c (.v (.slice A a.length c))), (6, .c (.v (.int .i64 ((r : Int) - 1))))], [], [⟨.slice A a.length c, 5, 1, a.length, a.map enc8⟩], [], [G0], 0⟩)
    (fun i => match i with | (r, _, _, a) => a.length + r = many ∧ a ++ numB n r = numB n many) (fun i => i.1) (QOk_body _ _ _) (many, none, 0, []) ⟨by simp, rfl⟩ (by simp only [go_sem, Nat.reduceAdd, Nat.reduceSub, Nat.reduceMul, Nat.reduceEqDiff, Nat.reduceLT, Nat.reduceLeDiff, Nat.reduceBEq, Nat.reduceBNe, Int.reduceLT, Int.reduceLE, Int.reduceEq, Int.reduceAdd, Int.reduceSub, Int.reduceNeg, reduceCtorEq]; simp) ?_
  rintro ⟨r, A, c, a⟩ ⟨hr, ha⟩
  simp only
  cases r with
  | zero =>
    have q1 : decide (0 ≤ ((0 : Nat) : Int) - 1) = false := decide_eq_false (by omega)
    have hl : a.length = many := by omega
    have ha : a = numB n many := by rw [← ha]; simp [numB]
    simp only [go_sem, Nat.reduceAdd, Nat.reduceSub, Nat.reduceMul, Nat.reduceEqDiff, Nat.reduceLT, Nat.reduceLeDiff, Nat.reduceBEq, Nat.reduceBNe, Int.reduceLT, Int.reduceLE, Int.reduceEq, Int.reduceAdd, Int.reduceSub, Int.reduceNeg, reduceCtorEq, q1]
    refine read_ok (R1 := []) rfl fun G3 hle3 hs3 => ?_
    refine fin_ret (G := G0) Try.results89 ?_
    simp only [go_sem, Nat.reduceAdd, Nat.reduceSub, Nat.reduceMul, Nat.reduceEqDiff, Nat.reduceLT, Nat.reduceLeDiff, Nat.reduceBEq, Nat.reduceBNe, Int.reduceLT, Int.reduceLE, Int.reduceEq, Int.reduceAdd, Int.reduceSub, Int.reduceNeg, reduceCtorEq]
    intro aa w' _ hle
    refine ⟨A, c, by rw [hl]; rfl, ?_⟩
    rw [← ha, ← hl]
    exact hs3.mono (hle G3 (by simp))
  | succ r =>
    have q1 : decide (0 ≤ ((r + 1 : Nat) : Int) - 1) = true := decide_eq_true (by omega)
    have e0 : ((r + 1 : Nat) : Int) - 1 = (r : Int) := by omega
    rw [e0] at q1 ⊢
    simp only [go_sem, Nat.reduceAdd, Nat.reduceSub, Nat.reduceMul, Nat.reduceEqDiff, Nat.reduceLT, Nat.reduceLeDiff, Nat.reduceBEq, Nat.reduceBNe, Int.reduceLT, Int.reduceLE, Int.reduceEq, Int.reduceAdd, Int.reduceSub, Int.reduceNeg, reduceCtorEq, q1]
    refine ⟨by omega, ?_⟩
    refine plain_ok (N := 3000) (shr_does (m := 256 ^ r) rfl rfl rfl (by omega) (by omega) (pow8 r) (by simp only [dOk_some, dOk_none, Nat.reduceLT])) (QOk_body _ _ _) (by first | exact .inl rfl | exact .inr ⟨_, _, rfl, rfl⟩) ?_
    rintro _ rfl
    simp only [go_sem, Nat.reduceAdd, Nat.reduceSub, Nat.reduceMul, Nat.reduceEqDiff, Nat.reduceLT, Nat.reduceLeDiff, Nat.reduceBEq, Nat.reduceBNe, Int.reduceLT, Int.reduceLE, Int.reduceEq, Int.reduceAdd, Int.reduceSub, Int.reduceNeg, reduceCtorEq]
    intro g1
    refine plain_ok (N := 3000) (append_does (R1 := []) (m := 1) (news := [.int .u8 (HMod.hMod (n / 256 ^ r) 256)]) rfl tySlice23 tyApp5 rfl rfl rfl rfl (by simp only [dOk_some, dOk_none, Nat.reduceLT]) (by intro u hu; simp at hu; rcases hu with rfl; rfl) (by unfold maxLen; omega) (by omega) (fun G hG => tsl_blk hG (b := ⟨0, g1, 5, [.v (.int .u8 (HMod.hMod (n / 256 ^ r) 256))]⟩) (by simp) rfl (by unfold maxLen; omega))) (QOk_body _ _ _) (by first | exact .inl rfl | exact .inr ⟨_, _, rfl, rfl⟩) ?_
    rintro _ ⟨A2, c2, rfl⟩
    simp only [go_sem, Nat.reduceAdd, Nat.reduceSub, Nat.reduceMul, Nat.reduceEqDiff, Nat.reduceLT, Nat.reduceLeDiff, Nat.reduceBEq, Nat.reduceBNe, Int.reduceLT, Int.reduceLE, Int.reduceEq, Int.reduceAdd, Int.reduceSub, Int.reduceNeg, reduceCtorEq]
    have e2 : a.map enc8 ++ [.int .u8 (HMod.hMod (n / 256 ^ r) 256)] = (a ++ [byteOf (n / 256 ^ r)]).map enc8 := by
      rw [byteOf_enc]
      simp
    have e3 : a.length + 1 = (a ++ [byteOf (n / 256 ^ r)]).length := by simp
    rw [e2, e3]
    exact ⟨by omega, again_ok (r, A2, c2, a ++ [byteOf (n / 256 ^ r)]) ⟨by simp only [List.length_append, List.length_singleton]; omega, by rw [← ha, numB]; simp⟩ (by simp only; omega) (by simp only [go_sem, Nat.reduceAdd, Nat.reduceSub, Nat.reduceMul, Nat.reduceEqDiff, Nat.reduceLT, Nat.reduceLeDiff, Nat.reduceBEq, Nat.reduceBNe, Int.reduceLT, Int.reduceLE, Int.reduceEq, Int.reduceAdd, Int.reduceSub, Int.reduceNeg, reduceCtorEq]; simp)⟩
theorem valFrom_app (n : Int) : ∀ (l : List UInt8) (c : UInt8), valFrom n (l ++ [c]) = valFrom n l * 256 + (c.toNat : Int)
  | [], _ => rfl
  | x :: l, c => valFrom_app (n * 256 + (x.toNat : Int)) l c
theorem valFrom_bd : ∀ (l : List UInt8) (n : Int), 0 ≤ n → 0 ≤ valFrom n l ∧ valFrom n l < (n + 1) * ((256 ^ l.length : Nat) : Int)
  | [], n, h => by simp only [valFrom, List.length_nil, Nat.pow_zero]; omega
  | x :: l, n, h => by
    have hx := x.toNat_lt
    obtain ⟨h1, h2⟩ := valFrom_bd l (n * 256 + (x.toNat : Int)) (by omega)
    refine ⟨h1, Int.lt_of_lt_of_le h2 ?_⟩
    rw [List.length_cons, Nat.pow_succ, Int.natCast_mul, Int.mul_comm (((256 ^ l.length : Nat) : Int)) _, ← Int.mul_assoc]
    exact Int.mul_le_mul_of_nonneg_right (by omega) (Int.natCast_nonneg _)
theorem valB_bd (l : List UInt8) : 0 ≤ valB l ∧ valB l < ((256 ^ l.length : Nat) : Int) := by
  have := valFrom_bd l 0 (by omega)
  rw [Int.zero_add, Int.one_mul] at this
  exact this
set_option maxRecDepth 100000 in
set_option maxHeartbeats 4000000 in
theorem value_does {bv : Value} {b : List UInt8} (hl : b.length ≤ 6) {G0 : GW} (hW : G0.Wf) (hb : ByG G0 bv b) :
    Calls Try.prog 93 #[bv] G0.w (Ret G0 fun v _ => v = .int .i64 (valB b)) := by
  obtain ⟨A, c, rfl, hc1, hc2⟩ := hb.form
  refine enter (G := G0) (n := 19) 3000 hW Try.func93 rfl Try.ntmps93 (by simp) ?_
  simp only [go_sem, Nat.reduceAdd, Nat.reduceSub, Nat.reduceMul, Nat.reduceEqDiff, Nat.reduceLT, Nat.reduceLeDiff, Nat.reduceBEq, Nat.reduceBNe, Int.reduceLT, Int.reduceLE, Int.reduceEq, Int.reduceAdd, Int.reduceSub, Int.reduceNeg, reduceCtorEq]
  refine loop_ok (N := 3000) (ι := Nat × Nat × GW)
    (fun i => match i with | (v, n, G) => ⟨[(3, .c (.v (.int .i64 (n : Int)))), (6, .c (.v (.slice A b.length c))), (7, .c (.v (.int .i64 (b.length : Int)))), (8, .c (.v (.int .i64 (v : Int))))], [], [], [], [G], 0⟩)
    (fun i => match i with | (v, n, G) => v ≤ b.length ∧ (n : Int) = valB (b.take v) ∧ ByG G (.slice A b.length c) b) (fun i => b.length - i.1) (QOk_body _ _ _) (0, 0, G0) ⟨by omega, rfl, hb⟩ (by simp only [go_sem, Nat.reduceAdd, Nat.reduceSub, Nat.reduceMul, Nat.reduceEqDiff, Nat.reduceLT, Nat.reduceLeDiff, Nat.reduceBEq, Nat.reduceBNe, Int.reduceLT, Int.reduceLE, Int.reduceEq, Int.reduceAdd, Int.reduceSub, Int.reduceNeg, reduceCtorEq]; simp) ?_
  clear hb
  rintro ⟨v, n, G1⟩ ⟨hv, hn, hb⟩
  simp only
  by_cases hlt : v < b.length
  · have q1 : decide ((v : Int) < (b.length : Int)) = true := decide_eq_true (by omega)
    obtain ⟨x, hx⟩ : ∃ x, b[v]? = some x := ⟨_, List.getElem?_eq_getElem hlt⟩
    have hxl := x.toNat_lt
    have hbd := valB_bd (b.take v)
    have hbn : n < 1099511627776 := by
      have h1 : (256 : Nat) ^ (b.take v).length ≤ 256 ^ 5 := Nat.pow_le_pow_right (by omega) (by rw [List.length_take]; omega)
      have h2 : (256 : Nat) ^ 5 = 1099511627776 := rfl
      omega
    simp only [go_sem, Nat.reduceAdd, Nat.reduceSub, Nat.reduceMul, Nat.reduceEqDiff, Nat.reduceLT, Nat.reduceLeDiff, Nat.reduceBEq, Nat.reduceBNe, Int.reduceLT, Int.reduceLE, Int.reduceEq, Int.reduceAdd, Int.reduceSub, Int.reduceNeg, reduceCtorEq, q1]
    refine plain_ok (N := 3000) (elem_does (R := ByteG) (l := b) (m := v) rfl tySlice23 tySize5 rfl rfl (by simp only [dOk_some, dOk_none, Nat.reduceLT]) rfl hx (fun G hG => (hb.mono (hG.le G1 (by simp))).sq)) (QOk_body _ _ _) (by first | exact .inl rfl | exact .inr ⟨_, _, rfl, rfl⟩) ?_
    rintro _ ⟨gw, ow, cs, G9, _, rfl, rfl⟩
    simp only [go_sem, Nat.reduceAdd, Nat.reduceSub, Nat.reduceMul, Nat.reduceEqDiff, Nat.reduceLT, Nat.reduceLeDiff, Nat.reduceBEq, Nat.reduceBNe, Int.reduceLT, Int.reduceLE, Int.reduceEq, Int.reduceAdd, Int.reduceSub, Int.reduceNeg, reduceCtorEq, enc8]
    refine plain_ok (N := 3000) (shl_does (m := 256) rfl rfl rfl (by omega) (by omega) (by decide) (by simp only [dOk_some, dOk_none, Nat.reduceLT]) (by omega) (by omega)) (QOk_body _ _ _) (by first | exact .inl rfl | exact .inr ⟨_, _, rfl, rfl⟩) ?_
    rintro _ rfl
    simp only [go_sem, Nat.reduceAdd, Nat.reduceSub, Nat.reduceMul, Nat.reduceEqDiff, Nat.reduceLT, Nat.reduceLeDiff, Nat.reduceBEq, Nat.reduceBNe, Int.reduceLT, Int.reduceLE, Int.reduceEq, Int.reduceAdd, Int.reduceSub, Int.reduceNeg, reduceCtorEq]
    refine ⟨by omega, ?_⟩
    refine plain_ok (N := 3000) (or_does (n := n) (c := x.toNat) rfl rfl rfl rfl rfl (by omega) (by omega) (by simp only [dOk_some, dOk_none, Nat.reduceLT])) (QOk_body _ _ _) (by first | exact .inl rfl | exact .inr ⟨_, _, rfl, rfl⟩) ?_
    rintro _ rfl
    simp only [go_sem, Nat.reduceAdd, Nat.reduceSub, Nat.reduceMul, Nat.reduceEqDiff, Nat.reduceLT, Nat.reduceLeDiff, Nat.reduceBEq, Nat.reduceBNe, Int.reduceLT, Int.reduceLE, Int.reduceEq, Int.reduceAdd, Int.reduceSub, Int.reduceNeg, reduceCtorEq]
    have e1 : ((n : Int) * 256 + (x.toNat : Int)) = ((n * 256 + x.toNat : Nat) : Int) := by omega
    have e9 : valB (b.take (v + 1)) = valB (b.take v) * 256 + (x.toNat : Int) := by
      unfold valB
      rw [List.take_add_one, hx]
      exact valFrom_app 0 (b.take v) x
    rw [e1]
    exact ⟨by omega, again_ok (v + 1, n * 256 + x.toNat, G1) ⟨by omega, (by rw [e9, ← hn, e1]), hb⟩ (by simp only; omega) (by simp only [go_sem, Nat.reduceAdd, Nat.reduceSub, Nat.reduceMul, Nat.reduceEqDiff, Nat.reduceLT, Nat.reduceLeDiff, Nat.reduceBEq, Nat.reduceBNe, Int.reduceLT, Int.reduceLE, Int.reduceEq, Int.reduceAdd, Int.reduceSub, Int.reduceNeg, reduceCtorEq]; simp)⟩
  · have q1 : decide ((v : Int) < (b.length : Int)) = false := decide_eq_false (by omega)
    simp only [go_sem, Nat.reduceAdd, Nat.reduceSub, Nat.reduceMul, Nat.reduceEqDiff, Nat.reduceLT, Nat.reduceLeDiff, Nat.reduceBEq, Nat.reduceBNe, Int.reduceLT, Int.reduceLE, Int.reduceEq, Int.reduceAdd, Int.reduceSub, Int.reduceNeg, reduceCtorEq, q1]
    refine fin_ret (G := G0) Try.results93 ?_
    simp only [go_sem, Nat.reduceAdd, Nat.reduceSub, Nat.reduceMul, Nat.reduceEqDiff, Nat.reduceLT, Nat.reduceLeDiff, Nat.reduceBEq, Nat.reduceBNe, Int.reduceLT, Int.reduceLE, Int.reduceEq, Int.reduceAdd, Int.reduceSub, Int.reduceNeg, reduceCtorEq]
    intro aa w' _ _
    rw [hn, List.take_of_length_le (by omega)]
    rfl
end Go.Proofs.Ytomfladifefomaa
