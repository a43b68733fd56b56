/- ring.frameOf, the bytes of a frame. Conditions: as each law states them. -/
import Derived.Test.YtomfladifefomaaN3
namespace Go.Proofs.Ytomfladifefomaa
open Go.RowKit
set_option linter.unusedSimpArgs false
/-- an operation that hangs on one that was not carried out -/
theorem wg_undef {P : Program} {E : Env} {k : Cont} {N : Nat} {ops : Array Oper} {rest : List Oper} {o : Oper} {σ : St} {j t : Nat} {want : Bool} {x : Option Bool} (hx : x = none) (hg : o.guard = some (j, want)) (hj : gTmp ops j = some t) (hl : look σ.tmps t = some (.c (.v undef))) (hd : dOk E o.dst) (hk : k.ok)
    (h : W P E N k (.ops ops rest) (σ.put o.dst (.c (.v undef)))) : Wg P E (W P E N k) k ops rest o σ want x := by
  rw [hx]
  intro a w hr
  have hy : yielded ops a.tmps j = none := by
    have hd' : (ops[j]?).bind (·.dst) = some t := hj
    have := hr.tmps t _ hl
    simp only [yielded, hd', Option.bind_some, this, SV.den, SC.den]
    rfl
  unfold wpList
  rw [if_neg (by simp [Region.wanted, hg, hy])]
  exact W_sound N k _ _ hk h trivial _ _ (hr.put _ (.c (.v undef)) (dOk_lt hd))
/-- a frame in memory, with where its bytes are -/
def frV (f : Fr) (A : Option Addr) (c : Nat) : Value := .agg #[.int .i64 f.epoch, .int .i64 f.number, .int .i64 f.index, .bool f.last, .slice A f.body.length c]
def zeroFr : Value := .agg #[.int .i64 0, .int .i64 0, .int .i64 0, .bool false, .slice none 0 0]
def FrG (b : List UInt8) (v : Value) (G : GW) : Prop := (frBad b = true ∧ v = .tuple #[zeroFr, .bool false]) ∨ (frBad b = false ∧ ∃ A c, v = .tuple #[frV (frOf b) A c, .bool true] ∧ ByG G (.slice A (frOf b).body.length c) (frOf b).body)
set_option maxRecDepth 100000 in
set_option maxHeartbeats 16000000 in
theorem frameOf_does {bv : Value} {b : List UInt8} (hl : b.length = 64) {G0 : GW} (hW : G0.Wf) (hb : ByG G0 bv b) :
    Calls Try.prog 91 #[bv] G0.w (Ret G0 (FrG b)) := by
  obtain ⟨gb, ob, c, rfl, hc1, hc2⟩ := byG_some hb (by omega)
  rw [hl] at hc1
  rw [hl] at hb
  refine enter (G := G0) (n := 48) 3000 hW Try.func91 rfl Try.ntmps91 (by simp) ?_
  rw [hl]
  have hb0 : ByG G0 (.slice (some ⟨gb, ob + 0 * 1, none⟩) 4 (c - 0)) ((b.drop 0).take 4) := byG_sub hb 0 4 (c - 0) (by omega) (by omega) (by omega) (by omega)
  have hb1 : ByG G0 (.slice (some ⟨gb, ob + 4 * 1, none⟩) 4 (c - 4)) ((b.drop 4).take 4) := byG_sub hb 4 4 (c - 4) (by omega) (by omega) (by omega) (by omega)
  have hb2 : ByG G0 (.slice (some ⟨gb, ob + 10 * 1, none⟩) 2 (c - 10)) ((b.drop 10).take 2) := byG_sub hb 10 2 (c - 10) (by omega) (by omega) (by omega) (by omega)
  have hbl : ∀ l n, ((b.drop l).take n).length ≤ n := fun l n => by rw [List.length_take]; exact Nat.min_le_left _ _
  obtain ⟨x8, hx8⟩ : ∃ x, b[8]? = some x := ⟨_, List.getElem?_eq_getElem (by omega)⟩
  obtain ⟨x9, hx9⟩ : ∃ x, b[9]? = some x := ⟨_, List.getElem?_eq_getElem (by omega)⟩
  have d8 : b.getD 8 0 = x8 := by rw [List.getD_eq_getElem?_getD, hx8]; rfl
  have d9 : b.getD 9 0 = x9 := by rw [List.getD_eq_getElem?_getD, hx9]; rfl
  have l8 := x8.toNat_lt
  have l9 := x9.toNat_lt
  simp only [go_sem, Nat.reduceAdd, Nat.reduceSub, Nat.reduceMul, Nat.reduceEqDiff, Nat.reduceLT, Nat.reduceLeDiff, Nat.reduceBEq, Nat.reduceBNe, Int.reduceLT, Int.reduceLE, Int.reduceEq, Int.reduceAdd, Int.reduceSub, Int.reduceNeg, reduceCtorEq]
  intro g1
  refine preview_ok (R := ByteG) (kc := 1) hx8 (fun G hG => by have := (hb.mono (hG G0 (by simp))).sq.sc; exact this) fun g2 o2 cs2 G2 hA _ hc hle2 => ?_
  cases hA
  obtain rfl := hc
  clear hle2
  simp only [go_sem, Nat.reduceAdd, Nat.reduceSub, Nat.reduceMul, Nat.reduceEqDiff, Nat.reduceLT, Nat.reduceLeDiff, Nat.reduceBEq, Nat.reduceBNe, Int.reduceLT, Int.reduceLE, Int.reduceEq, Int.reduceAdd, Int.reduceSub, Int.reduceNeg, reduceCtorEq]
  refine preview_ok (R := ByteG) (kc := 1) hx9 (fun G hG => by have := (hb.mono (hG G0 (by simp))).sq.sc; exact this) fun g3 o3 cs3 G3 hA _ hc hle3 => ?_
  cases hA
  obtain rfl := hc
  clear hle3
  simp only [go_sem, Nat.reduceAdd, Nat.reduceSub, Nat.reduceMul, Nat.reduceEqDiff, Nat.reduceLT, Nat.reduceLeDiff, Nat.reduceBEq, Nat.reduceBNe, Int.reduceLT, Int.reduceLE, Int.reduceEq, Int.reduceAdd, Int.reduceSub, Int.reduceNeg, reduceCtorEq]
  have ep : (x9 == 1) = decide (x9.toNat = 1) := by
    rw [Bool.eq_iff_iff]
    simp only [beq_iff_eq, decide_eq_true_eq]
    exact ⟨fun h => by rw [h]; rfl, fun h => UInt8.toNat_inj.1 h⟩
  have eq1 : decide ((x9.toNat : Int) = 1) = decide (x9.toNat = 1) := by
    rw [Bool.eq_iff_iff]
    simp only [decide_eq_true_eq]
    omega
  generalize hlast : decide (x9.toNat = 1) = last at ep eq1
  refine cut_code2 (N := 3000) (ι := Nat)
    (fun g4 => ⟨[(0, .c (.v (.slice (some ⟨gb, ob, none⟩) 64 c))), (2, .c (.p 0 g1 0)), (4, .c (.p 3 g4 0))],
      [⟨3, g4, 125, [.v (.int .i64 (valB (b.take 4))), .v (.int .i64 (valB ((b.drop 4).take 4))), .v (.int .i64 (x8.toNat : Int)), .v (.bool last), .v (.slice none 0 0)]⟩,
       ⟨0, g1, 125, [.v (.int .i64 0), .v (.int .i64 0), .v (.int .i64 0), .v (.bool false), .v (.slice none 0 0)]⟩], [], [], [G0], 4⟩)
    (fun _ => True) (QOk_body _ _ _) ?_ ?_
  rotate_left
  · intro k' J hk' hJ
    refine draw_ok (N := 3000) (.take 0 (.take 1 (.take 3 (.take 4 (.take 6 (.take 7 (.take 8 (.take 9 (.take 10 (.take 11 (.take 12 (.take 13 (.alt 2 (.alt 5 (.take 14 (.alt 15 (.alt 16 .done .last) .last)) (.alt 15 (.alt 5 (.take 14 (.alt 16 .done .last)) .last) .last)) (.alt 15 (.alt 2 (.alt 5 (.take 14 (.alt 16 .done .last)) .last) .last) .last)))))))))))))) [3] hk' follows_mixed (by kernel_rfl) (by kernel_rfl) ?_
    simp only [go_sem, Nat.reduceAdd, Nat.reduceSub, Nat.reduceMul, Nat.reduceEqDiff, Nat.reduceLT, Nat.reduceLeDiff, Nat.reduceBEq, Nat.reduceBNe, Int.reduceLT, Int.reduceLE, Int.reduceEq, Int.reduceAdd, Int.reduceSub, Int.reduceNeg, reduceCtorEq]
    refine take_cut 0 4 (c - 0) rfl tySlice23 tySize5 rfl rfl ⟨_, _, rfl, rfl⟩ (show 0 + (c - 0) = c from by omega) (by simp) (by simp only [dOk_some, dOk_none, Nat.reduceLT]) (by omega) (by omega) (by omega) ?_
    simp only [go_sem, Nat.reduceAdd, Nat.reduceSub, Nat.reduceMul, Nat.reduceEqDiff, Nat.reduceLT, Nat.reduceLeDiff, Nat.reduceBEq, Nat.reduceBNe, Int.reduceLT, Int.reduceLE, Int.reduceEq, Int.reduceAdd, Int.reduceSub, Int.reduceNeg, reduceCtorEq]
    refine take_cut 4 4 (c - 4) rfl tySlice23 tySize5 rfl ⟨_, _, rfl, rfl⟩ ⟨_, _, rfl, rfl⟩ (show 4 + (c - 4) = c from by omega) (by simp) (by simp only [dOk_some, dOk_none, Nat.reduceLT]) (by omega) (by omega) (by omega) ?_
    simp only [go_sem, Nat.reduceAdd, Nat.reduceSub, Nat.reduceMul, Nat.reduceEqDiff, Nat.reduceLT, Nat.reduceLeDiff, Nat.reduceBEq, Nat.reduceBNe, Int.reduceLT, Int.reduceLE, Int.reduceEq, Int.reduceAdd, Int.reduceSub, Int.reduceNeg, reduceCtorEq]
    refine take_elem 1 (m := 8) rfl tySlice23 tySize5 rfl rfl (by simp only [dOk_some, dOk_none, Nat.reduceLT]) rfl (by omega) ?_
    simp only [go_sem, Nat.reduceAdd, Nat.reduceSub, Nat.reduceMul, Nat.reduceEqDiff, Nat.reduceLT, Nat.reduceLeDiff, Nat.reduceBEq, Nat.reduceBNe, Int.reduceLT, Int.reduceLE, Int.reduceEq, Int.reduceAdd, Int.reduceSub, Int.reduceNeg, reduceCtorEq, enc8]
    refine ⟨by omega, ?_⟩
    refine take_elem 2 (m := 9) rfl tySlice23 tySize5 rfl rfl (by simp only [dOk_some, dOk_none, Nat.reduceLT]) rfl (by omega) ?_
    simp only [go_sem, Nat.reduceAdd, Nat.reduceSub, Nat.reduceMul, Nat.reduceEqDiff, Nat.reduceLT, Nat.reduceLeDiff, Nat.reduceBEq, Nat.reduceBNe, Int.reduceLT, Int.reduceLE, Int.reduceEq, Int.reduceAdd, Int.reduceSub, Int.reduceNeg, reduceCtorEq, enc8, eq1]
    refine ⟨?_, fun g4 => ?_⟩
    · refine anyc_ok (N := 3000) (call_does (fun v _ => v = .int .i64 (valB (b.take 4))) rfl rfl (by kernel_rfl) rfl (by simp only [dOk_some, dOk_none, Nat.reduceLT]) (fun G hG => value_does (b := b.take 4) (by have := hbl 0 4; rw [List.drop_zero] at this; omega) hG.wf (by have := hb0.mono (hG.le G0 (by simp)); rw [List.drop_zero] at this; exact this))) hk' rfl (by first | exact .inl rfl | exact .inr ⟨_, _, rfl, rfl⟩) ?_
      rintro _ ⟨_, G4, rfl, hn4, rfl⟩
      clear hn4
      simp only [go_sem, Nat.reduceAdd, Nat.reduceSub, Nat.reduceMul, Nat.reduceEqDiff, Nat.reduceLT, Nat.reduceLeDiff, Nat.reduceBEq, Nat.reduceBNe, Int.reduceLT, Int.reduceLE, Int.reduceEq, Int.reduceAdd, Int.reduceSub, Int.reduceNeg, reduceCtorEq]
      refine ⟨?_, fun g4 => ?_⟩
      · refine anyc_ok (N := 3000) (call_does (fun v _ => v = .int .i64 (valB ((b.drop 4).take 4))) rfl rfl (by kernel_rfl) rfl (by simp only [dOk_some, dOk_none, Nat.reduceLT]) (fun G hG => value_does (b := (b.drop 4).take 4) (by have := hbl 4 4; omega) hG.wf (hb1.mono (hG.le G0 (by simp))))) hk' rfl (by first | exact .inl rfl | exact .inr ⟨_, _, rfl, rfl⟩) ?_
        rintro _ ⟨_, G5, rfl, hn5, rfl⟩
        clear hn5
        simp only [go_sem, Nat.reduceAdd, Nat.reduceSub, Nat.reduceMul, Nat.reduceEqDiff, Nat.reduceLT, Nat.reduceLeDiff, Nat.reduceBEq, Nat.reduceBNe, Int.reduceLT, Int.reduceLE, Int.reduceEq, Int.reduceAdd, Int.reduceSub, Int.reduceNeg, reduceCtorEq]
        intro g4
        exact hJ g4 _ trivial (by simp only [go_sem, Nat.reduceAdd, Nat.reduceSub, Nat.reduceMul, Nat.reduceEqDiff, Nat.reduceLT, Nat.reduceLeDiff, Nat.reduceBEq, Nat.reduceBNe, Int.reduceLT, Int.reduceLE, Int.reduceEq, Int.reduceAdd, Int.reduceSub, Int.reduceNeg, reduceCtorEq]; simp)
      · refine anyc_ok (N := 3000) (call_does (fun v _ => v = .int .i64 (valB ((b.drop 4).take 4))) rfl rfl (by kernel_rfl) rfl (by simp only [dOk_some, dOk_none, Nat.reduceLT]) (fun G hG => value_does (b := (b.drop 4).take 4) (by have := hbl 4 4; omega) hG.wf (hb1.mono (hG.le G0 (by simp))))) hk' rfl (by first | exact .inl rfl | exact .inr ⟨_, _, rfl, rfl⟩) ?_
        rintro _ ⟨_, G5, rfl, hn5, rfl⟩
        clear hn5
        simp only [go_sem, Nat.reduceAdd, Nat.reduceSub, Nat.reduceMul, Nat.reduceEqDiff, Nat.reduceLT, Nat.reduceLeDiff, Nat.reduceBEq, Nat.reduceBNe, Int.reduceLT, Int.reduceLE, Int.reduceEq, Int.reduceAdd, Int.reduceSub, Int.reduceNeg, reduceCtorEq]
        exact hJ g4 _ trivial (by simp only [go_sem, Nat.reduceAdd, Nat.reduceSub, Nat.reduceMul, Nat.reduceEqDiff, Nat.reduceLT, Nat.reduceLeDiff, Nat.reduceBEq, Nat.reduceBNe, Int.reduceLT, Int.reduceLE, Int.reduceEq, Int.reduceAdd, Int.reduceSub, Int.reduceNeg, reduceCtorEq]; simp)
    · refine anyc_ok (N := 3000) (call_does (fun v _ => v = .int .i64 (valB (b.take 4))) rfl rfl (by kernel_rfl) rfl (by simp only [dOk_some, dOk_none, Nat.reduceLT]) (fun G hG => value_does (b := b.take 4) (by have := hbl 0 4; rw [List.drop_zero] at this; omega) hG.wf (by have := hb0.mono (hG.le G0 (by simp)); rw [List.drop_zero] at this; exact this))) hk' rfl (by first | exact .inl rfl | exact .inr ⟨_, _, rfl, rfl⟩) ?_
      rintro _ ⟨_, G4, rfl, hn4, rfl⟩
      clear hn4
      simp only [go_sem, Nat.reduceAdd, Nat.reduceSub, Nat.reduceMul, Nat.reduceEqDiff, Nat.reduceLT, Nat.reduceLeDiff, Nat.reduceBEq, Nat.reduceBNe, Int.reduceLT, Int.reduceLE, Int.reduceEq, Int.reduceAdd, Int.reduceSub, Int.reduceNeg, reduceCtorEq]
      refine anyc_ok (N := 3000) (call_does (fun v _ => v = .int .i64 (valB ((b.drop 4).take 4))) rfl rfl (by kernel_rfl) rfl (by simp only [dOk_some, dOk_none, Nat.reduceLT]) (fun G hG => value_does (b := (b.drop 4).take 4) (by have := hbl 4 4; omega) hG.wf (hb1.mono (hG.le G0 (by simp))))) hk' rfl (by first | exact .inl rfl | exact .inr ⟨_, _, rfl, rfl⟩) ?_
      rintro _ ⟨_, G5, rfl, hn5, rfl⟩
      clear hn5
      simp only [go_sem, Nat.reduceAdd, Nat.reduceSub, Nat.reduceMul, Nat.reduceEqDiff, Nat.reduceLT, Nat.reduceLeDiff, Nat.reduceBEq, Nat.reduceBNe, Int.reduceLT, Int.reduceLE, Int.reduceEq, Int.reduceAdd, Int.reduceSub, Int.reduceNeg, reduceCtorEq]
      exact hJ g4 _ trivial (by simp only [go_sem, Nat.reduceAdd, Nat.reduceSub, Nat.reduceMul, Nat.reduceEqDiff, Nat.reduceLT, Nat.reduceLeDiff, Nat.reduceBEq, Nat.reduceBNe, Int.reduceLT, Int.reduceLE, Int.reduceEq, Int.reduceAdd, Int.reduceSub, Int.reduceNeg, reduceCtorEq]; simp)
  rintro g4 _
  simp only [go_sem, Nat.reduceAdd, Nat.reduceSub, Nat.reduceMul, Nat.reduceEqDiff, Nat.reduceLT, Nat.reduceLeDiff, Nat.reduceBEq, Nat.reduceBNe, Int.reduceLT, Int.reduceLE, Int.reduceEq, Int.reduceAdd, Int.reduceSub, Int.reduceNeg, reduceCtorEq]
  refine plain_ok (N := 3000) (cut_does 10 2 (c - 10) rfl tySlice23 tySize5 rfl ⟨_, _, rfl, rfl⟩ ⟨_, _, rfl, rfl⟩ (show 10 + (c - 10) = c from by omega) (by simp) (by simp only [dOk_some, dOk_none, Nat.reduceLT]) (by omega) (by omega) (by omega) (fun G hG => (by have := hb.mono (hG.le G0 (by simp)); have e := this.form; obtain ⟨_, _, e, _⟩ := e; rw [← hl]; rw [← hl] at this; exact this : Sl G 5 1 64 (.slice (some ⟨gb, ob, none⟩) 64 c) (b.map enc8)))) (QOk_body _ _ _) (by first | exact .inl rfl | exact .inr ⟨_, _, rfl, rfl⟩) ?_
  rintro _ ⟨A5, G5, hs5, hn5, rfl⟩
  clear hn5
  have hb5 := byG_cut hs5 (by omega)
  simp only [go_sem, Nat.reduceAdd, Nat.reduceSub, Nat.reduceMul, Nat.reduceEqDiff, Nat.reduceLT, Nat.reduceLeDiff, Nat.reduceBEq, Nat.reduceBNe, Int.reduceLT, Int.reduceLE, Int.reduceEq, Int.reduceAdd, Int.reduceSub, Int.reduceNeg, reduceCtorEq]
  refine plain_ok (N := 3000) (call_does (fun v _ => v = .int .i64 (valB ((b.drop 10).take 2))) rfl rfl (by kernel_rfl) rfl (by simp only [dOk_some, dOk_none, Nat.reduceLT]) (fun G hG => value_does (b := (b.drop 10).take 2) (by have := hbl 10 2; omega) hG.wf (hb5.mono (hG.le G5 (by simp))))) (QOk_body _ _ _) (by first | exact .inl rfl | exact .inr ⟨_, _, rfl, rfl⟩) ?_
  rintro _ ⟨_, G6, rfl, hn6, rfl⟩
  clear hn6
  obtain ⟨m0, m1⟩ := valB_bd ((b.drop 10).take 2)
  have m2 : valB ((b.drop 10).take 2) < 65536 := by
    have h1 : (256 : Nat) ^ ((b.drop 10).take 2).length ≤ 256 ^ 2 := Nat.pow_le_pow_right (by omega) (hbl 10 2)
    have h2 : (256 : Nat) ^ 2 = 65536 := rfl
    omega
  clear m1
  generalize hm : valB ((b.drop 10).take 2) = m at m0 m2
  have hbad : frBad b = (decide (1 < x9.toNat) || decide (52 < m) || (!last && decide (m < 52))) := by
    unfold frBad
    rw [d9, hm, hlast]
  have hfr : frOf b = ⟨valB (b.take 4), valB ((b.drop 4).take 4), (x8.toNat : Int), last, (b.drop 12).take m.toNat⟩ := by
    unfold frOf
    rw [d9, d8, hm, hlast]
  simp only [go_sem, Nat.reduceAdd, Nat.reduceSub, Nat.reduceMul, Nat.reduceEqDiff, Nat.reduceLT, Nat.reduceLeDiff, Nat.reduceBEq, Nat.reduceBNe, Int.reduceLT, Int.reduceLE, Int.reduceEq, Int.reduceAdd, Int.reduceSub, Int.reduceNeg, reduceCtorEq]
  refine plain_ok (N := 3000) (elem_does (R := ByteG) (l := b) (m := 9) rfl tySlice23 tySize5 rfl rfl (by simp only [dOk_some, dOk_none, Nat.reduceLT]) rfl hx9 (fun G hG => by have := (hb.mono (hG.le G0 (by simp))).sq; exact this)) (QOk_body _ _ _) (by first | exact .inl rfl | exact .inr ⟨_, _, rfl, rfl⟩) ?_
  rintro _ ⟨gw, ow, cs, G9, _, rfl, rfl⟩
  by_cases c1 : 1 < x9.toNat
  · have q1 : decide (1 < (x9.toNat : Int)) = true := decide_eq_true (by omega)
    have hbb : frBad b = true := by rw [hbad, decide_eq_true c1]; rfl
    simp only [go_sem, Nat.reduceAdd, Nat.reduceSub, Nat.reduceMul, Nat.reduceEqDiff, Nat.reduceLT, Nat.reduceLeDiff, Nat.reduceBEq, Nat.reduceBNe, Int.reduceLT, Int.reduceLE, Int.reduceEq, Int.reduceAdd, Int.reduceSub, Int.reduceNeg, reduceCtorEq, enc8, q1]
    refine wg_undef rfl rfl rfl rfl (by simp only [dOk_some, dOk_none, Nat.reduceLT]) (by exact QOk_body _ _ _) ?_
    simp only [go_sem, Nat.reduceAdd, Nat.reduceSub, Nat.reduceMul, Nat.reduceEqDiff, Nat.reduceLT, Nat.reduceLeDiff, Nat.reduceBEq, Nat.reduceBNe, Int.reduceLT, Int.reduceLE, Int.reduceEq, Int.reduceAdd, Int.reduceSub, Int.reduceNeg, reduceCtorEq]
    refine wg_undef rfl rfl rfl rfl (by simp only [dOk_some, dOk_none, Nat.reduceLT]) (by exact QOk_body _ _ _) ?_
    simp only [go_sem, Nat.reduceAdd, Nat.reduceSub, Nat.reduceMul, Nat.reduceEqDiff, Nat.reduceLT, Nat.reduceLeDiff, Nat.reduceBEq, Nat.reduceBNe, Int.reduceLT, Int.reduceLE, Int.reduceEq, Int.reduceAdd, Int.reduceSub, Int.reduceNeg, reduceCtorEq]
    refine fin_ret (G := G0) Try.results91 ?_
    simp only [go_sem, Nat.reduceAdd, Nat.reduceSub, Nat.reduceMul, Nat.reduceEqDiff, Nat.reduceLT, Nat.reduceLeDiff, Nat.reduceBEq, Nat.reduceBNe, Int.reduceLT, Int.reduceLE, Int.reduceEq, Int.reduceAdd, Int.reduceSub, Int.reduceNeg, reduceCtorEq]
    intro aa w' _ _
    exact .inl ⟨hbb, rfl⟩
  have q1 : decide (1 < (x9.toNat : Int)) = false := decide_eq_false (by omega)
  by_cases c2 : 52 < m
  · have q2 : decide (52 < m) = true := decide_eq_true c2
    have hbb : frBad b = true := by rw [hbad, q2, Bool.or_true]; rfl
    simp only [go_sem, Nat.reduceAdd, Nat.reduceSub, Nat.reduceMul, Nat.reduceEqDiff, Nat.reduceLT, Nat.reduceLeDiff, Nat.reduceBEq, Nat.reduceBNe, Int.reduceLT, Int.reduceLE, Int.reduceEq, Int.reduceAdd, Int.reduceSub, Int.reduceNeg, reduceCtorEq, enc8, q1, q2]
    refine wg_undef rfl rfl rfl rfl (by simp only [dOk_some, dOk_none, Nat.reduceLT]) (by exact QOk_body _ _ _) ?_
    simp only [go_sem, Nat.reduceAdd, Nat.reduceSub, Nat.reduceMul, Nat.reduceEqDiff, Nat.reduceLT, Nat.reduceLeDiff, Nat.reduceBEq, Nat.reduceBNe, Int.reduceLT, Int.reduceLE, Int.reduceEq, Int.reduceAdd, Int.reduceSub, Int.reduceNeg, reduceCtorEq]
    refine wg_undef rfl rfl rfl rfl (by simp only [dOk_some, dOk_none, Nat.reduceLT]) (by exact QOk_body _ _ _) ?_
    simp only [go_sem, Nat.reduceAdd, Nat.reduceSub, Nat.reduceMul, Nat.reduceEqDiff, Nat.reduceLT, Nat.reduceLeDiff, Nat.reduceBEq, Nat.reduceBNe, Int.reduceLT, Int.reduceLE, Int.reduceEq, Int.reduceAdd, Int.reduceSub, Int.reduceNeg, reduceCtorEq]
    refine fin_ret (G := G0) Try.results91 ?_
    simp only [go_sem, Nat.reduceAdd, Nat.reduceSub, Nat.reduceMul, Nat.reduceEqDiff, Nat.reduceLT, Nat.reduceLeDiff, Nat.reduceBEq, Nat.reduceBNe, Int.reduceLT, Int.reduceLE, Int.reduceEq, Int.reduceAdd, Int.reduceSub, Int.reduceNeg, reduceCtorEq]
    intro aa w' _ _
    exact .inl ⟨hbb, rfl⟩
  have q2 : decide (52 < m) = false := decide_eq_false c2
  have q3 : decide (1 < x9.toNat) = false := decide_eq_false c1
  cases hla : last with
  | true =>
    subst hla
    have hbb : frBad b = false := by rw [hbad, q3, q2]; rfl
    simp only [go_sem, Nat.reduceAdd, Nat.reduceSub, Nat.reduceMul, Nat.reduceEqDiff, Nat.reduceLT, Nat.reduceLeDiff, Nat.reduceBEq, Nat.reduceBNe, Int.reduceLT, Int.reduceLE, Int.reduceEq, Int.reduceAdd, Int.reduceSub, Int.reduceNeg, reduceCtorEq, enc8, q1, q2]
    refine ⟨by omega, ?_⟩
    refine plain_ok (N := 3000) (cut_does 12 m.toNat (c - 12) rfl tySlice23 tySize5 rfl ⟨_, _, rfl, rfl⟩ ⟨_, _, rfl, by omega⟩ (show 12 + (c - 12) = c from by omega) (by simp) (by simp only [dOk_some, dOk_none, Nat.reduceLT]) (by omega) (by omega) (by omega) (fun G hG => (by have := hb.mono (hG.le G0 (by simp)); rw [← hl]; rw [← hl] at this; exact this : Sl G 5 1 64 (.slice (some ⟨gb, ob, none⟩) 64 c) (b.map enc8)))) (QOk_body _ _ _) (by first | exact .inl rfl | exact .inr ⟨_, _, rfl, rfl⟩) ?_
    rintro _ ⟨A7, G7, hs7, hn7, rfl⟩
    clear hn7
    have hb7 := byG_cut hs7 (by omega)
    have hln : ((b.drop 12).take m.toNat).length = m.toNat := by rw [List.length_take, List.length_drop]; omega
    simp only [go_sem, Nat.reduceAdd, Nat.reduceSub, Nat.reduceMul, Nat.reduceEqDiff, Nat.reduceLT, Nat.reduceLeDiff, Nat.reduceBEq, Nat.reduceBNe, Int.reduceLT, Int.reduceLE, Int.reduceEq, Int.reduceAdd, Int.reduceSub, Int.reduceNeg, reduceCtorEq]
    refine fin_ret (G := G0) Try.results91 ?_
    simp only [go_sem, Nat.reduceAdd, Nat.reduceSub, Nat.reduceMul, Nat.reduceEqDiff, Nat.reduceLT, Nat.reduceLeDiff, Nat.reduceBEq, Nat.reduceBNe, Int.reduceLT, Int.reduceLE, Int.reduceEq, Int.reduceAdd, Int.reduceSub, Int.reduceNeg, reduceCtorEq]
    intro aa w' _ hle
    refine .inr ⟨hbb, A7, c - 12, ?_, ?_⟩
    · rw [hfr]
      show _ = Value.tuple #[.agg #[_, _, _, _, .slice A7 ((b.drop 12).take m.toNat).length (c - 12)], .bool true]
      rw [hln]
      rfl
    · rw [hfr]
      show ByG _ (.slice A7 ((b.drop 12).take m.toNat).length (c - 12)) ((b.drop 12).take m.toNat)
      rw [hln]
      exact hb7.mono (hle G7 (by simp))
  | false =>
    subst hla
    by_cases c3 : m < 52
    · have q4 : decide (m < 52) = true := decide_eq_true c3
      have hbb : frBad b = true := by rw [hbad, q4, Bool.not_false, Bool.and_true, Bool.or_true]
      simp only [go_sem, Nat.reduceAdd, Nat.reduceSub, Nat.reduceMul, Nat.reduceEqDiff, Nat.reduceLT, Nat.reduceLeDiff, Nat.reduceBEq, Nat.reduceBNe, Int.reduceLT, Int.reduceLE, Int.reduceEq, Int.reduceAdd, Int.reduceSub, Int.reduceNeg, reduceCtorEq, enc8, q1, q2, q4]
      refine fin_ret (G := G0) Try.results91 ?_
      simp only [go_sem, Nat.reduceAdd, Nat.reduceSub, Nat.reduceMul, Nat.reduceEqDiff, Nat.reduceLT, Nat.reduceLeDiff, Nat.reduceBEq, Nat.reduceBNe, Int.reduceLT, Int.reduceLE, Int.reduceEq, Int.reduceAdd, Int.reduceSub, Int.reduceNeg, reduceCtorEq]
      intro aa w' _ _
      exact .inl ⟨hbb, rfl⟩
    have q4 : decide (m < 52) = false := decide_eq_false c3
    have hbb : frBad b = false := by rw [hbad, q3, q2, q4]; rfl
    simp only [go_sem, Nat.reduceAdd, Nat.reduceSub, Nat.reduceMul, Nat.reduceEqDiff, Nat.reduceLT, Nat.reduceLeDiff, Nat.reduceBEq, Nat.reduceBNe, Int.reduceLT, Int.reduceLE, Int.reduceEq, Int.reduceAdd, Int.reduceSub, Int.reduceNeg, reduceCtorEq, enc8, q1, q2, q4]
    refine ⟨by omega, ?_⟩
    refine plain_ok (N := 3000) (cut_does 12 m.toNat (c - 12) rfl tySlice23 tySize5 rfl ⟨_, _, rfl, rfl⟩ ⟨_, _, rfl, by omega⟩ (show 12 + (c - 12) = c from by omega) (by simp) (by simp only [dOk_some, dOk_none, Nat.reduceLT]) (by omega) (by omega) (by omega) (fun G hG => (by have := hb.mono (hG.le G0 (by simp)); rw [← hl]; rw [← hl] at this; exact this : Sl G 5 1 64 (.slice (some ⟨gb, ob, none⟩) 64 c) (b.map enc8)))) (QOk_body _ _ _) (by first | exact .inl rfl | exact .inr ⟨_, _, rfl, rfl⟩) ?_
    rintro _ ⟨A7, G7, hs7, hn7, rfl⟩
    clear hn7
    have hb7 := byG_cut hs7 (by omega)
    have hln : ((b.drop 12).take m.toNat).length = m.toNat := by rw [List.length_take, List.length_drop]; omega
    simp only [go_sem, Nat.reduceAdd, Nat.reduceSub, Nat.reduceMul, Nat.reduceEqDiff, Nat.reduceLT, Nat.reduceLeDiff, Nat.reduceBEq, Nat.reduceBNe, Int.reduceLT, Int.reduceLE, Int.reduceEq, Int.reduceAdd, Int.reduceSub, Int.reduceNeg, reduceCtorEq]
    refine fin_ret (G := G0) Try.results91 ?_
    simp only [go_sem, Nat.reduceAdd, Nat.reduceSub, Nat.reduceMul, Nat.reduceEqDiff, Nat.reduceLT, Nat.reduceLeDiff, Nat.reduceBEq, Nat.reduceBNe, Int.reduceLT, Int.reduceLE, Int.reduceEq, Int.reduceAdd, Int.reduceSub, Int.reduceNeg, reduceCtorEq]
    intro aa w' _ hle
    refine .inr ⟨hbb, A7, c - 12, ?_, ?_⟩
    · rw [hfr]
      show _ = Value.tuple #[.agg #[_, _, _, _, .slice A7 ((b.drop 12).take m.toNat).length (c - 12)], .bool true]
      rw [hln]
      rfl
    · rw [hfr]
      show ByG _ (.slice A7 ((b.drop 12).take m.toNat).length (c - 12)) ((b.drop 12).take m.toNat)
      rw [hln]
      exact hb7.mono (hle G7 (by simp))
set_option maxRecDepth 100000 in
set_option maxHeartbeats 4000000 in
theorem bytes_fr_does {f : Fr} {A : Option Addr} {c : Nat} (hbd : f.body.length ≤ 52) {G0 : GW} (hW : G0.Wf) (hb : ByG G0 (.slice A f.body.length c) f.body) :
    Calls Try.prog 76 #[frV f A c] G0.w (Ret G0 fun v G => ∃ A c, v = .slice A (12 + f.body.length) c ∧ ByG G (.slice A (12 + f.body.length) c) (frB f)) := by
  obtain ⟨e0, n0, i0, la, bo⟩ := f
  simp only at hbd hb
  refine enter (G := G0) (n := 25) 3000 hW Try.func76 rfl Try.ntmps76 (by simp) ?_
  cases la with
  | true =>
    have hflat : frB ⟨e0, n0, i0, true, bo⟩ = [numB e0 4, numB n0 4, numB i0 1, numB 1 1, numB (bo.length : Int) 2, bo].flatten := by simp [frB]
    simp only [go_sem, Nat.reduceAdd, Nat.reduceSub, Nat.reduceMul, Nat.reduceEqDiff, Nat.reduceLT, Nat.reduceLeDiff, Nat.reduceBEq, Nat.reduceBNe, Int.reduceLT, Int.reduceLE, Int.reduceEq, Int.reduceAdd, Int.reduceSub, Int.reduceNeg, reduceCtorEq, frV]
    intro g1
    refine draw_ok (N := 3000) (.take 0 (.take 1 (.take 3 (.take 4 (.take 6 (.take 7 (.take 9 (.take 11 (.take 12 (.take 13 (.take 15 (.take 16 (.alt 2 (.alt 5 (.alt 8 (.alt 10 (.alt 14 (.alt 17 (.alt 18 (.take 19 .done) .last) .last) .last) .last) .last) .last) .last))))))))))))) [] (QOk_body _ _ _) follows_mixed (by kernel_rfl) (by kernel_rfl) ?_
    simp only [go_sem, Nat.reduceAdd, Nat.reduceSub, Nat.reduceMul, Nat.reduceEqDiff, Nat.reduceLT, Nat.reduceLeDiff, Nat.reduceBEq, Nat.reduceBNe, Int.reduceLT, Int.reduceLE, Int.reduceEq, Int.reduceAdd, Int.reduceSub, Int.reduceNeg, reduceCtorEq]
    refine anyc_ok (N := 3000) (call_does (fun u G => ∃ A c, u = .slice A 4 c ∧ ByG G (.slice A 4 c) (numB e0 4)) rfl rfl (by kernel_rfl) rfl (by simp only [dOk_some, dOk_none, Nat.reduceLT]) (fun G hG => number_does (n := e0) (many := 4) (by omega) hG.wf)) (QOk_body _ _ _) rfl (by first | exact .inl rfl | exact .inr ⟨_, _, rfl, rfl⟩) ?_
    rintro _ ⟨_, G1, ⟨A1, c1, rfl, hb1⟩, hn1, rfl⟩
    clear hn1
    simp only [go_sem, Nat.reduceAdd, Nat.reduceSub, Nat.reduceMul, Nat.reduceEqDiff, Nat.reduceLT, Nat.reduceLeDiff, Nat.reduceBEq, Nat.reduceBNe, Int.reduceLT, Int.reduceLE, Int.reduceEq, Int.reduceAdd, Int.reduceSub, Int.reduceNeg, reduceCtorEq]
    refine anyc_ok (N := 3000) (call_does (fun u G => ∃ A c, u = .slice A 4 c ∧ ByG G (.slice A 4 c) (numB n0 4)) rfl rfl (by kernel_rfl) rfl (by simp only [dOk_some, dOk_none, Nat.reduceLT]) (fun G hG => number_does (n := n0) (many := 4) (by omega) hG.wf)) (QOk_body _ _ _) rfl (by first | exact .inl rfl | exact .inr ⟨_, _, rfl, rfl⟩) ?_
    rintro _ ⟨_, G2, ⟨A2, c2, rfl, hb2⟩, hn2, rfl⟩
    clear hn2
    simp only [go_sem, Nat.reduceAdd, Nat.reduceSub, Nat.reduceMul, Nat.reduceEqDiff, Nat.reduceLT, Nat.reduceLeDiff, Nat.reduceBEq, Nat.reduceBNe, Int.reduceLT, Int.reduceLE, Int.reduceEq, Int.reduceAdd, Int.reduceSub, Int.reduceNeg, reduceCtorEq]
    refine anyc_ok (N := 3000) (call_does (fun u G => ∃ A c, u = .slice A 1 c ∧ ByG G (.slice A 1 c) (numB i0 1)) rfl rfl (by kernel_rfl) rfl (by simp only [dOk_some, dOk_none, Nat.reduceLT]) (fun G hG => number_does (n := i0) (many := 1) (by omega) hG.wf)) (QOk_body _ _ _) rfl (by first | exact .inl rfl | exact .inr ⟨_, _, rfl, rfl⟩) ?_
    rintro _ ⟨_, G3, ⟨A3, c3, rfl, hb3⟩, hn3, rfl⟩
    clear hn3
    simp only [go_sem, Nat.reduceAdd, Nat.reduceSub, Nat.reduceMul, Nat.reduceEqDiff, Nat.reduceLT, Nat.reduceLeDiff, Nat.reduceBEq, Nat.reduceBNe, Int.reduceLT, Int.reduceLE, Int.reduceEq, Int.reduceAdd, Int.reduceSub, Int.reduceNeg, reduceCtorEq]
    refine anyc_ok (N := 3000) (call_does (fun u G => ∃ A c, u = .slice A 1 c ∧ ByG G (.slice A 1 c) (numB 1 1)) rfl rfl (by kernel_rfl) rfl (by simp only [dOk_some, dOk_none, Nat.reduceLT]) (fun G hG => number_does (n := 1) (many := 1) (by omega) hG.wf)) (QOk_body _ _ _) rfl (by first | exact .inl rfl | exact .inr ⟨_, _, rfl, rfl⟩) ?_
    rintro _ ⟨_, G4, ⟨A4, c4, rfl, hb4⟩, hn4, rfl⟩
    clear hn4
    simp only [go_sem, Nat.reduceAdd, Nat.reduceSub, Nat.reduceMul, Nat.reduceEqDiff, Nat.reduceLT, Nat.reduceLeDiff, Nat.reduceBEq, Nat.reduceBNe, Int.reduceLT, Int.reduceLE, Int.reduceEq, Int.reduceAdd, Int.reduceSub, Int.reduceNeg, reduceCtorEq]
    refine anyc_ok (N := 3000) (call_does (fun u G => ∃ A c, u = .slice A 2 c ∧ ByG G (.slice A 2 c) (numB (bo.length : Int) 2)) rfl rfl (by kernel_rfl) rfl (by simp only [dOk_some, dOk_none, Nat.reduceLT]) (fun G hG => number_does (n := (bo.length : Int)) (many := 2) (by omega) hG.wf)) (QOk_body _ _ _) rfl (by first | exact .inl rfl | exact .inr ⟨_, _, rfl, rfl⟩) ?_
    rintro _ ⟨_, G5, ⟨A5, c5, rfl, hb5⟩, hn5, rfl⟩
    clear hn5
    simp only [go_sem, Nat.reduceAdd, Nat.reduceSub, Nat.reduceMul, Nat.reduceEqDiff, Nat.reduceLT, Nat.reduceLeDiff, Nat.reduceBEq, Nat.reduceBNe, Int.reduceLT, Int.reduceLE, Int.reduceEq, Int.reduceAdd, Int.reduceSub, Int.reduceNeg, reduceCtorEq]
    intro g2
    refine anyRead_ok (B1 := []) rfl 1 6 6 (Nat.le_refl _) (by unfold maxLen; omega) rfl id (by simp) fun G7 hle7 hs7 => ?_
    simp only [go_sem, Nat.reduceAdd, Nat.reduceSub, Nat.reduceMul, Nat.reduceEqDiff, Nat.reduceLT, Nat.reduceLeDiff, Nat.reduceBEq, Nat.reduceBNe, Int.reduceLT, Int.reduceLE, Int.reduceEq, Int.reduceAdd, Int.reduceSub, Int.reduceNeg, reduceCtorEq]
    have hsaf : SafG G7 _ [numB e0 4, numB n0 4, numB i0 1, numB 1 1, numB (bo.length : Int) 2, bo] := rows6 hs7 (hb1.mono (hle7 G1 (by simp))) (hb2.mono (hle7 G2 (by simp))) (hb3.mono (hle7 G3 (by simp))) (hb4.mono (hle7 G4 (by simp))) (hb5.mono (hle7 G5 (by simp))) (hb.mono (hle7 G0 (by simp)))
    have hlen : [numB e0 4, numB n0 4, numB i0 1, numB 1 1, numB (bo.length : Int) 2, bo].flatten.length = 12 + bo.length := by simp [numB_len]; omega
    refine anyc_ok (N := 3000) (call_does (fun u G => ∃ A c, u = .slice A (12 + bo.length) c ∧ ByG G (.slice A (12 + bo.length) c) [numB e0 4, numB n0 4, numB i0 1, numB 1 1, numB (bo.length : Int) 2, bo].flatten) rfl rfl (by kernel_rfl) rfl (by simp only [dOk_some, dOk_none, Nat.reduceLT]) (fun G hG => ret_mono (concat_does (by rw [hlen]; omega) hG.wf (Sq.mono hsaf rowG_mono (hG.le G7 (by simp)))) fun u G' _ h => by rw [hlen] at h; exact h)) (QOk_body _ _ _) rfl (by first | exact .inl rfl | exact .inr ⟨_, _, rfl, rfl⟩) ?_
    rintro _ ⟨_, G8, ⟨A8, c8, rfl, hb8⟩, hn8, rfl⟩
    clear hn8
    simp only [go_sem, Nat.reduceAdd, Nat.reduceSub, Nat.reduceMul, Nat.reduceEqDiff, Nat.reduceLT, Nat.reduceLeDiff, Nat.reduceBEq, Nat.reduceBNe, Int.reduceLT, Int.reduceLE, Int.reduceEq, Int.reduceAdd, Int.reduceSub, Int.reduceNeg, reduceCtorEq]
    refine fin_ret (G := G0) Try.results76 ?_
    simp only [go_sem, Nat.reduceAdd, Nat.reduceSub, Nat.reduceMul, Nat.reduceEqDiff, Nat.reduceLT, Nat.reduceLeDiff, Nat.reduceBEq, Nat.reduceBNe, Int.reduceLT, Int.reduceLE, Int.reduceEq, Int.reduceAdd, Int.reduceSub, Int.reduceNeg, reduceCtorEq]
    intro aa w' _ hle
    refine ⟨A8, c8, rfl, ?_⟩
    rw [hflat]
    exact hb8.mono (hle G8 (by simp))
  | false =>
    have hflat : frB ⟨e0, n0, i0, false, bo⟩ = [numB e0 4, numB n0 4, numB i0 1, numB 0 1, numB (bo.length : Int) 2, bo].flatten := by simp [frB]
    simp only [go_sem, Nat.reduceAdd, Nat.reduceSub, Nat.reduceMul, Nat.reduceEqDiff, Nat.reduceLT, Nat.reduceLeDiff, Nat.reduceBEq, Nat.reduceBNe, Int.reduceLT, Int.reduceLE, Int.reduceEq, Int.reduceAdd, Int.reduceSub, Int.reduceNeg, reduceCtorEq, frV]
    intro g1
    refine draw_ok (N := 3000) (.take 0 (.take 1 (.take 3 (.take 4 (.take 6 (.take 7 (.take 9 (.take 11 (.take 12 (.take 13 (.take 15 (.take 16 (.alt 2 (.alt 5 (.alt 8 (.alt 10 (.alt 14 (.alt 17 (.alt 18 (.take 19 .done) .last) .last) .last) .last) .last) .last) .last))))))))))))) [] (QOk_body _ _ _) follows_mixed (by kernel_rfl) (by kernel_rfl) ?_
    simp only [go_sem, Nat.reduceAdd, Nat.reduceSub, Nat.reduceMul, Nat.reduceEqDiff, Nat.reduceLT, Nat.reduceLeDiff, Nat.reduceBEq, Nat.reduceBNe, Int.reduceLT, Int.reduceLE, Int.reduceEq, Int.reduceAdd, Int.reduceSub, Int.reduceNeg, reduceCtorEq]
    refine anyc_ok (N := 3000) (call_does (fun u G => ∃ A c, u = .slice A 4 c ∧ ByG G (.slice A 4 c) (numB e0 4)) rfl rfl (by kernel_rfl) rfl (by simp only [dOk_some, dOk_none, Nat.reduceLT]) (fun G hG => number_does (n := e0) (many := 4) (by omega) hG.wf)) (QOk_body _ _ _) rfl (by first | exact .inl rfl | exact .inr ⟨_, _, rfl, rfl⟩) ?_
    rintro _ ⟨_, G1, ⟨A1, c1, rfl, hb1⟩, hn1, rfl⟩
    clear hn1
    simp only [go_sem, Nat.reduceAdd, Nat.reduceSub, Nat.reduceMul, Nat.reduceEqDiff, Nat.reduceLT, Nat.reduceLeDiff, Nat.reduceBEq, Nat.reduceBNe, Int.reduceLT, Int.reduceLE, Int.reduceEq, Int.reduceAdd, Int.reduceSub, Int.reduceNeg, reduceCtorEq]
    refine anyc_ok (N := 3000) (call_does (fun u G => ∃ A c, u = .slice A 4 c ∧ ByG G (.slice A 4 c) (numB n0 4)) rfl rfl (by kernel_rfl) rfl (by simp only [dOk_some, dOk_none, Nat.reduceLT]) (fun G hG => number_does (n := n0) (many := 4) (by omega) hG.wf)) (QOk_body _ _ _) rfl (by first | exact .inl rfl | exact .inr ⟨_, _, rfl, rfl⟩) ?_
    rintro _ ⟨_, G2, ⟨A2, c2, rfl, hb2⟩, hn2, rfl⟩
    clear hn2
    simp only [go_sem, Nat.reduceAdd, Nat.reduceSub, Nat.reduceMul, Nat.reduceEqDiff, Nat.reduceLT, Nat.reduceLeDiff, Nat.reduceBEq, Nat.reduceBNe, Int.reduceLT, Int.reduceLE, Int.reduceEq, Int.reduceAdd, Int.reduceSub, Int.reduceNeg, reduceCtorEq]
    refine anyc_ok (N := 3000) (call_does (fun u G => ∃ A c, u = .slice A 1 c ∧ ByG G (.slice A 1 c) (numB i0 1)) rfl rfl (by kernel_rfl) rfl (by simp only [dOk_some, dOk_none, Nat.reduceLT]) (fun G hG => number_does (n := i0) (many := 1) (by omega) hG.wf)) (QOk_body _ _ _) rfl (by first | exact .inl rfl | exact .inr ⟨_, _, rfl, rfl⟩) ?_
    rintro _ ⟨_, G3, ⟨A3, c3, rfl, hb3⟩, hn3, rfl⟩
    clear hn3
    simp only [go_sem, Nat.reduceAdd, Nat.reduceSub, Nat.reduceMul, Nat.reduceEqDiff, Nat.reduceLT, Nat.reduceLeDiff, Nat.reduceBEq, Nat.reduceBNe, Int.reduceLT, Int.reduceLE, Int.reduceEq, Int.reduceAdd, Int.reduceSub, Int.reduceNeg, reduceCtorEq]
    refine anyc_ok (N := 3000) (call_does (fun u G => ∃ A c, u = .slice A 1 c ∧ ByG G (.slice A 1 c) (numB 0 1)) rfl rfl (by kernel_rfl) rfl (by simp only [dOk_some, dOk_none, Nat.reduceLT]) (fun G hG => number_does (n := 0) (many := 1) (by omega) hG.wf)) (QOk_body _ _ _) rfl (by first | exact .inl rfl | exact .inr ⟨_, _, rfl, rfl⟩) ?_
    rintro _ ⟨_, G4, ⟨A4, c4, rfl, hb4⟩, hn4, rfl⟩
    clear hn4
    simp only [go_sem, Nat.reduceAdd, Nat.reduceSub, Nat.reduceMul, Nat.reduceEqDiff, Nat.reduceLT, Nat.reduceLeDiff, Nat.reduceBEq, Nat.reduceBNe, Int.reduceLT, Int.reduceLE, Int.reduceEq, Int.reduceAdd, Int.reduceSub, Int.reduceNeg, reduceCtorEq]
    refine anyc_ok (N := 3000) (call_does (fun u G => ∃ A c, u = .slice A 2 c ∧ ByG G (.slice A 2 c) (numB (bo.length : Int) 2)) rfl rfl (by kernel_rfl) rfl (by simp only [dOk_some, dOk_none, Nat.reduceLT]) (fun G hG => number_does (n := (bo.length : Int)) (many := 2) (by omega) hG.wf)) (QOk_body _ _ _) rfl (by first | exact .inl rfl | exact .inr ⟨_, _, rfl, rfl⟩) ?_
    rintro _ ⟨_, G5, ⟨A5, c5, rfl, hb5⟩, hn5, rfl⟩
    clear hn5
    simp only [go_sem, Nat.reduceAdd, Nat.reduceSub, Nat.reduceMul, Nat.reduceEqDiff, Nat.reduceLT, Nat.reduceLeDiff, Nat.reduceBEq, Nat.reduceBNe, Int.reduceLT, Int.reduceLE, Int.reduceEq, Int.reduceAdd, Int.reduceSub, Int.reduceNeg, reduceCtorEq]
    intro g2
    refine anyRead_ok (B1 := []) rfl 1 6 6 (Nat.le_refl _) (by unfold maxLen; omega) rfl id (by simp) fun G7 hle7 hs7 => ?_
    simp only [go_sem, Nat.reduceAdd, Nat.reduceSub, Nat.reduceMul, Nat.reduceEqDiff, Nat.reduceLT, Nat.reduceLeDiff, Nat.reduceBEq, Nat.reduceBNe, Int.reduceLT, Int.reduceLE, Int.reduceEq, Int.reduceAdd, Int.reduceSub, Int.reduceNeg, reduceCtorEq]
    have hsaf : SafG G7 _ [numB e0 4, numB n0 4, numB i0 1, numB 0 1, numB (bo.length : Int) 2, bo] := rows6 hs7 (hb1.mono (hle7 G1 (by simp))) (hb2.mono (hle7 G2 (by simp))) (hb3.mono (hle7 G3 (by simp))) (hb4.mono (hle7 G4 (by simp))) (hb5.mono (hle7 G5 (by simp))) (hb.mono (hle7 G0 (by simp)))
    have hlen : [numB e0 4, numB n0 4, numB i0 1, numB 0 1, numB (bo.length : Int) 2, bo].flatten.length = 12 + bo.length := by simp [numB_len]; omega
    refine anyc_ok (N := 3000) (call_does (fun u G => ∃ A c, u = .slice A (12 + bo.length) c ∧ ByG G (.slice A (12 + bo.length) c) [numB e0 4, numB n0 4, numB i0 1, numB 0 1, numB (bo.length : Int) 2, bo].flatten) rfl rfl (by kernel_rfl) rfl (by simp only [dOk_some, dOk_none, Nat.reduceLT]) (fun G hG => ret_mono (concat_does (by rw [hlen]; omega) hG.wf (Sq.mono hsaf rowG_mono (hG.le G7 (by simp)))) fun u G' _ h => by rw [hlen] at h; exact h)) (QOk_body _ _ _) rfl (by first | exact .inl rfl | exact .inr ⟨_, _, rfl, rfl⟩) ?_
    rintro _ ⟨_, G8, ⟨A8, c8, rfl, hb8⟩, hn8, rfl⟩
    clear hn8
    simp only [go_sem, Nat.reduceAdd, Nat.reduceSub, Nat.reduceMul, Nat.reduceEqDiff, Nat.reduceLT, Nat.reduceLeDiff, Nat.reduceBEq, Nat.reduceBNe, Int.reduceLT, Int.reduceLE, Int.reduceEq, Int.reduceAdd, Int.reduceSub, Int.reduceNeg, reduceCtorEq]
    refine fin_ret (G := G0) Try.results76 ?_
    simp only [go_sem, Nat.reduceAdd, Nat.reduceSub, Nat.reduceMul, Nat.reduceEqDiff, Nat.reduceLT, Nat.reduceLeDiff, Nat.reduceBEq, Nat.reduceBNe, Int.reduceLT, Int.reduceLE, Int.reduceEq, Int.reduceAdd, Int.reduceSub, Int.reduceNeg, reduceCtorEq]
    intro aa w' _ hle
    refine ⟨A8, c8, rfl, ?_⟩
    rw [hflat]
    exact hb8.mono (hle G8 (by simp))
end Go.Proofs.Ytomfladifefomaa
