/- Geometry, sevens, body, spots. Conditions: as each law states them. -/
import Derived.Test.YtomfladifefomaaH1
namespace Go.Proofs.Ytomfladifefomaa
open Go.RowKit
set_option linter.unusedSimpArgs false
section
variable {P : Program} {E : Env} {σ : St} {o : Oper}
/-- an element of a literal's row of the call's own -/
theorem lit_elem_does {t e kc : Nat} {x i : Operand} {g n c m id : Nat} {kk : IntKind} {j : Int} (ho : o.op = .indexAddr t x i) (ht : tSlice P t = some e) (hk : tSize P e = some kc)
    (hx : ev σ x = some (.c (.s id g 0 n c))) (hi : ev σ i = some (.c (.v (.int kk j)))) (hd : dOk E o.dst) (hj : j = (m : Int)) (hm : m < n) :
    Does P E σ o (fun σ' => σ' = σ.put o.dst (.c (.p id g (m * kc)))) := by
  intro a w Q next hr hn
  have hx' : a.eval x = .slice (some ⟨g, 0, none⟩) n c := ev_den hr.see hx
  have hi' : a.eval i = .int kk j := ev_den hr.see hi
  obtain ⟨inf, hinf, hsz⟩ := tSize_spec hk
  have hrun : (execOp a.eval o).run P w = .ok (.value (.pointer (some ⟨g, m * kc, none⟩))) w := by
    unfold execOp
    subst hj
    have hc1 : 0 ≤ (m : Int) ∧ (m : Int) < (n : Int) := ⟨by omega, by omega⟩
    simp only [ho, hx', hi', Instr.indexAt, Sem.run_bind, asIntOf, Sem.run_pure, Result.andThen_ok, run_underlying (tSlice_spec ht), hc1, and_self, if_true, sizeOf, typeInfo, run_program, hinf, hsz, Int.toNat_natCast, Addr.add_mid, Nat.zero_add]
  exact wp_of_value hrun (hn _ _ _ rfl (hr.put o.dst (.c (.p id g (m * kc))) (dOk_lt hd)))
end
def geoK (a b c : Int) : Geo := ⟨8 + pick a 30, 30 + pick a 40, 10 + pick b 60, 700 + pick c 2000, 2 + pick c 7⟩
theorem geoK_good (a b c : Int) : GoodGeo (geoK a b c) := by
  have h1 := pick_bd a 30 (by omega)
  have h2 := pick_bd a 40 (by omega)
  have h3 := pick_bd b 60 (by omega)
  have h4 := pick_bd c 2000 (by omega)
  have h5 := pick_bd c 7 (by omega)
  constructor <;> simp only [geoK] <;> omega
set_option maxRecDepth 100000 in
set_option maxHeartbeats 4000000 in
theorem geometry_does {a b c : Int} (ha : i64 a) (hb : i64 b) (hc : i64 c) {G0 : GW} (hW : G0.Wf) :
    Calls Try.prog 46 #[.int .i64 a, .int .i64 b, .int .i64 c] G0.w (Ret G0 fun v _ => v = geoV (geoK a b c)) := by
  obtain ⟨a1, a2⟩ := ha
  obtain ⟨b1, b2⟩ := hb
  obtain ⟨c1, c2⟩ := hc
  refine enter (G := G0) (n := 23) 3000 hW Try.func46 rfl Try.ntmps46 (by simp) ?_
  simp only [go_sem, Nat.reduceAdd, Nat.reduceSub, Nat.reduceMul, Nat.reduceEqDiff, Nat.reduceLT, Nat.reduceLeDiff, Nat.reduceBEq, Nat.reduceBNe, Int.reduceLT, Int.reduceLE, Int.reduceEq, Int.reduceAdd, Int.reduceSub, Int.reduceNeg, reduceCtorEq]
  intro g1
  refine plain_ok (N := 3000) (call_does (fun v _ => ∃ k : Nat, (k : Int) = pick a 30 ∧ (k : Int) < 30 ∧ v = .int .i64 (k : Int)) rfl rfl (by kernel_rfl) rfl (by simp only [dOk_some, dOk_none, Nat.reduceLT]) (fun G hG => picked_does a1 a2 (by omega) (by omega))) (QOk_body _ _ _) (by first | exact .inl rfl | exact .inr ⟨_, _, rfl, rfl⟩) ?_
  rintro _ ⟨_, G1, ⟨k1, e1, l1, rfl⟩, hn1, rfl⟩
  clear hn1
  simp only [go_sem, Nat.reduceAdd, Nat.reduceSub, Nat.reduceMul, Nat.reduceEqDiff, Nat.reduceLT, Nat.reduceLeDiff, Nat.reduceBEq, Nat.reduceBNe, Int.reduceLT, Int.reduceLE, Int.reduceEq, Int.reduceAdd, Int.reduceSub, Int.reduceNeg, reduceCtorEq]
  refine ⟨by omega, ?_⟩
  refine plain_ok (N := 3000) (call_does (fun v _ => ∃ k : Nat, (k : Int) = pick a 40 ∧ (k : Int) < 40 ∧ v = .int .i64 (k : Int)) rfl rfl (by kernel_rfl) rfl (by simp only [dOk_some, dOk_none, Nat.reduceLT]) (fun G hG => picked_does a1 a2 (by omega) (by omega))) (QOk_body _ _ _) (by first | exact .inl rfl | exact .inr ⟨_, _, rfl, rfl⟩) ?_
  rintro _ ⟨_, G2, ⟨k2, e2, l2, rfl⟩, hn2, rfl⟩
  clear hn2
  simp only [go_sem, Nat.reduceAdd, Nat.reduceSub, Nat.reduceMul, Nat.reduceEqDiff, Nat.reduceLT, Nat.reduceLeDiff, Nat.reduceBEq, Nat.reduceBNe, Int.reduceLT, Int.reduceLE, Int.reduceEq, Int.reduceAdd, Int.reduceSub, Int.reduceNeg, reduceCtorEq]
  refine ⟨by omega, ?_⟩
  refine plain_ok (N := 3000) (call_does (fun v _ => ∃ k : Nat, (k : Int) = pick b 60 ∧ (k : Int) < 60 ∧ v = .int .i64 (k : Int)) rfl rfl (by kernel_rfl) rfl (by simp only [dOk_some, dOk_none, Nat.reduceLT]) (fun G hG => picked_does b1 b2 (by omega) (by omega))) (QOk_body _ _ _) (by first | exact .inl rfl | exact .inr ⟨_, _, rfl, rfl⟩) ?_
  rintro _ ⟨_, G3, ⟨k3, e3, l3, rfl⟩, hn3, rfl⟩
  clear hn3
  simp only [go_sem, Nat.reduceAdd, Nat.reduceSub, Nat.reduceMul, Nat.reduceEqDiff, Nat.reduceLT, Nat.reduceLeDiff, Nat.reduceBEq, Nat.reduceBNe, Int.reduceLT, Int.reduceLE, Int.reduceEq, Int.reduceAdd, Int.reduceSub, Int.reduceNeg, reduceCtorEq]
  refine ⟨by omega, ?_⟩
  refine plain_ok (N := 3000) (call_does (fun v _ => ∃ k : Nat, (k : Int) = pick c 2000 ∧ (k : Int) < 2000 ∧ v = .int .i64 (k : Int)) rfl rfl (by kernel_rfl) rfl (by simp only [dOk_some, dOk_none, Nat.reduceLT]) (fun G hG => picked_does c1 c2 (by omega) (by omega))) (QOk_body _ _ _) (by first | exact .inl rfl | exact .inr ⟨_, _, rfl, rfl⟩) ?_
  rintro _ ⟨_, G4, ⟨k4, e4, l4, rfl⟩, hn4, rfl⟩
  clear hn4
  simp only [go_sem, Nat.reduceAdd, Nat.reduceSub, Nat.reduceMul, Nat.reduceEqDiff, Nat.reduceLT, Nat.reduceLeDiff, Nat.reduceBEq, Nat.reduceBNe, Int.reduceLT, Int.reduceLE, Int.reduceEq, Int.reduceAdd, Int.reduceSub, Int.reduceNeg, reduceCtorEq]
  refine ⟨by omega, ?_⟩
  refine plain_ok (N := 3000) (call_does (fun v _ => ∃ k : Nat, (k : Int) = pick c 7 ∧ (k : Int) < 7 ∧ v = .int .i64 (k : Int)) rfl rfl (by kernel_rfl) rfl (by simp only [dOk_some, dOk_none, Nat.reduceLT]) (fun G hG => picked_does c1 c2 (by omega) (by omega))) (QOk_body _ _ _) (by first | exact .inl rfl | exact .inr ⟨_, _, rfl, rfl⟩) ?_
  rintro _ ⟨_, G5, ⟨k5, e5, l5, rfl⟩, hn5, rfl⟩
  clear hn5
  simp only [go_sem, Nat.reduceAdd, Nat.reduceSub, Nat.reduceMul, Nat.reduceEqDiff, Nat.reduceLT, Nat.reduceLeDiff, Nat.reduceBEq, Nat.reduceBNe, Int.reduceLT, Int.reduceLE, Int.reduceEq, Int.reduceAdd, Int.reduceSub, Int.reduceNeg, reduceCtorEq]
  refine ⟨by omega, ?_⟩
  refine fin_ret (G := G0) Try.results46 ?_
  simp only [go_sem, Nat.reduceAdd, Nat.reduceSub, Nat.reduceMul, Nat.reduceEqDiff, Nat.reduceLT, Nat.reduceLeDiff, Nat.reduceBEq, Nat.reduceBNe, Int.reduceLT, Int.reduceLE, Int.reduceEq, Int.reduceAdd, Int.reduceSub, Int.reduceNeg, reduceCtorEq]
  intro aa w' _ _
  simp only [geoV, geoK, ← e1, ← e2, ← e3, ← e4, ← e5]
  rfl
set_option maxRecDepth 100000 in
set_option maxHeartbeats 4000000 in
theorem sevens_does {a : Int} (ha : i64 a) {G0 : GW} (hW : G0.Wf) :
    Calls Try.prog 40 #[.int .i64 a] G0.w (Ret G0 fun v _ => ∃ g, v = geoV g ∧ GoodGeo g ∧ (g.hot = 11 ∨ g.hot = 22 ∨ g.hot = 31)) := by
  obtain ⟨a1, a2⟩ := ha
  have hgk := geoK_good a a a
  refine enter (G := G0) (n := 15) 3000 hW Try.func40 rfl Try.ntmps40 (by simp) ?_
  simp only [go_sem, Nat.reduceAdd, Nat.reduceSub, Nat.reduceMul, Nat.reduceEqDiff, Nat.reduceLT, Nat.reduceLeDiff, Nat.reduceBEq, Nat.reduceBNe, Int.reduceLT, Int.reduceLE, Int.reduceEq, Int.reduceAdd, Int.reduceSub, Int.reduceNeg, reduceCtorEq]
  intro g1
  refine plain_ok (N := 3000) (call_does (fun v _ => v = .agg #[.int .i64 (geoK a a a).ring, .int .i64 (geoK a a a).area, .int .i64 (geoK a a a).hot, .int .i64 (geoK a a a).volume, .int .i64 (geoK a a a).volumes]) rfl rfl (by kernel_rfl) rfl (by simp only [dOk_some, dOk_none, Nat.reduceLT]) (fun G hG => geometry_does ⟨a1, a2⟩ ⟨a1, a2⟩ ⟨a1, a2⟩ hG.wf)) (QOk_body _ _ _) (by first | exact .inl rfl | exact .inr ⟨_, _, rfl, rfl⟩) ?_
  rintro _ ⟨_, G1, rfl, hn1, rfl⟩
  clear hn1
  generalize geoK a a a = x at hgk
  simp only [go_sem, Nat.reduceAdd, Nat.reduceSub, Nat.reduceMul, Nat.reduceEqDiff, Nat.reduceLT, Nat.reduceLeDiff, Nat.reduceBEq, Nat.reduceBNe, Int.reduceLT, Int.reduceLE, Int.reduceEq, Int.reduceAdd, Int.reduceSub, Int.reduceNeg, reduceCtorEq]
  intro g2 g3
  refine plain_ok (N := 3000) (call_does (fun v _ => ∃ k : Nat, (k : Int) = pick a 3 ∧ (k : Int) < 3 ∧ v = .int .i64 (k : Int)) rfl rfl (by kernel_rfl) rfl (by simp only [dOk_some, dOk_none, Nat.reduceLT]) (fun G hG => picked_does a1 a2 (by omega) (by omega))) (QOk_body _ _ _) (by first | exact .inl rfl | exact .inr ⟨_, _, rfl, rfl⟩) ?_
  rintro _ ⟨_, G2, ⟨k, _, hk, rfl⟩, hn2, rfl⟩
  clear hn2
  have hgd : ∀ h : Int, 2 ≤ h → h ≤ 200 → GoodGeo { x with hot := h } := fun h h1 h2 => ⟨hgk.r1, hgk.r2, hgk.a1, hgk.a2, h1, h2, hgk.v1, hgk.v2, hgk.n1, hgk.n2⟩
  obtain rfl | rfl | rfl : k = 0 ∨ k = 1 ∨ k = 2 := by omega
  · simp only [go_sem, Nat.reduceAdd, Nat.reduceSub, Nat.reduceMul, Nat.reduceEqDiff, Nat.reduceLT, Nat.reduceLeDiff, Nat.reduceBEq, Nat.reduceBNe, Int.reduceLT, Int.reduceLE, Int.reduceEq, Int.reduceAdd, Int.reduceSub, Int.reduceNeg, reduceCtorEq]
    refine plain_ok (N := 3000) (lit_elem_does (m := 0) rfl tySlice28 tySize3 rfl rfl (by simp only [dOk_some, dOk_none, Nat.reduceLT]) rfl (by omega)) (QOk_body _ _ _) (by first | exact .inl rfl | exact .inr ⟨_, _, rfl, rfl⟩) ?_
    rintro _ rfl
    simp only [go_sem, Nat.reduceAdd, Nat.reduceSub, Nat.reduceMul, Nat.reduceEqDiff, Nat.reduceLT, Nat.reduceLeDiff, Nat.reduceBEq, Nat.reduceBNe, Int.reduceLT, Int.reduceLE, Int.reduceEq, Int.reduceAdd, Int.reduceSub, Int.reduceNeg, reduceCtorEq]
    refine fin_ret (G := G0) Try.results40 ?_
    simp only [go_sem, Nat.reduceAdd, Nat.reduceSub, Nat.reduceMul, Nat.reduceEqDiff, Nat.reduceLT, Nat.reduceLeDiff, Nat.reduceBEq, Nat.reduceBNe, Int.reduceLT, Int.reduceLE, Int.reduceEq, Int.reduceAdd, Int.reduceSub, Int.reduceNeg, reduceCtorEq]
    intro aa w' _ _
    exact ⟨{ x with hot := 11 }, rfl, hgd 11 (by omega) (by omega), .inl rfl⟩
  · simp only [go_sem, Nat.reduceAdd, Nat.reduceSub, Nat.reduceMul, Nat.reduceEqDiff, Nat.reduceLT, Nat.reduceLeDiff, Nat.reduceBEq, Nat.reduceBNe, Int.reduceLT, Int.reduceLE, Int.reduceEq, Int.reduceAdd, Int.reduceSub, Int.reduceNeg, reduceCtorEq]
    refine plain_ok (N := 3000) (lit_elem_does (m := 1) rfl tySlice28 tySize3 rfl rfl (by simp only [dOk_some, dOk_none, Nat.reduceLT]) rfl (by omega)) (QOk_body _ _ _) (by first | exact .inl rfl | exact .inr ⟨_, _, rfl, rfl⟩) ?_
    rintro _ rfl
    simp only [go_sem, Nat.reduceAdd, Nat.reduceSub, Nat.reduceMul, Nat.reduceEqDiff, Nat.reduceLT, Nat.reduceLeDiff, Nat.reduceBEq, Nat.reduceBNe, Int.reduceLT, Int.reduceLE, Int.reduceEq, Int.reduceAdd, Int.reduceSub, Int.reduceNeg, reduceCtorEq]
    refine fin_ret (G := G0) Try.results40 ?_
    simp only [go_sem, Nat.reduceAdd, Nat.reduceSub, Nat.reduceMul, Nat.reduceEqDiff, Nat.reduceLT, Nat.reduceLeDiff, Nat.reduceBEq, Nat.reduceBNe, Int.reduceLT, Int.reduceLE, Int.reduceEq, Int.reduceAdd, Int.reduceSub, Int.reduceNeg, reduceCtorEq]
    intro aa w' _ _
    exact ⟨{ x with hot := 22 }, rfl, hgd 22 (by omega) (by omega), .inr (.inl rfl)⟩
  · simp only [go_sem, Nat.reduceAdd, Nat.reduceSub, Nat.reduceMul, Nat.reduceEqDiff, Nat.reduceLT, Nat.reduceLeDiff, Nat.reduceBEq, Nat.reduceBNe, Int.reduceLT, Int.reduceLE, Int.reduceEq, Int.reduceAdd, Int.reduceSub, Int.reduceNeg, reduceCtorEq]
    refine plain_ok (N := 3000) (lit_elem_does (m := 2) rfl tySlice28 tySize3 rfl rfl (by simp only [dOk_some, dOk_none, Nat.reduceLT]) rfl (by omega)) (QOk_body _ _ _) (by first | exact .inl rfl | exact .inr ⟨_, _, rfl, rfl⟩) ?_
    rintro _ rfl
    simp only [go_sem, Nat.reduceAdd, Nat.reduceSub, Nat.reduceMul, Nat.reduceEqDiff, Nat.reduceLT, Nat.reduceLeDiff, Nat.reduceBEq, Nat.reduceBNe, Int.reduceLT, Int.reduceLE, Int.reduceEq, Int.reduceAdd, Int.reduceSub, Int.reduceNeg, reduceCtorEq]
    refine fin_ret (G := G0) Try.results40 ?_
    simp only [go_sem, Nat.reduceAdd, Nat.reduceSub, Nat.reduceMul, Nat.reduceEqDiff, Nat.reduceLT, Nat.reduceLeDiff, Nat.reduceBEq, Nat.reduceBNe, Int.reduceLT, Int.reduceLE, Int.reduceEq, Int.reduceAdd, Int.reduceSub, Int.reduceNeg, reduceCtorEq]
    intro aa w' _ _
    exact ⟨{ x with hot := 31 }, rfl, hgd 31 (by omega) (by omega), .inr (.inr rfl)⟩
def grow (s : ByteArray) (m : Int) : Nat → ByteArray → ByteArray
  | 0, o => o
  | f + 1, o => if (o.size : Int) < m ∧ s.size ≠ 0 then grow s m f (o ++ s) else o
theorem grow_stop {s : ByteArray} {m : Int} {f : Nat} {o : ByteArray} (h : ¬ ((o.size : Int) < m ∧ s.size ≠ 0)) : grow s m f o = o := by
  cases f with
  | zero => rfl
  | succ f => unfold grow; rw [if_neg h]
def bodyOf (s : ByteArray) (n : Int) : ByteArray := (grow s (pick n 300) 300 ⟨#[]⟩).extract (Int.toNat 0) (min ((grow s (pick n 300) 300 ⟨#[]⟩).size : Int) 600).toNat
theorem bodyOf_size (s : ByteArray) (n : Int) : (bodyOf s n).size ≤ 600 := by
  unfold bodyOf
  simp
  omega
theorem bytes_empty (s : ByteArray) : (s.toList == (⟨#[]⟩ : ByteArray).toList) = decide (s.size = 0) := by
  rw [Bool.eq_iff_iff, decide_eq_true_iff, beq_iff_eq]
  have he : (⟨#[]⟩ : ByteArray).toList = [] := by
    rw [ByteArray.toList_eq]
  rw [he, ByteArray.toList_eq]
  constructor
  · intro h
    have := congrArg List.length h
    simpa using this
  · intro h
    exact List.eq_nil_of_length_eq_zero (by simpa using h)
set_option maxRecDepth 100000 in
set_option maxHeartbeats 4000000 in
theorem body_does {s : ByteArray} {n : Int} (hs : s.size ≤ maxLen) (hn : i64 n) {G0 : GW} (hW : G0.Wf) :
    Calls Try.prog 41 #[.string s, .int .i64 n] G0.w (Ret G0 fun v _ => v = .string (bodyOf s n)) := by
  obtain ⟨n1, n2⟩ := hn
  have hml := max_le
  obtain ⟨p1, p2⟩ := pick_bd n 300 (by omega)
  obtain ⟨R, hR⟩ : ∃ R, R = grow s (pick n 300) 300 ⟨#[]⟩ := ⟨_, rfl⟩
  have hbo : bodyOf s n = R.extract (Int.toNat 0) (min (R.size : Int) 600).toNat := by rw [hR]; rfl
  refine enter (G := G0) (n := 23) 3000 hW Try.func41 rfl Try.ntmps41 (by simp) ?_
  simp only [go_sem, Nat.reduceAdd, Nat.reduceSub, Nat.reduceMul, Nat.reduceEqDiff, Nat.reduceLT, Nat.reduceLeDiff, Nat.reduceBEq, Nat.reduceBNe, Int.reduceLT, Int.reduceLE, Int.reduceEq, Int.reduceAdd, Int.reduceSub, Int.reduceNeg, reduceCtorEq]
  refine loop_ok (N := 3000) (ι := Nat × ByteArray × GW) (fun i => match i with | (f, out, G) => ⟨[(0, .c (.v (.string s))), (1, .c (.v (.int .i64 n))), (5, .c (.v (.string out)))], [], [], [], [G], 0⟩)
    (fun i => match i with | (f, out, _) => grow s (pick n 300) f out = R ∧ 300 ≤ f + out.size ∧ (out.size = 0 ∨ s.size ≤ out.size))
    (fun i => i.1) (QOk_body _ _ _) (300, ⟨#[]⟩, G0) ⟨hR.symm, by simp, .inl rfl⟩ (by simp only [go_sem, Nat.reduceAdd, Nat.reduceSub, Nat.reduceMul, Nat.reduceEqDiff, Nat.reduceLT, Nat.reduceLeDiff, Nat.reduceBEq, Nat.reduceBNe, Int.reduceLT, Int.reduceLE, Int.reduceEq, Int.reduceAdd, Int.reduceSub, Int.reduceNeg, reduceCtorEq]; simp) ?_
  rintro ⟨f, out, G1⟩ ⟨hgr, hf, ho⟩
  simp only
  simp only [go_sem, Nat.reduceAdd, Nat.reduceSub, Nat.reduceMul, Nat.reduceEqDiff, Nat.reduceLT, Nat.reduceLeDiff, Nat.reduceBEq, Nat.reduceBNe, Int.reduceLT, Int.reduceLE, Int.reduceEq, Int.reduceAdd, Int.reduceSub, Int.reduceNeg, reduceCtorEq]
  refine plain_ok (N := 3000) (call_does (fun v _ => ∃ k : Nat, (k : Int) = pick n 300 ∧ (k : Int) < 300 ∧ v = .int .i64 (k : Int)) rfl rfl (by kernel_rfl) rfl (by simp only [dOk_some, dOk_none, Nat.reduceLT]) (fun G hG => picked_does n1 n2 (by omega) (by omega))) (QOk_body _ _ _) (by first | exact .inl rfl | exact .inr ⟨_, _, rfl, rfl⟩) ?_
  rintro _ ⟨_, G2, ⟨k, hk, hk3, rfl⟩, hn2, rfl⟩
  clear hn2
  by_cases h1 : (out.size : Int) < (k : Int)
  · have q1 : decide ((out.size : Int) < (k : Int)) = true := decide_eq_true h1
    by_cases h2 : s.size = 0
    · have q2 : (s.toList == (⟨#[]⟩ : ByteArray).toList) = true := by rw [bytes_empty]; exact decide_eq_true h2
      simp only [go_sem, Nat.reduceAdd, Nat.reduceSub, Nat.reduceMul, Nat.reduceEqDiff, Nat.reduceLT, Nat.reduceLeDiff, Nat.reduceBEq, Nat.reduceBNe, Int.reduceLT, Int.reduceLE, Int.reduceEq, Int.reduceAdd, Int.reduceSub, Int.reduceNeg, reduceCtorEq, q1, q2]
      rw [grow_stop (by omega)] at hgr
      subst hgr
      refine ⟨by omega, ?_⟩
      refine fin_ret (G := G0) Try.results41 ?_
      simp only [go_sem, Nat.reduceAdd, Nat.reduceSub, Nat.reduceMul, Nat.reduceEqDiff, Nat.reduceLT, Nat.reduceLeDiff, Nat.reduceBEq, Nat.reduceBNe, Int.reduceLT, Int.reduceLE, Int.reduceEq, Int.reduceAdd, Int.reduceSub, Int.reduceNeg, reduceCtorEq]
      intro a w' _ _
      rw [hbo]
      rfl
    · have q2 : (s.toList == (⟨#[]⟩ : ByteArray).toList) = false := by rw [bytes_empty]; exact decide_eq_false h2
      simp only [go_sem, Nat.reduceAdd, Nat.reduceSub, Nat.reduceMul, Nat.reduceEqDiff, Nat.reduceLT, Nat.reduceLeDiff, Nat.reduceBEq, Nat.reduceBNe, Int.reduceLT, Int.reduceLE, Int.reduceEq, Int.reduceAdd, Int.reduceSub, Int.reduceNeg, reduceCtorEq, q1, q2]
      refine ⟨by omega, ?_⟩
      cases f with
      | zero => omega
      | succ f =>
        have hgr2 : grow s (pick n 300) f (out ++ s) = R := by
          rw [← hgr]
          conv => rhs; unfold grow
          rw [if_pos ⟨by omega, h2⟩]
        have hz : (out ++ s).size = out.size + s.size := ByteArray.size_append
        have hp1 : 300 ≤ f + (out ++ s).size := by omega
        have hp2 : (out ++ s).size = 0 ∨ s.size ≤ (out ++ s).size := .inr (by omega)
        exact again_ok (f, out ++ s, G1) ⟨hgr2, hp1, hp2⟩ (by simp only; omega) (by simp only [go_sem, Nat.reduceAdd, Nat.reduceSub, Nat.reduceMul, Nat.reduceEqDiff, Nat.reduceLT, Nat.reduceLeDiff, Nat.reduceBEq, Nat.reduceBNe, Int.reduceLT, Int.reduceLE, Int.reduceEq, Int.reduceAdd, Int.reduceSub, Int.reduceNeg, reduceCtorEq]; simp)
  · have q1 : decide ((out.size : Int) < (k : Int)) = false := decide_eq_false h1
    simp only [go_sem, Nat.reduceAdd, Nat.reduceSub, Nat.reduceMul, Nat.reduceEqDiff, Nat.reduceLT, Nat.reduceLeDiff, Nat.reduceBEq, Nat.reduceBNe, Int.reduceLT, Int.reduceLE, Int.reduceEq, Int.reduceAdd, Int.reduceSub, Int.reduceNeg, reduceCtorEq, q1]
    rw [grow_stop (by omega)] at hgr
    subst hgr
    refine ⟨by omega, ?_⟩
    refine fin_ret (G := G0) Try.results41 ?_
    simp only [go_sem, Nat.reduceAdd, Nat.reduceSub, Nat.reduceMul, Nat.reduceEqDiff, Nat.reduceLT, Nat.reduceLeDiff, Nat.reduceBEq, Nat.reduceBNe, Int.reduceLT, Int.reduceLE, Int.reduceEq, Int.reduceAdd, Int.reduceSub, Int.reduceNeg, reduceCtorEq]
    intro a w' _ _
    rw [hbo]
    rfl
def spotsTo (hot f : Int) : Nat → List Int
  | 0 => []
  | i + 1 => spotsTo hot f i ++ [HMod.hMod (f + (i : Int) * 7) hot]
theorem spotsTo_len (hot f : Int) : ∀ i, (spotsTo hot f i).length = i
  | 0 => rfl
  | i + 1 => by simp [spotsTo, spotsTo_len hot f i]
set_option maxRecDepth 100000 in
set_option maxHeartbeats 4000000 in
theorem spots_does {g : Geo} (hg : GoodGeo g) {size : Int} {n : Nat} {from_ : Int} (hf : i64 from_) (hn : (n : Int) = (size + 63) / 64) (h0 : 0 ≤ size) (hs : size ≤ 10000) {G0 : GW} (hW : G0.Wf) :
    Calls Try.prog 43 #[geoV g, .int .i64 size, .int .i64 from_] G0.w (Ret G0 fun v G => IntsG G v (spotsTo g.hot (pick from_ g.hot) n)) := by
  obtain ⟨f1, f2⟩ := hf
  have := hg.h1; have := hg.h2
  have hpk := pick_bd from_ g.hot (by omega)
  refine enter (G := G0) (n := 31) 3000 hW Try.func43 rfl Try.ntmps43 (by simp) ?_
  simp only [go_sem, Nat.reduceAdd, Nat.reduceSub, Nat.reduceMul, Nat.reduceEqDiff, Nat.reduceLT, Nat.reduceLeDiff, Nat.reduceBEq, Nat.reduceBNe, Int.reduceLT, Int.reduceLE, Int.reduceEq, Int.reduceAdd, Int.reduceSub, Int.reduceNeg, reduceCtorEq, geoV]
  intro g1
  refine plain_ok (N := 3000) (call_does (fun v _ => v = .int .i64 (n : Int)) rfl rfl (by kernel_rfl) rfl (by simp only [dOk_some, dOk_none, Nat.reduceLT]) (fun G hG => ret_mono (secs_does hG.wf (by omega) (by omega)) fun v G' _ h => by rw [h, hn])) (QOk_body _ _ _) (by first | exact .inl rfl | exact .inr ⟨_, _, rfl, rfl⟩) ?_
  rintro _ ⟨_, G1, rfl, hn1, rfl⟩
  clear hn1
  simp only [go_sem, Nat.reduceAdd, Nat.reduceSub, Nat.reduceMul, Nat.reduceEqDiff, Nat.reduceLT, Nat.reduceLeDiff, Nat.reduceBEq, Nat.reduceBNe, Int.reduceLT, Int.reduceLE, Int.reduceEq, Int.reduceAdd, Int.reduceSub, Int.reduceNeg, reduceCtorEq]
  refine row_ok 3 1 ?_
  refine loop_ok (N := 3000) (ι := Nat × Option Addr × Nat × GW)
    (fun i => match i with | (v, A', c', G) => ⟨[(2, .c (.v (.int .i64 from_))), (3, .c (.p 0 g1 0)), (7, .c (.v (.slice A' v c'))), (8, .c (.v (.int .i64 (n : Int)))), (9, .c (.v (.int .i64 (v : Int))))],
      [⟨0, g1, 32, [.v (.int .i64 g.ring), .v (.int .i64 g.area), .v (.int .i64 g.hot), .v (.int .i64 g.volume), .v (.int .i64 g.volumes)]⟩], [⟨.slice A' v c', 3, 1, v, (spotsTo g.hot (pick from_ g.hot) v).map (Value.int .i64)⟩], [], [G], 1⟩)
    (fun i => match i with | (v, _, _, _) => v ≤ n)
    (fun i => n - i.1) (QOk_body _ _ _) (0, none, 0, G1) (by omega) (by simp only [go_sem, Nat.reduceAdd, Nat.reduceSub, Nat.reduceMul, Nat.reduceEqDiff, Nat.reduceLT, Nat.reduceLeDiff, Nat.reduceBEq, Nat.reduceBNe, Int.reduceLT, Int.reduceLE, Int.reduceEq, Int.reduceAdd, Int.reduceSub, Int.reduceNeg, reduceCtorEq]; simp [spotsTo]) ?_
  clear G1
  rintro ⟨v, A', c', G1⟩ hv
  have hv : v ≤ n := hv
  simp only
  by_cases hlt : v < n
  · have q1 : decide ((v : Int) < (n : Int)) = true := decide_eq_true (by omega)
    simp only [go_sem, Nat.reduceAdd, Nat.reduceSub, Nat.reduceMul, Nat.reduceEqDiff, Nat.reduceLT, Nat.reduceLeDiff, Nat.reduceBEq, Nat.reduceBNe, Int.reduceLT, Int.reduceLE, Int.reduceEq, Int.reduceAdd, Int.reduceSub, Int.reduceNeg, reduceCtorEq, q1]
    refine draw_ok (N := 3000) (.take 0 (.take 1 (.take 2 (.take 3 (.take 5 (.take 6 (.take 8 (.take 9 (.alt 4 (.take 7 (.take 10 (.alt 11 (.alt 12 (.take 13 .done) .last) .last))) .last))))))))) [] (QOk_body _ _ _) follows_mixed (by kernel_rfl) (by kernel_rfl) ?_
    simp only [go_sem, Nat.reduceAdd, Nat.reduceSub, Nat.reduceMul, Nat.reduceEqDiff, Nat.reduceLT, Nat.reduceLeDiff, Nat.reduceBEq, Nat.reduceBNe, Int.reduceLT, Int.reduceLE, Int.reduceEq, Int.reduceAdd, Int.reduceSub, Int.reduceNeg, reduceCtorEq]
    refine ⟨by omega, ?_⟩
    refine anyc_ok (N := 3000) (call_does (fun v _ => ∃ k : Nat, (k : Int) = pick from_ g.hot ∧ (k : Int) < g.hot ∧ v = .int .i64 (k : Int)) rfl rfl (by kernel_rfl) rfl (by simp only [dOk_some, dOk_none, Nat.reduceLT]) (fun G hG => picked_does f1 f2 (by omega) (by omega))) (QOk_body _ _ _) rfl (by first | exact .inl rfl | exact .inr ⟨_, _, rfl, rfl⟩) ?_
    rintro _ ⟨_, G2, ⟨k, hk, hk3, rfl⟩, hn2, rfl⟩
    clear hn2
    simp only [go_sem, Nat.reduceAdd, Nat.reduceSub, Nat.reduceMul, Nat.reduceEqDiff, Nat.reduceLT, Nat.reduceLeDiff, Nat.reduceBEq, Nat.reduceBNe, Int.reduceLT, Int.reduceLE, Int.reduceEq, Int.reduceAdd, Int.reduceSub, Int.reduceNeg, reduceCtorEq]
    refine ⟨by omega, by omega, ?_⟩
    intro g2
    refine any_ok2 (N := 3000) (append_does (R1 := []) (m := 1) (news := [.int .i64 (HMod.hMod ((k : Int) + (v : Int) * 7) g.hot)]) rfl tySlice28 tyApp3 rfl rfl rfl rfl (by simp only [dOk_some, dOk_none, Nat.reduceLT]) (by intro u hu; simp at hu; rcases hu with rfl; rfl) (by unfold maxLen; omega) (by omega) (fun G hG => tsl_blk hG (b := ⟨1, g2, 3, [.v (.int .i64 (HMod.hMod ((k : Int) + (v : Int) * 7) g.hot))]⟩) (by simp) rfl (by unfold maxLen; omega))) (QOk_body _ _ _) rfl (by first | exact .inl rfl | exact .inr ⟨_, _, rfl, rfl⟩) (by intro _ hK; first | (obtain ⟨_, _, _, _, rfl⟩ := hK; exact ⟨rfl, fun _ h => h⟩) | (obtain ⟨_, _, rfl⟩ := hK; exact ⟨rfl, fun _ h => h⟩) | (obtain ⟨_, _, _, _, _, _, rfl⟩ := hK; exact ⟨rfl, fun _ h => List.mem_cons_of_mem _ h⟩) | (obtain ⟨_, _, _, _, _, _, _, rfl⟩ := hK; exact ⟨rfl, fun _ h => List.mem_cons_of_mem _ h⟩) | (obtain rfl := hK; exact ⟨rfl, fun _ h => h⟩)) ?_
    rintro _ ⟨A'', c'', rfl⟩
    simp only [go_sem, Nat.reduceAdd, Nat.reduceSub, Nat.reduceMul, Nat.reduceEqDiff, Nat.reduceLT, Nat.reduceLeDiff, Nat.reduceBEq, Nat.reduceBNe, Int.reduceLT, Int.reduceLE, Int.reduceEq, Int.reduceAdd, Int.reduceSub, Int.reduceNeg, reduceCtorEq]
    have e2 : (spotsTo g.hot (pick from_ g.hot) v).map (Value.int .i64) ++ [.int .i64 (HMod.hMod ((k : Int) + (v : Int) * 7) g.hot)] = (spotsTo g.hot (pick from_ g.hot) (v + 1)).map (Value.int .i64) := by
      rw [hk]
      simp [spotsTo]
    rw [e2]
    exact ⟨by omega, again_ok (v + 1, A'', c'', G1) (show v + 1 ≤ n by omega) (by simp only; omega) (by simp only [go_sem, Nat.reduceAdd, Nat.reduceSub, Nat.reduceMul, Nat.reduceEqDiff, Nat.reduceLT, Nat.reduceLeDiff, Nat.reduceBEq, Nat.reduceBNe, Int.reduceLT, Int.reduceLE, Int.reduceEq, Int.reduceAdd, Int.reduceSub, Int.reduceNeg, reduceCtorEq]; simp)⟩
  · have q1 : decide ((v : Int) < (n : Int)) = false := decide_eq_false (by omega)
    obtain rfl : v = n := by omega
    simp only [go_sem, Nat.reduceAdd, Nat.reduceSub, Nat.reduceMul, Nat.reduceEqDiff, Nat.reduceLT, Nat.reduceLeDiff, Nat.reduceBEq, Nat.reduceBNe, Int.reduceLT, Int.reduceLE, Int.reduceEq, Int.reduceAdd, Int.reduceSub, Int.reduceNeg, reduceCtorEq, q1]
    refine read_ok (R1 := []) rfl fun G3 hle3 hs3 => ?_
    refine fin_ret (G := G0) Try.results43 ?_
    simp only [go_sem, Nat.reduceAdd, Nat.reduceSub, Nat.reduceMul, Nat.reduceEqDiff, Nat.reduceLT, Nat.reduceLeDiff, Nat.reduceBEq, Nat.reduceBNe, Int.reduceLT, Int.reduceLE, Int.reduceEq, Int.reduceAdd, Int.reduceSub, Int.reduceNeg, reduceCtorEq]
    intro a w' _ hle
    refine IntsG.of ?_
    rw [spotsTo_len]
    exact hs3.mono (hle G3 (by simp))
end Go.Proofs.Ytomfladifefomaa
