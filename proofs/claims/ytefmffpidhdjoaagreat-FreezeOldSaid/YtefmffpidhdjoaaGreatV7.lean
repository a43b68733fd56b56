/- 'icehousekeep.LiveSum' returns true for all raw things. Conditions: none. -/
import Derived.Test.YtefmffpidhdjoaaGreatV1
namespace Go.Proofs.YtefmffpidhdjoaaGreat
open Go.RowKit
open Nat (reduceAdd reduceSub reduceMul reduceEqDiff reduceLT reduceLeDiff)
set_option linter.unusedSimpArgs false
def liveB (x : Ver) (v : Int) : Bool := (decide (x.tier = 2) || decide (x.tier = 3)) && decide (x.vol = v)
def liveA (x : Ver) (v : Int) : Int := if liveB x v = true then 6 + x.size else 0
def liveL (v : Int) : List Ver → Int
  | [] => 0
  | x :: r => liveA x v + liveL v r
def coldL : List Ver → Int
  | [] => 0
  | x :: r => (if 2 ≤ x.tier then 6 + x.size else 0) + coldL r
def sumI : List Int → Int
  | [] => 0
  | x :: r => x + sumI r
def livesS (s : Sta) (n : Nat) : List Int := (List.range n).map fun (i : Nat) => liveL (i : Int) s.vers
theorem livesS_len (s : Sta) (n : Nat) : (livesS s n).length = n := by simp [livesS]
theorem livesS_succ (s : Sta) (n : Nat) : livesS s (n + 1) = livesS s n ++ [liveL (n : Int) s.vers] := by
  unfold livesS
  rw [List.range_succ, List.map_append]
  rfl
theorem liveA_bd {x : Ver} (h : 0 ≤ x.size ∧ x.size ≤ 600) (v : Int) : 0 ≤ liveA x v ∧ liveA x v ≤ 606 := by
  unfold liveA
  split <;> omega
theorem liveL_bd (v : Int) : ∀ l : List Ver, (∀ x ∈ l, 0 ≤ x.size ∧ x.size ≤ 600) → 0 ≤ liveL v l ∧ liveL v l ≤ 606 * (l.length : Int)
  | [], _ => by simp [liveL]
  | x :: r, h => by
    have h1 := liveA_bd (h x List.mem_cons_self) v
    have h2 := liveL_bd v r fun y hy => h y (List.mem_cons_of_mem _ hy)
    unfold liveL
    rw [List.length_cons]
    omega
theorem coldL_bd : ∀ l : List Ver, (∀ x ∈ l, 0 ≤ x.size ∧ x.size ≤ 600) → 0 ≤ coldL l ∧ coldL l ≤ 606 * (l.length : Int)
  | [], _ => by simp [coldL]
  | x :: r, h => by
    have h1 := h x List.mem_cons_self
    have h2 := coldL_bd r fun y hy => h y (List.mem_cons_of_mem _ hy)
    unfold coldL
    rw [List.length_cons]
    split <;> omega
theorem live_sum : ∀ l : List Ver, (∀ x ∈ l, 2 ≤ x.tier → (x.tier = 2 ∨ x.tier = 3) ∧ 0 ≤ x.vol ∧ x.vol < 8) →
    liveL 0 l + liveL 1 l + liveL 2 l + liveL 3 l + liveL 4 l + liveL 5 l + liveL 6 l + liveL 7 l = coldL l
  | [], _ => rfl
  | x :: r, h => by
    have ih := live_sum r fun y hy => h y (List.mem_cons_of_mem _ hy)
    have hx := h x List.mem_cons_self
    unfold coldL
    simp only [liveL]
    rw [← ih]
    by_cases ht : 2 ≤ x.tier
    · obtain ⟨h1, h2, h3⟩ := hx ht
      have e : ∀ k, liveA x k = if x.vol = k then 6 + x.size else 0 := fun k => by
        unfold liveA liveB
        rcases h1 with e | e <;> by_cases q : x.vol = k <;> simp [e, q]
      rw [e, e, e, e, e, e, e, e, if_pos ht]
      have : x.vol = 0 ∨ x.vol = 1 ∨ x.vol = 2 ∨ x.vol = 3 ∨ x.vol = 4 ∨ x.vol = 5 ∨ x.vol = 6 ∨ x.vol = 7 := by omega
      rcases this with q | q | q | q | q | q | q | q <;> rw [q] <;> simp <;> omega
    · have e : ∀ k, liveA x k = 0 := fun k => by
        unfold liveA liveB
        rw [decide_eq_false (by omega : ¬ x.tier = 2), decide_eq_false (by omega : ¬ x.tier = 3)]
        rfl
      rw [e, e, e, e, e, e, e, e, if_neg ht]
      omega
theorem sum_lives {s : Sta} (h : Good s) : sumI (livesS s 8) = coldL s.vers := by
  rw [← live_sum s.vers fun x hx ht => ?_]
  · show liveL 0 s.vers + (liveL 1 s.vers + (liveL 2 s.vers + (liveL 3 s.vers + (liveL 4 s.vers + (liveL 5 s.vers + (liveL 6 s.vers + (liveL 7 s.vers + 0))))))) = _
    omega
  · have tp : taped s x = true → 0 ≤ x.vol ∧ x.vol < 8 := fun q => by
      unfold taped onTape at q
      simp only [Bool.and_eq_true, decide_eq_true_eq] at q
      omega
    rcases (h.snd x hx).2 with ⟨_, m⟩ | ⟨_, _, _, t⟩
    · unfold markB at m
      simp only [Bool.and_eq_true, decide_eq_true_eq] at m
      omega
    · rcases t with ⟨t, _⟩ | ⟨t, q, _⟩ | ⟨t, q, _⟩
      · omega
      · exact ⟨.inl t, tp q⟩
      · exact ⟨.inr t, tp q⟩
theorem sumI_bd (n : Nat) : ∀ l : List Int, (∀ x ∈ l, 0 ≤ x ∧ x ≤ n) → 0 ≤ sumI l ∧ sumI l ≤ n * (l.length : Int)
  | [], _ => by simp [sumI]
  | x :: r, h => by
    have h1 := h x List.mem_cons_self
    have h2 := sumI_bd n r fun y hy => h y (List.mem_cons_of_mem _ hy)
    unfold sumI
    rw [List.length_cons]
    have : (n : Int) * ((r.length + 1 : Nat) : Int) = n * r.length + n := by push_cast; rw [Int.mul_add, Int.mul_one]
    omega
set_option maxRecDepth 100000 in
set_option maxHeartbeats 8000000 in
theorem live_does {s : Sta} {sv : Value} {n : Int} {G0 : GW} (hW : G0.Wf) (hs : StaG G0 sv s) (hok : okSt s = true) :
    Calls Tryz.prog 65 #[sv, .int .i64 n] G0.w (Ret G0 fun v _ => v = .int .i64 (liveL n s.vers)) := by
  obtain ⟨A1, c1, A2, c2, A3, c3, A4, c4, A5, c5, rfl, hP⟩ := hs.form
  have hml := max_le
  have b2 := (okSt_iff.1 hok).vers_len
  have hgd := okSt_good.1 hok
  refine enterS (G := G0) (n := 36) 3000 hW Tryz.func65 rfl Tryz.ntmps65 (by simp) ?_
  simp only [go_sem, reduceAdd, reduceSub, reduceMul, reduceEqDiff, reduceLT, reduceLeDiff, Nat.reduceBEq, Nat.reduceBNe, Int.reduceLT, Int.reduceLE, Int.reduceEq, Int.reduceAdd, Int.reduceSub, Int.reduceNeg, reduceCtorEq]
  intro g1
  refine loop_ok (N := 3000) (ι := Nat × Int) (fun i => match i with | (i, a) => ⟨[(1, .c (.v (.int .i64 n))), (5, .c (.v (.int .i64 a))), (9, .c (.v (.slice A2 s.vers.length c2))), (10, .c (.v (.int .i64 (s.vers.length : Int)))), (11, .c (.v (.int .i64 (i : Int))))],
      [], [], [], [G0], 1⟩)
    (fun i => match i with | (i, a) => i ≤ s.vers.length ∧ a + liveL n (s.vers.drop i) = liveL n s.vers ∧ 0 ≤ a ∧ a ≤ 606 * (i : Int))
    (fun i => s.vers.length - i.1) (QOk_body _ _ _) (0, 0) ⟨by omega, by simp, by omega, by omega⟩ (by simp only [go_sem, reduceAdd, reduceSub, reduceMul, reduceEqDiff, reduceLT, reduceLeDiff, Nat.reduceBEq, Nat.reduceBNe, Int.reduceLT, Int.reduceLE, Int.reduceEq, Int.reduceAdd, Int.reduceSub, Int.reduceNeg, reduceCtorEq]; simp) ?_
  rintro ⟨i, a⟩ ⟨hi, hT, ha1, ha2⟩
  simp only
  by_cases hlt : i < s.vers.length
  · have q : decide ((i : Int) < (s.vers.length : Int)) = true := decide_eq_true (by omega)
    obtain ⟨x, hx⟩ : ∃ x, s.vers[i]? = some x := ⟨_, List.getElem?_eq_getElem hlt⟩
    obtain ⟨z1, z2⟩ := hgd.size (List.mem_of_getElem? hx)
    rw [drop_at hx] at hT
    have hT' : a + (liveA x n + liveL n (s.vers.drop (i + 1))) = liveL n s.vers := hT
    simp only [go_sem, reduceAdd, reduceSub, reduceMul, reduceEqDiff, reduceLT, reduceLeDiff, Nat.reduceBEq, Nat.reduceBNe, Int.reduceLT, Int.reduceLE, Int.reduceEq, Int.reduceAdd, Int.reduceSub, Int.reduceNeg, reduceCtorEq, q]
    refine plain_ok (N := 3000) (elem_does (R := VerG) (l := s.vers) (m := i) rfl tySlice25 tySize38 rfl rfl (dk rfl) rfl hx (fun G hG => Sq.mono hP.vers verG_mono (hG.le G0 (by simp)))) (QOk_body _ _ _) (by first | exact .inl rfl | exact .inr ⟨_, _, rfl, rfl⟩) ?_
    rintro _ ⟨g4, o', cs, G2, hcl, ⟨svx, rfl, hsv, hk1, hk2⟩, rfl⟩
    obtain ⟨Aw, cw, rfl, _⟩ := Sq.form hsv
    simp only [go_sem, reduceAdd, reduceSub, reduceMul, reduceEqDiff, reduceLT, reduceLeDiff, Nat.reduceBEq, Nat.reduceBNe, Int.reduceLT, Int.reduceLE, Int.reduceEq, Int.reduceAdd, Int.reduceSub, Int.reduceNeg, reduceCtorEq, verV]
    intro g5
    refine Wb_mk (fun hc => ?_) (fun hc => ?_)
    · have e : liveA x n = 6 + x.size := if_pos hc
      refine ⟨by omega, ?_⟩
      refine ⟨by omega, ?_⟩
      refine ⟨by omega, ?_⟩
      refine again_ok (i + 1, a + (6 + x.size)) ⟨hlt, by rw [e] at hT'; show a + (6 + x.size) + liveL n (s.vers.drop (i + 1)) = _; omega, by show 0 ≤ a + (6 + x.size); omega, by show a + (6 + x.size) ≤ 606 * ((i + 1 : Nat) : Int); omega⟩ (by show s.vers.length - (i + 1) < s.vers.length - i; omega) (by simp only [go_sem, reduceAdd, reduceSub, reduceMul, reduceEqDiff, reduceLT, reduceLeDiff, Nat.reduceBEq, Nat.reduceBNe, Int.reduceLT, Int.reduceLE, Int.reduceEq, Int.reduceAdd, Int.reduceSub, Int.reduceNeg, reduceCtorEq]; simp)
    · have e : liveA x n = 0 := by unfold liveA; rw [show liveB x n = false from hc]; rfl
      refine ⟨by omega, ?_⟩
      refine again_ok (i + 1, a) ⟨hlt, by rw [e] at hT'; show a + liveL n (s.vers.drop (i + 1)) = _; omega, ha1, by show a ≤ 606 * ((i + 1 : Nat) : Int); omega⟩ (by show s.vers.length - (i + 1) < s.vers.length - i; omega) (by simp only [go_sem, reduceAdd, reduceSub, reduceMul, reduceEqDiff, reduceLT, reduceLeDiff, Nat.reduceBEq, Nat.reduceBNe, Int.reduceLT, Int.reduceLE, Int.reduceEq, Int.reduceAdd, Int.reduceSub, Int.reduceNeg, reduceCtorEq]; simp)
  have hil : i = s.vers.length := by omega
  subst hil
  have q : decide ((s.vers.length : Int) < (s.vers.length : Int)) = false := decide_eq_false (by omega)
  rw [List.drop_length] at hT
  have hT' : a + 0 = liveL n s.vers := hT
  simp only [go_sem, reduceAdd, reduceSub, reduceMul, reduceEqDiff, reduceLT, reduceLeDiff, Nat.reduceBEq, Nat.reduceBNe, Int.reduceLT, Int.reduceLE, Int.reduceEq, Int.reduceAdd, Int.reduceSub, Int.reduceNeg, reduceCtorEq, q]
  refine fin_ret (G := G0) Tryz.results65 ?_
  simp only [go_sem, reduceAdd, reduceSub, reduceMul, reduceEqDiff, reduceLT, reduceLeDiff, Nat.reduceBEq, Nat.reduceBNe, Int.reduceLT, Int.reduceLE, Int.reduceEq, Int.reduceAdd, Int.reduceSub, Int.reduceNeg, reduceCtorEq]
  intro aa w' _ _
  rw [← hT', Int.add_zero]
  rfl
set_option maxRecDepth 100000 in
set_option maxHeartbeats 8000000 in
theorem lives_does {s : Sta} {sv : Value} {G0 : GW} (hW : G0.Wf) (hs : StaG G0 sv s) (hok : okSt s = true) :
    Calls Tryz.prog 23 #[sv] G0.w (Ret G0 fun v G => ∃ fv, v = .tuple #[fv, .int .i64 0] ∧ IntsG G fv (livesS s 8)) := by
  obtain ⟨A1, c1, A2, c2, A3, c3, A4, c4, A5, c5, rfl, hP⟩ := hs.form
  have hml := max_le
  refine enterS (G := G0) (n := 23) 3000 hW Tryz.func23 rfl Tryz.ntmps23 (by simp) ?_
  simp only [go_sem, reduceAdd, reduceSub, reduceMul, reduceEqDiff, reduceLT, reduceLeDiff, Nat.reduceBEq, Nat.reduceBNe, Int.reduceLT, Int.reduceLE, Int.reduceEq, Int.reduceAdd, Int.reduceSub, Int.reduceNeg, reduceCtorEq]
  intro g1
  refine plain_ok (N := 3000) (call_does (fun v _ => v = .int .i64 0) rfl rfl (by kernel_rfl) rfl (dk rfl) (fun G hG => by rw [← errSt_ok hok]; exact check_does hG.wf (hP.mono (hG.le G0 (by simp))).g)) (QOk_body _ _ _) (by first | exact .inl rfl | exact .inr ⟨_, _, rfl, rfl⟩) ?_
  rintro _ ⟨_, G1, rfl, hn1, rfl⟩
  clear hn1
  simp only [go_sem, reduceAdd, reduceSub, reduceMul, reduceEqDiff, reduceLT, reduceLeDiff, Nat.reduceBEq, Nat.reduceBNe, Int.reduceLT, Int.reduceLE, Int.reduceEq, Int.reduceAdd, Int.reduceSub, Int.reduceNeg, reduceCtorEq]
  refine row_ok 3 1 ?_
  refine loop_ok (N := 3000) (ι := Nat × Option Addr × Nat) (fun i => match i with | (i, A, c) => ⟨[(1, .c (.p 0 g1 0)), (5, .c (.v (.slice A (livesS s i).length c))), (12, .c (.v (.int .i64 (i : Int))))],
      [⟨0, g1, 30, [.v (.int .i64 s.next), .v (.int .i64 s.clock), .v (.slice A1 s.bkts.length c1), .v (.slice A2 s.vers.length c2), .v (.slice A3 s.upls.length c3), .v (.slice A4 s.queue.length c4), .v (.slice A5 s.gone.length c5)]⟩], [intRow (.slice A (livesS s i).length c) (livesS s i)], [], [G0], 1⟩)
    (fun i => match i with | (i, A, c) => i ≤ 8)
    (fun i => 8 - i.1) (QOk_body _ _ _) (0, none, 0) (by show 0 ≤ 8; omega) (by simp only [go_sem, reduceAdd, reduceSub, reduceMul, reduceEqDiff, reduceLT, reduceLeDiff, Nat.reduceBEq, Nat.reduceBNe, Int.reduceLT, Int.reduceLE, Int.reduceEq, Int.reduceAdd, Int.reduceSub, Int.reduceNeg, reduceCtorEq]; simp [intRow, livesS]) ?_
  rintro ⟨i, A, c⟩ hi
  simp only at hi ⊢
  have hfl := livesS_len s i
  by_cases hlt : i < 8
  · have q : decide ((i : Int) < 8) = true := decide_eq_true (by omega)
    have hfs := livesS_succ s i
    have hfn : (livesS s (i + 1)).length = (livesS s i).length + 1 := by rw [hfs, List.length_append]; rfl
    simp only [go_sem, reduceAdd, reduceSub, reduceMul, reduceEqDiff, reduceLT, reduceLeDiff, Nat.reduceBEq, Nat.reduceBNe, Int.reduceLT, Int.reduceLE, Int.reduceEq, Int.reduceAdd, Int.reduceSub, Int.reduceNeg, reduceCtorEq, q]
    refine plain_ok (N := 3000) (call_does (fun v _ => v = .int .i64 (liveL (i : Int) s.vers)) rfl rfl (by kernel_rfl) rfl (dk rfl) (fun G hG => live_does hG.wf (hP.mono (hG.le G0 (by simp))).g hok)) (QOk_body _ _ _) (by first | exact .inl rfl | exact .inr ⟨_, _, rfl, rfl⟩) ?_
    rintro _ ⟨_, G2, rfl, hn2, rfl⟩
    clear hn2
    simp only [go_sem, reduceAdd, reduceSub, reduceMul, reduceEqDiff, reduceLT, reduceLeDiff, Nat.reduceBEq, Nat.reduceBNe, Int.reduceLT, Int.reduceLE, Int.reduceEq, Int.reduceAdd, Int.reduceSub, Int.reduceNeg, reduceCtorEq]
    intro g4
    refine plain_ok (N := 3000) (append_does (R1 := []) (R2 := []) (n := (livesS s i).length) (v := .slice A (livesS s i).length c) (xs := (livesS s i).flatMap intC) (news := [.int .i64 (liveL (i : Int) s.vers)]) rfl tySlice28 tyApp3 rfl rfl rfl rfl (dk rfl) (fun u hu => by rw [List.mem_singleton.1 hu]; rfl) (by unfold maxLen; omega) (by omega) (fun G hG => tsl_blk hG (b := ⟨1, g4, 3, [.v (.int .i64 (liveL (i : Int) s.vers))]⟩) (by simp) rfl (by unfold maxLen; omega))) (QOk_body _ _ _) (by first | exact .inl rfl | exact .inr ⟨_, _, rfl, rfl⟩) ?_
    rintro _ ⟨A', c', rfl⟩
    simp only [go_sem, reduceAdd, reduceSub, reduceMul, reduceEqDiff, reduceLT, reduceLeDiff, Nat.reduceBEq, Nat.reduceBNe, Int.reduceLT, Int.reduceLE, Int.reduceEq, Int.reduceAdd, Int.reduceSub, Int.reduceNeg, reduceCtorEq]
    refine ⟨by omega, ?_⟩
    refine again_ok (i + 1, A', c') (by show i + 1 ≤ 8; omega) (by show 8 - (i + 1) < 8 - i; omega) (by rw [hfn, hfs]; simp only [go_sem, reduceAdd, reduceSub, reduceMul, reduceEqDiff, reduceLT, reduceLeDiff, Nat.reduceBEq, Nat.reduceBNe, Int.reduceLT, Int.reduceLE, Int.reduceEq, Int.reduceAdd, Int.reduceSub, Int.reduceNeg, reduceCtorEq]; simp [intRow, intC])
  · have him : i = 8 := by omega
    subst him
    have q : decide (((8 : Nat) : Int) < 8) = false := rfl
    simp only [go_sem, reduceAdd, reduceSub, reduceMul, reduceEqDiff, reduceLT, reduceLeDiff, Nat.reduceBEq, Nat.reduceBNe, Int.reduceLT, Int.reduceLE, Int.reduceEq, Int.reduceAdd, Int.reduceSub, Int.reduceNeg, reduceCtorEq, q]
    refine read_ok (R1 := []) rfl (fun G8 hle8 hsl8 => ?_) (fun _ _ q => q) (by show (1 : Nat) ≠ 0; decide)
    have hO : IntsG G8 (.slice A (livesS s 8).length c) (livesS s 8) := ints_of hsl8
    refine fin_ret (G := G0) Tryz.results23 ?_
    simp only [go_sem, reduceAdd, reduceSub, reduceMul, reduceEqDiff, reduceLT, reduceLeDiff, Nat.reduceBEq, Nat.reduceBNe, Int.reduceLT, Int.reduceLE, Int.reduceEq, Int.reduceAdd, Int.reduceSub, Int.reduceNeg, reduceCtorEq]
    intro aa w' _ hle
    exact ⟨_, rfl, hO.mono (hle G8 (by simp))⟩
end Go.Proofs.YtefmffpidhdjoaaGreat
