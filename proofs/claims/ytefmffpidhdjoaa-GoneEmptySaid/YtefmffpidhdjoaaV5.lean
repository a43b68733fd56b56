/- 'icehousekeep.GoneEmpty' returns true for all raw things and numbers. Conditions: none. -/
import Derived.Test.YtefmffpidhdjoaaV1
namespace Go.Proofs.Ytefmffpidhdjoaa
open Go.RowKit
open Nat (reduceAdd reduceSub reduceMul reduceEqDiff reduceLT reduceLeDiff)
set_option linter.unusedSimpArgs false
def give14 (v : Int) : Rec := { rec0 14 with vol := v }
theorem give14_ok (v : Int) : RecOk (give14 v) := ⟨Nat.zero_le _, Nat.zero_le _, Nat.zero_le _, Nat.zero_le _, Nat.zero_le _, Nat.zero_le _, Nat.zero_le _, Nat.zero_le _, i64_0⟩
theorem give_change (s : Sta) (v : Int) : changeS s (give14 v) = giveS s v := rfl
theorem goneB_mk {l : List Int} (h1 : ∀ x ∈ l, 0 ≤ x ∧ x < 8) (h2 : l.Pairwise fun a b => a < b) : goneB l = true := by
  refine chain_ok fun k x hx => ?_
  have hb := h1 x (List.mem_of_getElem? hx)
  unfold goneBad goneGe
  simp only [Bool.or_eq_false_iff, decide_eq_false_iff_not]
  refine ⟨⟨by omega, by omega⟩, ?_⟩
  split
  · rfl
  · rename_i q hq
    refine decide_eq_false fun e => ?_
    cases k with
    | zero => cases hq
    | succ k =>
      rw [if_neg (by omega), Nat.add_sub_cancel] at hq
      have := pair_get h2 hq hx (by omega)
      omega
theorem ahead_all {α : Type} {lt : α → Bool} : ∀ {l : List α} {x : α}, x ∈ l.take (ahead lt l) → lt x = true
  | [], x, h => by simp at h
  | a :: r, x, h => by
    unfold ahead at h
    rw [List.takeWhile_cons] at h
    split at h
    · rename_i q
      rw [List.length_cons, List.take_succ_cons] at h
      rcases List.mem_cons.1 h with rfl | h
      · exact q
      · exact ahead_all h
    · simp at h
theorem ahead_not {α : Type} {lt : α → Bool} : ∀ {l : List α} {x : α}, l[ahead lt l]? = some x → lt x = false
  | [], x, h => by simp at h
  | a :: r, x, h => by
    unfold ahead at h
    rw [List.takeWhile_cons] at h
    split at h
    · rw [List.length_cons, List.getElem?_cons_succ] at h
      exact ahead_not h
    · rename_i q
      simp at h
      subst h
      exact bool_no q
theorem ahead_low {l : List Int} {v x : Int} (h : x ∈ l.take (ahead (ltInt v) l)) : x < v := of_decide_eq_true (ahead_all (lt := ltInt v) h)
def liv (v : Int) (x : Ver) : Bool := decide (2 ≤ x.tier) && decide (x.vol = v)
theorem give_gone {s : Sta} (h : okSt s = true) {v : Int} (hv : v ∈ s.gone) : applyS s (give14 v) = (zeroS, 7) := by
  have hc : changeS s (give14 v) = (7, s) := by
    rw [give_change]
    unfold giveS
    rw [if_pos ((goneIn_iff (okSt_good.1 h).gone).2 hv)]
  rw [applyS_of h, hc]
  rfl
theorem give_law {s : Sta} (h : okSt s = true) {v : Int} (h0 : 0 ≤ v) (h8 : v < 8) (hv : v ∉ s.gone) :
    (s.vers.any (liv v) = true → applyS s (give14 v) = (zeroS, 4)) ∧ (s.vers.any (liv v) = false → ∃ t, applyS s (give14 v) = (t, 0) ∧ t.gone.length = s.gone.length + 1) := by
  have hg := okSt_good.1 h
  have hle := ahead_le (ltInt v) s.gone
  have hsp := insert_split v s.gone _ hle
  have hc : changeS s (give14 v) = (0, { s with gone := s.gone.insertIdx (goneAt s v) v }) := by
    rw [give_change]
    unfold giveS
    rw [if_neg fun q => hv ((goneIn_iff hg.gone).1 q)]
  have hmem : ∀ x, x ∈ s.gone.insertIdx (goneAt s v) v ↔ x = v ∨ x ∈ s.gone := fun x => by
    show x ∈ s.gone.insertIdx (ahead (ltInt v) s.gone) v ↔ _
    rw [hsp]
    constructor
    · intro q
      rcases List.mem_append.1 q with q | q
      · exact .inr (List.mem_of_mem_take q)
      · rcases List.mem_cons.1 q with q | q
        · exact .inl q
        · exact .inr (List.mem_of_mem_drop q)
    · rintro (rfl | q)
      · exact List.mem_append_right _ List.mem_cons_self
      · rw [← List.take_append_drop (ahead (ltInt v) s.gone) s.gone] at q
        rcases List.mem_append.1 q with q | q
        · exact List.mem_append_left _ q
        · exact List.mem_append_right _ (List.mem_cons_of_mem _ q)
  rw [applyS_of h, hc]
  unfold applyC
  rw [if_pos rfl]
  constructor
  · intro hl
    obtain ⟨x, hx, hl⟩ := List.any_eq_true.1 hl
    unfold liv at hl
    simp only [Bool.and_eq_true, decide_eq_true_eq] at hl
    rw [if_neg]
    intro hok2
    have hg2 := okSt_good.1 hok2
    have ht : ∀ s' : Sta, Snd0 s' x → v ∉ s'.gone := fun s' hs => by
      have key : taped s' x = true → v ∉ s'.gone := fun q => by
        unfold taped at q
        simp only [Bool.and_eq_true, Bool.not_eq_true', decide_eq_false_iff_not] at q
        rw [← hl.2]
        exact q.2
      rcases hs.2 with ⟨_, m⟩ | ⟨_, _, _, m⟩
      · unfold markB at m
        simp only [Bool.and_eq_true, decide_eq_true_eq] at m
        omega
      · rcases m with ⟨e, _⟩ | ⟨_, e, _⟩ | ⟨_, e, _⟩
        · omega
        · exact key e
        · exact key e
    exact ht _ (hg2.snd x hx) ((hmem v).2 (.inl rfl))
  · intro hl
    have hgd : Good { s with gone := s.gone.insertIdx (goneAt s v) v } := by
      refine ⟨hg.n1, hg.n2, hg.c1, hg.c2, goneB_mk (fun x hx => ?_) ?_, hg.bkts, fun x hx => ?_, hg.ids, hg.nul, hg.vlen, hg.out, hg.prt, hg.uids, hg.ulen, hg.fr, ⟨hg.queue.out, hg.queue.one, hg.queue.len⟩⟩
      · rcases (hmem x).1 hx with rfl | hx
        · exact ⟨h0, h8⟩
        · exact gone_bd hg.gone hx
      · show (s.gone.insertIdx (ahead (ltInt v) s.gone) v).Pairwise _
        rw [hsp]
        have hp := gone_pair hg.gone
        have hp2 := hp
        rw [← List.take_append_drop (ahead (ltInt v) s.gone) s.gone, List.pairwise_append] at hp2
        obtain ⟨p1, p2, p3⟩ := hp2
        rw [List.pairwise_append]
        have hup : ∀ y ∈ s.gone.drop (ahead (ltInt v) s.gone), v < y := fun y hy => by
          obtain ⟨j, hj⟩ := List.mem_iff_getElem?.1 hy
          rw [List.getElem?_drop] at hj
          have hne : y ≠ v := fun e => hv (e ▸ List.mem_of_getElem? hj)
          cases j with
          | zero =>
            have : ltInt v y = false := by
              cases q : ltInt v y with
              | false => rfl
              | true =>
                have h9 := ahead_not (lt := ltInt v) (x := y) hj
                rw [q] at h9; cases h9
            have := of_decide_eq_false this
            omega
          | succ j =>
            obtain ⟨z, hz⟩ : ∃ z, s.gone[ahead (ltInt v) s.gone]? = some z := ⟨_, List.getElem?_eq_getElem (by have := (List.getElem?_eq_some_iff.1 hj).1; omega)⟩
            have h9 := of_decide_eq_false (ahead_not (lt := ltInt v) hz)
            have := pair_get hp hz hj (by omega)
            omega
        refine ⟨p1, List.pairwise_cons.2 ⟨hup, p2⟩, fun a ha b hb => ?_⟩
        have := ahead_low ha
        rcases List.mem_cons.1 hb with rfl | hb
        · exact this
        · exact p3 a ha b hb
      · have hs := hg.snd x hx
        refine ⟨hs.1, ?_⟩
        have hno : ¬ (2 ≤ x.tier ∧ x.vol = v) := fun q => by
          have := List.any_eq_false.1 hl x hx
          unfold liv at this
          simp only [Bool.and_eq_true, decide_eq_true_eq] at this
          exact this q
        have htp : 2 ≤ x.tier → taped s x = true → taped { s with gone := s.gone.insertIdx (goneAt s v) v } x = true := fun q r => by
          unfold taped at r ⊢
          simp only [Bool.and_eq_true, Bool.not_eq_true', decide_eq_false_iff_not] at r ⊢
          refine ⟨r.1, fun m => ?_⟩
          rcases (hmem _).1 m with e | e
          · exact hno ⟨q, e⟩
          · exact r.2 e
        rcases hs.2 with m | ⟨a, b, c, m⟩
        · exact .inl m
        · refine .inr ⟨a, b, c, ?_⟩
          rcases m with m | ⟨e, m, r⟩ | ⟨e, m, r⟩
          · exact .inl m
          · exact .inr (.inl ⟨e, htp (by omega) m, r⟩)
          · exact .inr (.inr ⟨e, htp (by omega) m, r⟩)
    have hok2 := okSt_good.2 hgd
    refine ⟨_, by rw [if_pos hok2], ?_⟩
    exact List.length_insertIdx_of_le_length hle v
set_option maxRecDepth 100000 in
set_option maxHeartbeats 8000000 in
theorem goneEmpty_ret {w : World} (v0 : Value) (l0 : List Raw) (h0 : RawsG ⟨Non, w⟩ v0 l0) (n : Int) (hn : i64 n) :
    Calls Try.prog 9 #[v0, .int .i64 n] w (Ret ⟨Non, w⟩ fun v _ => v = .bool true) := by
  have hml := max_le
  have hok := stateS_ok l0 40
  obtain ⟨A0, c0, rfl, _, _⟩ := ScR.form h0
  refine enterS (G := ⟨Non, w⟩) (n := 88) 3000 (wf_nonL w) Try.func9 rfl Try.ntmps9 (by simp) ?_
  simp only [go_sem, reduceAdd, reduceSub, reduceMul, reduceEqDiff, reduceLT, reduceLeDiff, Nat.reduceBEq, Nat.reduceBNe, Int.reduceLT, Int.reduceLE, Int.reduceEq, Int.reduceAdd, Int.reduceSub, Int.reduceNeg, reduceCtorEq]
  refine plain_ok (N := 3000) (call_does (fun v G => ∃ sv ov, v = .tuple #[sv, ov] ∧ StaG G sv (stateS l0 40).1 ∧ RecsG G ov (stateS l0 40).2) rfl rfl (by kernel_rfl) rfl (dk rfl) (fun G hG => state_does (most := 40) hG.wf (ScR.mono h0 rawG_mono (hG.le ⟨Non, w⟩ (by simp))) (by omega))) (QOk_body _ _ _) (by first | exact .inl rfl | exact .inr ⟨_, _, rfl, rfl⟩) ?_
  rintro _ ⟨_, G1, ⟨sv, ov, rfl, hs, ho⟩, hn1, rfl⟩
  clear hn1
  obtain ⟨A1, c1, A2, c2, A3, c3, A4, c4, A5, c5, rfl, hP⟩ := hs.form
  obtain ⟨Ao, co, rfl, _⟩ := Sq.form ho
  obtain ⟨s, hsd⟩ : ∃ s, s = (stateS l0 40).1 := ⟨_, rfl⟩
  obtain ⟨rs, hrd⟩ : ∃ rs, rs = (stateS l0 40).2 := ⟨_, rfl⟩
  rw [← hsd] at hok hP hs ⊢
  rw [← hrd] at ho ⊢
  clear hsd hrd
  have b2 := (okSt_iff.1 hok).vers_len
  have b5 := (okSt_iff.1 hok).gone_len
  simp only [go_sem, reduceAdd, reduceSub, reduceMul, reduceEqDiff, reduceLT, reduceLeDiff, Nat.reduceBEq, Nat.reduceBNe, Int.reduceLT, Int.reduceLE, Int.reduceEq, Int.reduceAdd, Int.reduceSub, Int.reduceNeg, reduceCtorEq]
  intro g1
  obtain ⟨k, hk⟩ : ∃ k, k = pick n 8 := ⟨_, rfl⟩
  have hkb := pick_bd n 8 (by omega)
  rw [← hk] at hkb
  refine plain_ok (N := 3000) (call_does (fun v _ => v = .int .i64 k) rfl rfl (by kernel_rfl) rfl (dk rfl) (fun G hG => by rw [hk]; exact picked_does hG.wf hn (by omega) (by omega))) (QOk_body _ _ _) (by first | exact .inl rfl | exact .inr ⟨_, _, rfl, rfl⟩) ?_
  rintro _ ⟨_, G2, rfl, hn2, rfl⟩
  clear hn2
  simp only [go_sem, reduceAdd, reduceSub, reduceMul, reduceEqDiff, reduceLT, reduceLeDiff, Nat.reduceBEq, Nat.reduceBNe, Int.reduceLT, Int.reduceLE, Int.reduceEq, Int.reduceAdd, Int.reduceSub, Int.reduceNeg, reduceCtorEq]
  refine plain_ok (N := 3000) (call_does (fun y G => ∃ sv', y = .tuple #[sv', .int .i64 (applyS s (give14 k)).2] ∧ StaG G sv' (applyS s (give14 k)).1) rfl rfl (by kernel_rfl) rfl (dk rfl) (fun G hG => apply_does hG.wf (hP.mono (hG.le G1 (by simp))).g ⟨_, _, _, rfl, Sq.nil, Sq.nil, Sq.nil, give14_ok k⟩)) (QOk_body _ _ _) (by first | exact .inl rfl | exact .inr ⟨_, _, rfl, rfl⟩) ?_
  rintro _ ⟨_, G3, ⟨sv3, rfl, hs3⟩, hn3, rfl⟩
  clear hn3
  
  have f1 : k ∈ s.gone → applyS s (give14 k) = (zeroS, 7) := give_gone hok
  have f2 := fun q => give_law hok hkb.1 hkb.2 (v := k) q
  obtain ⟨a, ha⟩ : ∃ a, a = applyS s (give14 k) := ⟨_, rfl⟩
  rw [← ha] at hs3 f1 f2 ⊢
  obtain ⟨B1, d1, B2, d2, B3, d3, B4, d4, B5, d5, rfl, hP3⟩ := hs3.form
  simp only [go_sem, reduceAdd, reduceSub, reduceMul, reduceEqDiff, reduceLT, reduceLeDiff, Nat.reduceBEq, Nat.reduceBNe, Int.reduceLT, Int.reduceLE, Int.reduceEq, Int.reduceAdd, Int.reduceSub, Int.reduceNeg, reduceCtorEq]
  intro g2
  refine loop_ok (N := 3000) (ι := Nat) (fun j => ⟨[(5, .c (.p 0 g1 0)), (7, .c (.v (.int .i64 k))), (8, .c (.p 1 g2 0)), (9, .c (.v (.int .i64 a.2))), (10, .c (.v (.bool ((s.vers.take j).any (liv k))))), (11, .c (.v (.bool false))), (31, .c (.v (.slice A2 s.vers.length c2))), (32, .c (.v (.int .i64 (s.vers.length : Int)))), (33, .c (.v (.int .i64 (j : Int))))],
      [⟨1, g2, 29, [.v (.int .i64 a.1.next), .v (.int .i64 a.1.clock), .v (.slice B1 a.1.bkts.length d1), .v (.slice B2 a.1.vers.length d2), .v (.slice B3 a.1.upls.length d3), .v (.slice B4 a.1.queue.length d4), .v (.slice B5 a.1.gone.length d5)]⟩, ⟨0, g1, 29, [.v (.int .i64 s.next), .v (.int .i64 s.clock), .v (.slice A1 s.bkts.length c1), .v (.slice A2 s.vers.length c2), .v (.slice A3 s.upls.length c3), .v (.slice A4 s.queue.length c4), .v (.slice A5 s.gone.length c5)]⟩], [], [], [G3, G1, ⟨Non, w⟩], 2⟩)
    (fun j => j ≤ s.vers.length) (fun j => s.vers.length - j) (QOk_body _ _ _) 0 (by omega) (by simp only [go_sem, reduceAdd, reduceSub, reduceMul, reduceEqDiff, reduceLT, reduceLeDiff, Nat.reduceBEq, Nat.reduceBNe, Int.reduceLT, Int.reduceLE, Int.reduceEq, Int.reduceAdd, Int.reduceSub, Int.reduceNeg, reduceCtorEq]; simp) ?_
  intro j hj
  by_cases hlt : j < s.vers.length
  · have q1 : decide ((j : Int) < (s.vers.length : Int)) = true := decide_eq_true (by omega)
    obtain ⟨x, hx⟩ : ∃ x, s.vers[j]? = some x := ⟨_, List.getElem?_eq_getElem hlt⟩
    have hany : (s.vers.take (j + 1)).any (liv k) = ((s.vers.take j).any (liv k) || (decide (2 ≤ x.tier) && decide (x.vol = k))) := by
      rw [List.take_add_one, hx, List.any_append]
      simp [liv]
    simp only [go_sem, reduceAdd, reduceSub, reduceMul, reduceEqDiff, reduceLT, reduceLeDiff, Nat.reduceBEq, Nat.reduceBNe, Int.reduceLT, Int.reduceLE, Int.reduceEq, Int.reduceAdd, Int.reduceSub, Int.reduceNeg, reduceCtorEq, q1]
    refine plain_ok (N := 3000) (elem_does (R := VerG) (l := s.vers) (m := j) rfl tySlice24 tySize44 rfl rfl (dk rfl) rfl hx (fun G hG => Sq.mono hP.vers verG_mono (hG.le G1 (by simp)))) (QOk_body _ _ _) (by first | exact .inl rfl | exact .inr ⟨_, _, rfl, rfl⟩) ?_
    rintro _ ⟨g4, o', cs, G5, hcl, ⟨svx, rfl, hsv, hk1, hk2⟩, rfl⟩
    obtain ⟨Aw, cw, rfl, _⟩ := Sq.form hsv
    simp only [go_sem, reduceAdd, reduceSub, reduceMul, reduceEqDiff, reduceLT, reduceLeDiff, Nat.reduceBEq, Nat.reduceBNe, Int.reduceLT, Int.reduceLE, Int.reduceEq, Int.reduceAdd, Int.reduceSub, Int.reduceNeg, reduceCtorEq, verV]
    intro g5
    refine ⟨by omega, ?_⟩
    refine again_ok (j + 1) hlt (by omega) (by rw [hany]; simp only [go_sem, reduceAdd, reduceSub, reduceMul, reduceEqDiff, reduceLT, reduceLeDiff, Nat.reduceBEq, Nat.reduceBNe, Int.reduceLT, Int.reduceLE, Int.reduceEq, Int.reduceAdd, Int.reduceSub, Int.reduceNeg, reduceCtorEq]; simp)
  have hjl : j = s.vers.length := by omega
  subst hjl
  have q1 : decide ((s.vers.length : Int) < (s.vers.length : Int)) = false := decide_eq_false (by omega)
  rw [List.take_length]
  simp only [go_sem, reduceAdd, reduceSub, reduceMul, reduceEqDiff, reduceLT, reduceLeDiff, Nat.reduceBEq, Nat.reduceBNe, Int.reduceLT, Int.reduceLE, Int.reduceEq, Int.reduceAdd, Int.reduceSub, Int.reduceNeg, reduceCtorEq, q1]
  refine loop_ok (N := 3000) (ι := Nat) (fun j => ⟨[(5, .c (.p 0 g1 0)), (7, .c (.v (.int .i64 k))), (8, .c (.p 1 g2 0)), (9, .c (.v (.int .i64 a.2))), (10, .c (.v (.bool (s.vers.any (liv k))))), (11, .c (.v (.bool ((s.gone.take j).any fun x => decide (x = k))))), (51, .c (.v (.slice A5 s.gone.length c5))), (52, .c (.v (.int .i64 (s.gone.length : Int)))), (53, .c (.v (.int .i64 (j : Int))))],
      [⟨1, g2, 29, [.v (.int .i64 a.1.next), .v (.int .i64 a.1.clock), .v (.slice B1 a.1.bkts.length d1), .v (.slice B2 a.1.vers.length d2), .v (.slice B3 a.1.upls.length d3), .v (.slice B4 a.1.queue.length d4), .v (.slice B5 a.1.gone.length d5)]⟩, ⟨0, g1, 29, [.v (.int .i64 s.next), .v (.int .i64 s.clock), .v (.slice A1 s.bkts.length c1), .v (.slice A2 s.vers.length c2), .v (.slice A3 s.upls.length c3), .v (.slice A4 s.queue.length c4), .v (.slice A5 s.gone.length c5)]⟩], [], [], [G3, G1, ⟨Non, w⟩], 2⟩)
    (fun j => j ≤ s.gone.length) (fun j => s.gone.length - j) (QOk_body _ _ _) 0 (by omega) (by simp only [go_sem, reduceAdd, reduceSub, reduceMul, reduceEqDiff, reduceLT, reduceLeDiff, Nat.reduceBEq, Nat.reduceBNe, Int.reduceLT, Int.reduceLE, Int.reduceEq, Int.reduceAdd, Int.reduceSub, Int.reduceNeg, reduceCtorEq]; simp) ?_
  intro j hj
  by_cases hlt : j < s.gone.length
  · have q1 : decide ((j : Int) < (s.gone.length : Int)) = true := decide_eq_true (by omega)
    obtain ⟨x, hx⟩ : ∃ x, s.gone[j]? = some x := ⟨_, List.getElem?_eq_getElem hlt⟩
    have hany : ((s.gone.take (j + 1)).any fun x => decide (x = k)) = (((s.gone.take j).any fun x => decide (x = k)) || decide (x = k)) := by
      rw [List.take_add_one, hx, List.any_append]
      simp
    simp only [go_sem, reduceAdd, reduceSub, reduceMul, reduceEqDiff, reduceLT, reduceLeDiff, Nat.reduceBEq, Nat.reduceBNe, Int.reduceLT, Int.reduceLE, Int.reduceEq, Int.reduceAdd, Int.reduceSub, Int.reduceNeg, reduceCtorEq, q1]
    refine plain_ok (N := 3000) (elem_does (R := IntG) (l := s.gone) (m := j) rfl tySlice27 tySize3 rfl rfl (dk rfl) rfl hx (fun G hG => IntsG.mono hP.gone (hG.le G1 (by simp)))) (QOk_body _ _ _) (by first | exact .inl rfl | exact .inr ⟨_, _, rfl, rfl⟩) ?_
    rintro _ ⟨g4, o', cs, G5, hcl, hcs, rfl⟩
    obtain rfl := hcs
    simp only [go_sem, reduceAdd, reduceSub, reduceMul, reduceEqDiff, reduceLT, reduceLeDiff, Nat.reduceBEq, Nat.reduceBNe, Int.reduceLT, Int.reduceLE, Int.reduceEq, Int.reduceAdd, Int.reduceSub, Int.reduceNeg, reduceCtorEq]
    refine ⟨by omega, ?_⟩
    refine again_ok (j + 1) hlt (by omega) (by rw [hany]; simp only [go_sem, reduceAdd, reduceSub, reduceMul, reduceEqDiff, reduceLT, reduceLeDiff, Nat.reduceBEq, Nat.reduceBNe, Int.reduceLT, Int.reduceLE, Int.reduceEq, Int.reduceAdd, Int.reduceSub, Int.reduceNeg, reduceCtorEq]; simp)
  have hjl : j = s.gone.length := by omega
  subst hjl
  have q1 : decide ((s.gone.length : Int) < (s.gone.length : Int)) = false := decide_eq_false (by omega)
  rw [List.take_length]
  have hgn : (s.gone.any fun x => decide (x = k)) = decide (k ∈ s.gone) := by
    cases q : s.gone.any fun x => decide (x = k) with
    | true =>
      obtain ⟨x, hx, e⟩ := List.any_eq_true.1 q
      rw [← of_decide_eq_true e]
      exact (decide_eq_true hx).symm
    | false => exact (decide_eq_false fun m => List.any_eq_false.1 q k m (decide_eq_true rfl)).symm
  rw [hgn]
  simp only [go_sem, reduceAdd, reduceSub, reduceMul, reduceEqDiff, reduceLT, reduceLeDiff, Nat.reduceBEq, Nat.reduceBNe, Int.reduceLT, Int.reduceLE, Int.reduceEq, Int.reduceAdd, Int.reduceSub, Int.reduceNeg, reduceCtorEq, q1]
  refine plain_ok (N := 3000) (call_does (fun v _ => v = .int .i64 0) rfl rfl (by kernel_rfl) rfl (dk rfl) (fun G hG => by rw [← errSt_ok hok]; exact check_does hG.wf (hP.mono (hG.le G1 (by simp))).g)) (QOk_body _ _ _) (by first | exact .inl rfl | exact .inr ⟨_, _, rfl, rfl⟩) ?_
  rintro _ ⟨_, G4, rfl, hn4, rfl⟩
  clear hn4
  simp only [go_sem, reduceAdd, reduceSub, reduceMul, reduceEqDiff, reduceLT, reduceLeDiff, Nat.reduceBEq, Nat.reduceBNe, Int.reduceLT, Int.reduceLE, Int.reduceEq, Int.reduceAdd, Int.reduceSub, Int.reduceNeg, reduceCtorEq]
  refine Wb_mk (fun hgo => ?_) (fun hgo => ?_)
  · have e := f1 (of_decide_eq_true hgo)
    refine fin_ret (G := ⟨Non, w⟩) Try.results9 ?_
    simp only [go_sem, reduceAdd, reduceSub, reduceMul, reduceEqDiff, reduceLT, reduceLeDiff, Nat.reduceBEq, Nat.reduceBNe, Int.reduceLT, Int.reduceLE, Int.reduceEq, Int.reduceAdd, Int.reduceSub, Int.reduceNeg, reduceCtorEq]
    intro aa w' _ hle
    show Value.bool (decide (a.2 = 7)) = _
    rw [e]
    rfl
  · have f3 := f2 (of_decide_eq_false hgo)
    refine Wb_mk (fun hli => ?_) (fun hli => ?_)
    · have e := f3.1 hli
      refine fin_ret (G := ⟨Non, w⟩) Try.results9 ?_
      simp only [go_sem, reduceAdd, reduceSub, reduceMul, reduceEqDiff, reduceLT, reduceLeDiff, Nat.reduceBEq, Nat.reduceBNe, Int.reduceLT, Int.reduceLE, Int.reduceEq, Int.reduceAdd, Int.reduceSub, Int.reduceNeg, reduceCtorEq]
      intro aa w' _ hle
      show Value.bool (decide (a.2 = 4)) = _
      rw [e]
      rfl
    · obtain ⟨t, e, hl⟩ := f3.2 hli
      have ea : a.1 = t := by rw [e]
      rw [← ea] at hl
      have q3 : decide (a.2 = 0) = true := by rw [e]; rfl
      have q5 : decide ((a.1.gone.length : Int) = (s.gone.length : Int) + 1) = true := decide_eq_true (by omega)
      simp only [go_sem, reduceAdd, reduceSub, reduceMul, reduceEqDiff, reduceLT, reduceLeDiff, Nat.reduceBEq, Nat.reduceBNe, Int.reduceLT, Int.reduceLE, Int.reduceEq, Int.reduceAdd, Int.reduceSub, Int.reduceNeg, reduceCtorEq, q3]
      refine ⟨by omega, ?_⟩
      refine fin_ret (G := ⟨Non, w⟩) Try.results9 ?_
      simp only [go_sem, reduceAdd, reduceSub, reduceMul, reduceEqDiff, reduceLT, reduceLeDiff, Nat.reduceBEq, Nat.reduceBNe, Int.reduceLT, Int.reduceLE, Int.reduceEq, Int.reduceAdd, Int.reduceSub, Int.reduceNeg, reduceCtorEq, q3, q5]
      intro aa w' _ hle
      rfl
theorem goneEmpty_walk {w : World} (v0 : Value) (l0 : List Raw) (h0 : RawsG ⟨Non, w⟩ v0 l0) (n : Int) (hn : i64 n) : Calls Try.prog 9 #[v0, .int .i64 n] w fun e w' => e = .returned (.bool true) ∧ Below w.heap.size w w' := ret_walk (goneEmpty_ret v0 l0 h0 n hn)
end Go.Proofs.Ytefmffpidhdjoaa
