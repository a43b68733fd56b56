/- 'icehousekeep.HalfDead' returns true for all raw things and numbers. Conditions: none. -/
import Derived.Test.YtefmffpidhdjoaaV9
import Derived.Test.YtefmffpidhdjoaaP11
namespace Go.Proofs.Ytefmffpidhdjoaa
open Go.RowKit
set_option linter.unusedSimpArgs false
def badN (n : Int) : Bool := decide (n < 0) || decide (4000 < n)
def halfB (v : Int) (x : Ver) : Bool := decide (2 ≤ x.tier) && decide (x.vol = v)
def halfOk (s : Sta) (v n : Int) : Bool := decide (0 < n) && (!decide (v ∈ s.gone) && decide (2 * liveL v s.vers ≤ n))
def halfL (s : Sta) (i : Nat) : List Int → Int × List Int × Int
  | [] => (0, [], 14)
  | n :: r => if halfOk s i n = true then ((i : Int), idsL (halfB i) s.vers, 0) else halfL s (i + 1) r
def halfS (s : Sta) (m : List Int) : Int × List Int × Int := if (decide (8 < m.length) || m.any badN) = true then (0, [], 2) else halfL s 0 m
set_option maxRecDepth 100000 in
set_option maxHeartbeats 4000000 in
theorem half1_does {n : Int} {G0 : GW} (hW : G0.Wf) : Calls Try.prog 81 #[.int .i64 n] G0.w (Ret G0 fun v _ => v = .bool (badN n)) := by
  refine enterS (G := G0) (n := 9) 3000 hW Try.func81 rfl Try.ntmps81 (by simp) ?_
  simp only [go_sem, simprocAttr]
  refine fin_ret (G := G0) Try.results81 ?_
  simp only [go_sem, simprocAttr]
  intro aa w' _ _
  rfl
set_option maxRecDepth 100000 in
set_option maxHeartbeats 4000000 in
theorem half2_does {x : Ver} {vv : Value} {n : Int} {g : Nat} {G0 : GW} (hW : G0.Wf) (hv : IntsG G0 vv x.secs) (hb : BlkG G0 g [.int .i64 n]) :
    Calls Try.prog 82 #[.agg (verV x vv).toArray, .pointer (some ⟨g, 0, none⟩)] G0.w (Ret G0 fun v _ => v = .bool (halfB n x)) := by
  obtain ⟨Aw, cw, rfl, _⟩ := Sq.form hv
  refine enterV (G := G0) (n := 13) 3000 [.c (.v (.agg (verV x (.slice Aw x.secs.length cw)).toArray)), .c (.q 0 g 0 0)] [⟨0, g, 0, [.int .i64 n]⟩] hb.vw hW Try.func82 rfl Try.ntmps82 (by simp) ?_
  simp only [go_sem, simprocAttr, verV]
  intro g1
  refine fin_ret (G := G0) Try.results82 ?_
  simp only [go_sem, simprocAttr]
  intro aa w' _ _
  rfl
set_option maxRecDepth 100000 in
set_option maxHeartbeats 8000000 in
theorem half_does {s : Sta} {sv mv : Value} {m : List Int} {G0 : GW} (hW : G0.Wf) (hs : StaG G0 sv s) (hok : okSt s = true) (hm : IntsG G0 mv m) :
    Calls Try.prog 38 #[sv, mv] G0.w (Ret G0 fun v G => ∃ fv, v = .tuple #[.int .i64 (halfS s m).1, fv, .int .i64 (halfS s m).2.2] ∧ IntsG G fv (halfS s m).2.1) := by
  obtain ⟨A1, c1, A2, c2, A3, c3, A4, c4, A5, c5, rfl, hP⟩ := hs.form
  obtain ⟨Am, cm, rfl, hm1, hm2⟩ := Sq.form hm
  have hml := max_le
  have hgd := okSt_good.1 hok
  have b2 := hgd.vlen
  refine enterS (G := G0) (n := 51) 3000 hW Try.func38 rfl Try.ntmps38 (by simp) ?_
  simp only [go_sem, simprocAttr]
  intro g1
  refine plain_ok (N := 3000) (call_does (fun v _ => v = .int .i64 0) rfl rfl (by kernel_rfl) rfl (dk rfl) (fun G hG => by rw [← errSt_ok hok]; exact check_does hG.wf (hP.mono (hG.le G0 (by simp))).g)) (QOk_body _ _ _) (by first | exact .inl rfl | exact .inr ⟨_, _, rfl, rfl⟩) ?_
  rintro _ ⟨_, G1, rfl, hn1, rfl⟩
  clear hn1
  simp only [go_sem, simprocAttr]
  by_cases h8 : 8 < m.length
  · have q : decide (8 < (m.length : Int)) = true := decide_eq_true (by omega)
    have hH : halfS s m = (0, [], 2) := by unfold halfS; rw [if_pos (by simp [h8])]
    rw [hH]
    simp only [go_sem, simprocAttr, q]
    refine fin_ret (G := G0) Try.results38 ?_
    simp only [go_sem, simprocAttr]
    intro aa w' _ _
    exact ⟨_, rfl, Sq.nil⟩
  have q : decide (8 < (m.length : Int)) = false := decide_eq_false (by omega)
  simp only [go_sem, simprocAttr, q]
  refine plain_ok (N := 3000) (call_does (fun v _ => v = .bool (m.any badN)) rfl rfl (by kernel_rfl) rfl (dk rfl) (fun G hG => containsInt_does hG.wf (hm.mono (hG.le G0 (by simp))) (by kernel_rfl) (fun G x _ _ hw => half1_does hw))) (QOk_body _ _ _) (by first | exact .inl rfl | exact .inr ⟨_, _, rfl, rfl⟩) ?_
  rintro _ ⟨_, G2, rfl, hn2, rfl⟩
  clear hn2
  by_cases hbad : m.any badN = true
  · have hH : halfS s m = (0, [], 2) := by unfold halfS; rw [hbad, if_pos (by simp)]
    rw [hH, hbad]
    simp only [go_sem, simprocAttr]
    refine fin_ret (G := G0) Try.results38 ?_
    simp only [go_sem, simprocAttr]
    intro aa w' _ _
    exact ⟨_, rfl, Sq.nil⟩
  have hbad' := bool_no hbad
  have hH : halfS s m = halfL s 0 m := by unfold halfS; rw [hbad', if_neg (by simp; omega)]
  rw [hbad']
  simp only [go_sem, simprocAttr]
  refine loop_ok (N := 3000) (ι := Nat) (fun i => ⟨[(2, .c (.p 0 g1 0)), (22, .c (.v (.slice Am m.length cm))), (23, .c (.v (.int .i64 (m.length : Int)))), (24, .c (.v (.int .i64 (i : Int))))],
      [⟨0, g1, 29, [.v (.int .i64 s.next), .v (.int .i64 s.clock), .v (.slice A1 s.bkts.length c1), .v (.slice A2 s.vers.length c2), .v (.slice A3 s.upls.length c3), .v (.slice A4 s.queue.length c4), .v (.slice A5 s.gone.length c5)]⟩], [], [], [G0], 1⟩)
    (fun i => i ≤ m.length ∧ halfS s m = halfL s i (m.drop i))
    (fun i => m.length - i) (QOk_body _ _ _) 0 ⟨Nat.zero_le _, hH⟩ (by simp only [go_sem, simprocAttr]; simp) ?_
  rintro i ⟨hi, hL⟩
  by_cases hlt : i < m.length
  · have qi : decide ((i : Int) < (m.length : Int)) = true := decide_eq_true (by omega)
    obtain ⟨n, hn⟩ : ∃ n, m[i]? = some n := ⟨_, List.getElem?_eq_getElem hlt⟩
    have hnb : badN n = false := by
      rw [List.any_eq_false] at hbad'
      exact bool_no (hbad' n (List.mem_of_getElem? hn))
    unfold badN at hnb
    simp only [Bool.or_eq_false_iff, decide_eq_false_iff_not] at hnb
    rw [drop_at hn, halfL] at hL
    have hbd := liveL_bd (i : Int) s.vers (fun x hx => hgd.size hx)
    simp only [go_sem, simprocAttr, qi]
    refine plain_ok (N := 3000) (elem_does (R := IntG) (l := m) (m := i) rfl tySlice27 tySize3 rfl rfl (dk rfl) rfl hn (fun G hG => hm.mono (hG.le G0 (by simp)))) (QOk_body _ _ _) (by first | exact .inl rfl | exact .inr ⟨_, _, rfl, rfl⟩) ?_
    rintro _ ⟨g6, o6, cs, G3, hcl3, hcs, rfl⟩
    obtain rfl := hcs
    simp only [go_sem, simprocAttr]
    intro g2
    by_cases h0 : 0 < n
    · have q0 : decide (0 < n) = true := decide_eq_true h0
      simp only [go_sem, simprocAttr, q0]
      refine plain_ok (N := 3000) (call_does (fun v _ => v = .bool (decide ((i : Int) ∈ s.gone))) rfl rfl (by kernel_rfl) rfl (dk rfl) (fun G hG => contains_does hG.wf ((hP.mono (hG.le G0 (by simp))).gone))) (QOk_body _ _ _) (by first | exact .inl rfl | exact .inr ⟨_, _, rfl, rfl⟩) ?_
      rintro _ ⟨_, G4, rfl, hn4, rfl⟩
      clear hn4
      by_cases hgo : (i : Int) ∈ s.gone
      · have qg : decide ((i : Int) ∈ s.gone) = true := decide_eq_true hgo
        have hno : halfOk s i n = false := by unfold halfOk; rw [qg]; simp
        rw [if_neg (by rw [hno]; simp)] at hL
        simp only [go_sem, simprocAttr, qg, Bool.not_true]
        refine ⟨by omega, ?_⟩
        refine again_ok (i + 1) ⟨hlt, hL⟩ (by omega) (by simp only [go_sem, simprocAttr]; simp)
      have qg : decide ((i : Int) ∈ s.gone) = false := decide_eq_false hgo
      simp only [go_sem, simprocAttr, qg, Bool.not_false]
      refine plain_ok (N := 3000) (call_does (fun v _ => v = .int .i64 (liveL (i : Int) s.vers)) rfl rfl (by kernel_rfl) rfl (dk rfl) (fun G hG => live_does hG.wf (hP.mono (hG.le G0 (by simp))).g hok)) (QOk_body _ _ _) (by first | exact .inl rfl | exact .inr ⟨_, _, rfl, rfl⟩) ?_
      rintro _ ⟨_, G5, rfl, hn5, rfl⟩
      clear hn5
      simp only [go_sem, simprocAttr]
      refine ⟨by omega, ?_⟩
      by_cases hh : 2 * liveL (i : Int) s.vers ≤ n
      · have qh : decide (2 * liveL (i : Int) s.vers ≤ n) = true := decide_eq_true hh
        have hyes : halfOk s i n = true := by unfold halfOk; rw [q0, qg, qh]; rfl
        rw [if_pos hyes] at hL
        simp only [go_sem, simprocAttr, qh]
        refine draw_ok (N := 3000) (.take 0 (.take 1 (.take 2 (.alt 3 (.take 4 (.take 5 (.take 6 .done))) .last)))) [] (QOk_body _ _ _) follows_mixed (by kernel_rfl) (by kernel_rfl) ?_
        simp only [go_sem, simprocAttr]
        refine anyH_ok (N := 3000) (callH_does [] [] [] [] (fun v _ R _ => ∃ A c, v = .slice A (idsL (halfB (i : Int)) s.vers).length c ∧ R = [intRow (.slice A (idsL (halfB (i : Int)) s.vers).length c) (idsL (halfB (i : Int)) s.vers)]) upV rfl rfl (by kernel_rfl) rfl (dk rfl) rfl rfl (by simp [ids, Diff]) (by simp) (fun G hG hh hM => RetH.anyM (M' := (G.sub [g2]).M) (ids_does (s := s) (f := 82) (caps := #[.pointer (some ⟨g2, 0, none⟩)]) (p := halfB (i : Int)) (G0 := G.sub [g2]) (hG.wf.sub [g2]) ((hP.mono ((hG.le G0 (by simp)).trans (GW.le_sub _ _))).g) b2 (by kernel_rfl) (fun G' x vv hx hv hle hw => half2_does hw hv ((hG.blkG (b := ⟨2, g2, 3, [.v (.int .i64 (i : Int))]⟩) (ks := [g2]) (by simp) (by simp)).mono hle)))) (fun v css R G _ _ => upV_den css)) (QOk_body _ _ _) rfl (by first | exact .inl rfl | exact .inr ⟨_, _, rfl, rfl⟩) ?_
        rintro _ ⟨_, _, G6, ⟨A, c, rfl, rfl⟩, hle6, rfl⟩
        clear hle6
        simp only [go_sem, simprocAttr]
        refine read_ok (R1 := []) rfl (fun G8 hle8 hsl8 => ?_) (fun _ _ q => q) (by show (1 : Nat) ≠ 0; decide)
        have hO : IntsG G8 (.slice A (idsL (halfB (i : Int)) s.vers).length c) (idsL (halfB (i : Int)) s.vers) := ints_of hsl8
        rw [hL]
        refine fin_ret (G := G0) Try.results38 ?_
        simp only [go_sem, simprocAttr]
        intro aa w' _ hle
        exact ⟨_, rfl, hO.mono (hle G8 (by simp))⟩
      have qh : decide (2 * liveL (i : Int) s.vers ≤ n) = false := decide_eq_false hh
      have hno : halfOk s i n = false := by unfold halfOk; rw [qh]; simp
      rw [if_neg (by rw [hno]; simp)] at hL
      simp only [go_sem, simprocAttr, qh]
      refine ⟨by omega, ?_⟩
      refine again_ok (i + 1) ⟨hlt, hL⟩ (by omega) (by simp only [go_sem, simprocAttr]; simp)
    have q0 : decide (0 < n) = false := decide_eq_false h0
    have hno : halfOk s i n = false := by unfold halfOk; rw [q0]; rfl
    rw [if_neg (by rw [hno]; simp)] at hL
    simp only [go_sem, simprocAttr, q0]
    refine ⟨by omega, ?_⟩
    refine again_ok (i + 1) ⟨hlt, hL⟩ (by omega) (by simp only [go_sem, simprocAttr]; simp)
  have him : i = m.length := by omega
  subst him
  have qi : decide ((m.length : Int) < (m.length : Int)) = false := decide_eq_false (by omega)
  rw [List.drop_length] at hL
  rw [hL]
  simp only [go_sem, simprocAttr, qi]
  refine fin_ret (G := G0) Try.results38 ?_
  simp only [go_sem, simprocAttr]
  intro aa w' _ _
  exact ⟨_, rfl, Sq.nil⟩
def tot (p : Ver → Bool) : List Ver → Int
  | [] => 0
  | x :: l => (if p x = true then 6 + x.size else 0) + tot p l
theorem tot_app (p : Ver → Bool) : ∀ (a b : List Ver), tot p (a ++ b) = tot p a + tot p b
  | [], b => by simp [tot]
  | x :: a, b => by rw [List.cons_append, tot, tot, tot_app p a b, Int.add_assoc]
theorem tot_succ {p : Ver → Bool} {l : List Ver} {i : Nat} {x : Ver} (h : l[i]? = some x) : tot p (l.take (i + 1)) = tot p (l.take i) + (if p x = true then 6 + x.size else 0) := by
  rw [List.take_add_one, h, tot_app]
  simp [tot]
theorem tot_bd (p : Ver → Bool) : ∀ l : List Ver, (∀ x ∈ l, 0 ≤ x.size ∧ x.size ≤ 600) → 0 ≤ tot p l ∧ tot p l ≤ 606 * (l.length : Int)
  | [], _ => by simp [tot]
  | x :: l, h => by
    have ih := tot_bd p l (fun y hy => h y (List.mem_cons_of_mem _ hy))
    have hx := h x List.mem_cons_self
    rw [tot, List.length_cons]
    split <;> omega
theorem tot_live {v : Int} {p : Ver → Bool} : ∀ l : List Ver, (∀ x ∈ l, p x = liveB x v) → tot p l = liveL v l
  | [], _ => rfl
  | x :: l, h => by
    rw [tot, liveL, tot_live l (fun y hy => h y (List.mem_cons_of_mem _ hy)), h x List.mem_cons_self]
    rfl
def tsum (k c : Int) : List Int → Int
  | [] => 0
  | y :: l => (if k = y then c else 0) + tsum k c l
theorem tsum_app (k c : Int) : ∀ (a b : List Int), tsum k c (a ++ b) = tsum k c a + tsum k c b
  | [], b => by simp [tsum]
  | x :: a, b => by rw [List.cons_append, tsum, tsum, tsum_app k c a b, Int.add_assoc]
theorem tsum_succ {k c : Int} {l : List Int} {i : Nat} {x : Int} (h : l[i]? = some x) : tsum k c (l.take (i + 1)) = tsum k c (l.take i) + (if k = x then c else 0) := by
  rw [List.take_add_one, h, tsum_app]
  simp [tsum]
theorem tsum_bd {k c : Int} (h0 : 0 ≤ c) (h1 : c ≤ 606) : ∀ l : List Int, 0 ≤ tsum k c l ∧ tsum k c l ≤ 606 * (l.length : Int)
  | [] => by simp [tsum]
  | x :: l => by
    have ih := tsum_bd h0 h1 l (k := k)
    rw [tsum, List.length_cons]
    split <;> omega
theorem tsum_none {k c : Int} : ∀ l : List Int, (∀ y ∈ l, y ≠ k) → tsum k c l = 0
  | [], _ => rfl
  | x :: l, h => by
    rw [tsum, if_neg (fun e => h x List.mem_cons_self e.symm), tsum_none l (fun y hy => h y (List.mem_cons_of_mem _ hy))]
    rfl
theorem idsL_cons (p : Ver → Bool) (v : Ver) (l : List Ver) : idsL p (v :: l) = (if p v = true then [v.id] else []) ++ idsL p l := by
  unfold idsL
  rw [List.filter_cons]
  split <;> rfl
theorem idsL_mem {p : Ver → Bool} {l : List Ver} {y : Int} (h : y ∈ idsL p l) : ∃ v ∈ l, v.id = y := by
  unfold idsL at h
  obtain ⟨v, hv, e⟩ := List.mem_map.1 h
  exact ⟨v, (List.mem_filter.1 hv).1, e⟩
theorem tsum_ids {p : Ver → Bool} {c : Int} : ∀ l : List Ver, (l.Pairwise fun a b => a.id < b.id) → ∀ x ∈ l, tsum x.id c (idsL p l) = if p x = true then c else 0
  | [], _, x, hx => by cases hx
  | v :: l, hp, x, hx => by
    obtain ⟨h1, h2⟩ := List.pairwise_cons.1 hp
    rw [idsL_cons, tsum_app]
    rcases List.mem_cons.1 hx with rfl | hx
    · rw [tsum_none (idsL p l) (fun y hy => by obtain ⟨u, hu, rfl⟩ := idsL_mem hy; have := h1 u hu; omega), Int.add_zero]
      cases p x <;> simp [tsum]
    · rw [tsum_ids l h2 x hx]
      have := h1 x hx
      have hne : ¬ x.id = v.id := by omega
      cases p v <;> simp [tsum, hne]
theorem tier_or {s : Sta} (h : Good s) {x : Ver} (hx : x ∈ s.vers) : x.tier = 0 ∨ x.tier = 1 ∨ x.tier = 2 ∨ x.tier = 3 := by
  rcases (h.snd x hx).2 with ⟨_, m⟩ | ⟨_, _, _, t⟩
  · unfold markB at m
    simp only [Bool.and_eq_true, decide_eq_true_eq] at m
    omega
  · rcases t with ⟨e, _⟩ | ⟨e, _⟩ | ⟨e, _⟩ <;> omega
theorem half_live {s : Sta} (h : Good s) (v : Int) : tot (halfB v) s.vers = liveL v s.vers := tot_live s.vers fun x hx => by
  have := tier_or h hx
  unfold halfB liveB
  congr 1
  rw [Bool.eq_iff_iff]
  simp only [Bool.or_eq_true, decide_eq_true_eq]
  omega
theorem livesS_at (s : Sta) {n i : Nat} (h : i < n) : (livesS s n)[i]? = some (liveL (i : Int) s.vers) := by simp [livesS, h]
theorem infoI : (Try.prog.info? 3).map (fun i => (i.zero, i.size, i.bytes)) = some (some (.int .i64 0), 1, 8) := by kernel_rfl
theorem half_nine (s : Sta) : halfS s (List.replicate 9 0) = (0, [], 2) := by
  unfold halfS
  rw [if_pos (by simp)]
set_option maxRecDepth 100000 in
set_option maxHeartbeats 8000000 in
theorem halfDead_ret {w : World} (v0 : Value) (l0 : List Raw) (h0 : RawsG ⟨Non, w⟩ v0 l0) (v1 : Value) (l1 : List Int) (h1 : ScR (fun (_ : GW) (x : Int) cs => cs = [.int .i64 x] ∧ i64 x) 1 ⟨Non, w⟩ v1 l1) :
    Calls Try.prog 17 #[v0, v1] w (Ret ⟨Non, w⟩ fun v _ => v = .bool true) := by
  have hml := max_le
  have hok := stateS_ok l0 40
  obtain ⟨A0, c0, rfl, _, _⟩ := ScR.form h0
  obtain ⟨B0, d0, rfl, hn1, hn2⟩ := ScR.form h1
  refine enterS (G := ⟨Non, w⟩) (n := 157) 3000 (wf_nonL w) Try.func17 rfl Try.ntmps17 (by simp) ?_
  simp only [go_sem, simprocAttr]
  refine plain_ok (N := 3000) (call_does (fun v G => ∃ sv ov, v = .tuple #[sv, ov] ∧ StaG G sv (stateS l0 40).1 ∧ RecsG G ov (stateS l0 40).2) rfl rfl (by kernel_rfl) rfl (dk rfl) (fun G hG => state_does (most := 40) hG.wf (ScR.mono h0 rawG_mono (hG.le ⟨Non, w⟩ (by simp))) (by omega))) (QOk_body _ _ _) (by first | exact .inl rfl | exact .inr ⟨_, _, rfl, rfl⟩) ?_
  rintro _ ⟨_, G1, ⟨sv, ov, rfl, hs, ho⟩, hn1, rfl⟩
  clear hn1
  obtain ⟨A1, c1, A2, c2, A3, c3, A4, c4, A5, c5, rfl, hP⟩ := hs.form
  obtain ⟨Ao, co, rfl, _⟩ := Sq.form ho
  obtain ⟨s, hsd⟩ : ∃ s, s = (stateS l0 40).1 := ⟨_, rfl⟩
  obtain ⟨rs, hrd⟩ : ∃ rs, rs = (stateS l0 40).2 := ⟨_, rfl⟩
  rw [← hsd] at hok hP hs ⊢
  rw [← hrd] at ho ⊢
  clear hsd hrd
  have hgd := okSt_good.1 hok
  have b2 := hgd.vlen
  obtain ⟨_, _, eg, hg1, hg2⟩ := Sq.form hP.gone
  cases eg
  have hin : ∀ z : Int, 0 ≤ z → z < 1000000000 → i64 z := fun z ha hb => ⟨by omega, by omega⟩
  simp only [go_sem, simprocAttr]
  intro g1
  refine row_ok 3 1 ?_
  refine loop_ok (N := 3000) (ι := List Int × Option Addr × Nat) (fun i => match i with | (m, A, c) => ⟨[(1, .c (.v (.slice B0 l1.length d0))), (5, .c (.p 0 g1 0)), (7, .c (.v (.slice A m.length c))), (8, .c (.v (.int .i64 (m.length : Int))))],
      [⟨0, g1, 29, [.v (.int .i64 s.next), .v (.int .i64 s.clock), .v (.slice A1 s.bkts.length c1), .v (.slice A2 s.vers.length c2), .v (.slice A3 s.upls.length c3), .v (.slice A4 s.queue.length c4), .v (.slice A5 s.gone.length c5)]⟩], [intRow (.slice A m.length c) m], [], [G1, ⟨Non, w⟩], 1⟩)
    (fun i => match i with | (m, A, c) => m.length ≤ 5 ∧ m.length ≤ l1.length ∧ ∀ x ∈ m, 0 ≤ x ∧ x < 1500)
    (fun i => 5 - i.1.length) (QOk_body _ _ _) ([], none, 0) ⟨by simp, by simp, fun x hx => by cases hx⟩ (by simp only [go_sem, simprocAttr]; simp [intRow]) ?_
  rintro ⟨m, A, c⟩ ⟨hm5, hml1, hmx⟩
  simp only at hm5 hml1 hmx ⊢
  by_cases hlt : m.length < l1.length ∧ m.length < 5
  · have q : decide ((m.length : Int) < (l1.length : Int)) = true := decide_eq_true (by omega)
    have q2 : decide ((m.length : Int) < 5) = true := decide_eq_true (by omega)
    obtain ⟨y, hy⟩ : ∃ y, l1[m.length]? = some y := ⟨_, List.getElem?_eq_getElem hlt.1⟩
    simp only [go_sem, simprocAttr, q, q2]
    refine plain_ok (N := 3000) (elemC_does (R := fun (_ : GW) (x : Int) cs => cs = [.int .i64 x] ∧ i64 x) (l := l1) (m := m.length) rfl tySlice27 tySize3 rfl rfl (dk rfl) rfl hy (fun G hG => ScR.mono h1 (fun _ _ _ _ _ h => h) (hG.le ⟨Non, w⟩ (by simp)))) (QOk_body _ _ _) (by first | exact .inl rfl | exact .inr ⟨_, _, rfl, rfl⟩) ?_
    rintro _ ⟨g6, o6, cs, G6, hcl6, ⟨rfl, hyi⟩, _, rfl⟩
    have hpb := pick_bd y 1500 (by omega)
    simp only [go_sem, simprocAttr]
    refine plain_ok (N := 3000) (call_does (fun v _ => v = .int .i64 (pick y 1500)) rfl rfl (by kernel_rfl) rfl (dk rfl) (fun G hG => picked_does hG.wf hyi (by omega) (by omega))) (QOk_body _ _ _) (by first | exact .inl rfl | exact .inr ⟨_, _, rfl, rfl⟩) ?_
    rintro _ ⟨_, G7, rfl, hn7, rfl⟩
    clear hn7
    simp only [go_sem, simprocAttr]
    intro g4
    refine plain_ok (N := 3000) (append_does (R1 := []) (R2 := []) (n := m.length) (v := .slice A m.length c) (xs := m.flatMap intC) (news := [.int .i64 (pick y 1500)]) rfl tySlice27 tyApp3 rfl rfl rfl rfl (dk rfl) (fun u hu => by rw [List.mem_singleton.1 hu]; rfl) (by unfold maxLen; omega) (by omega) (fun G hG => tsl_blk hG (b := ⟨2, g4, 3, [.v (.int .i64 (pick y 1500))]⟩) (by simp) rfl (by unfold maxLen; omega))) (QOk_body _ _ _) (by first | exact .inl rfl | exact .inr ⟨_, _, rfl, rfl⟩) ?_
    rintro _ ⟨A', c', rfl⟩
    have hl5 : (m ++ [pick y 1500]).length = m.length + 1 := by simp
    simp only [go_sem, simprocAttr]
    refine ⟨by omega, ?_⟩
    refine again_ok (m ++ [pick y 1500], A', c') ⟨by show (m ++ [pick y 1500]).length ≤ 5; omega, by show (m ++ [pick y 1500]).length ≤ l1.length; omega, fun x hx => by
      rcases List.mem_append.1 hx with hx | hx
      · exact hmx x hx
      · rw [List.mem_singleton.1 hx]; exact hpb⟩ (by show 5 - (m ++ [pick y 1500]).length < 5 - m.length; omega) (by rw [hl5]; simp only [go_sem, simprocAttr]; simp [intRow, intC])
  have hnl : ¬ (m.length < l1.length) ∨ ¬ (m.length < 5) := by omega
  have hout : (decide ((m.length : Int) < (l1.length : Int)) = true ∧ decide ((m.length : Int) < 5) = false) ∨ decide ((m.length : Int) < (l1.length : Int)) = false := by
    by_cases z : m.length < l1.length
    · exact .inl ⟨decide_eq_true (by omega), decide_eq_false (by omega)⟩
    · exact .inr (decide_eq_false (by omega))
  clear hnl hlt
  rcases hout with ⟨q1, q2⟩ | q1
  · simp only [go_sem, simprocAttr, q1, q2]
    refine read_ok (R1 := []) rfl (fun GM hleM hslM => ?_) (fun _ _ q => q) (by show (1 : Nat) ≠ 0; decide)
    have hM : IntsG GM (.slice A m.length c) m := ints_of hslM
    simp only [St.seen, St.rowsTo, List.append_nil]
    refine plain_ok (N := 3000) (call_does (fun y G => ∃ fv, y = .tuple #[fv, .int .i64 0] ∧ IntsG G fv (livesS s 8)) rfl rfl (by kernel_rfl) rfl (dk rfl) (fun G hG => lives_does hG.wf (hP.mono (hG.le G1 (by simp))).g hok)) (QOk_body _ _ _) (by first | exact .inl rfl | exact .inr ⟨_, _, rfl, rfl⟩) ?_
    rintro _ ⟨_, G4, ⟨fv, rfl, hfv⟩, hn4, rfl⟩
    clear hn4
    obtain ⟨Af, cf, rfl, hfl, _⟩ := Sq.form hfv
    have hl8 := livesS_len s 8
    simp only [go_sem, simprocAttr]
    refine plain_ok (N := 3000) (call_does (fun y G => ∃ fv, y = .tuple #[.int .i64 (halfS s m).1, fv, .int .i64 (halfS s m).2.2] ∧ IntsG G fv (halfS s m).2.1) rfl rfl (by kernel_rfl) rfl (dk rfl) (fun G hG => half_does hG.wf (hP.mono (hG.le G1 (by simp))).g hok (hM.mono (hG.le GM (by simp))))) (QOk_body _ _ _) (by first | exact .inl rfl | exact .inr ⟨_, _, rfl, rfl⟩) ?_
    rintro _ ⟨_, G5, ⟨fi, rfl, hfi⟩, hn5, rfl⟩
    clear hn5
    have hHS : halfS s m = halfL s 0 m := by
      unfold halfS
      rw [if_neg]
      simp only [Bool.or_eq_true, decide_eq_true_eq, List.any_eq_true, badN, not_or, not_exists, not_and]
      exact ⟨by omega, fun x hx => by have := hmx x hx; omega⟩
    obtain ⟨r, hr⟩ : ∃ r, r = halfS s m := ⟨_, rfl⟩
    rw [← hr] at hfi hHS ⊢
    clear hr
    obtain ⟨Ai, ci, rfl, hil, _⟩ := Sq.form hfi
    obtain ⟨z1, z2⟩ : ∃ z1 z2, z1 = r.1 ∧ z2 = r.2.2 := ⟨_, _, rfl, rfl⟩
    simp only [go_sem, simprocAttr]
    refine loop_ok (N := 3000) (ι := Nat) (fun i => ⟨[(5, .c (.p 0 g1 0)), (9, .c (.v (.slice Af (livesS s 8).length cf))), (11, .c (.v (.int .i64 r.1))), (12, .c (.v (.slice Ai r.2.1.length ci))), (13, .c (.v (.int .i64 r.2.2))), (64, .c (.v (.slice A m.length c))), (65, .c (.v (.int .i64 (m.length : Int)))), (66, .c (.v (.int .i64 (i : Int))))],
        [⟨0, g1, 29, [.v (.int .i64 s.next), .v (.int .i64 s.clock), .v (.slice A1 s.bkts.length c1), .v (.slice A2 s.vers.length c2), .v (.slice A3 s.upls.length c3), .v (.slice A4 s.queue.length c4), .v (.slice A5 s.gone.length c5)]⟩], [], [], [G5, G4, GM, G1, ⟨Non, w⟩], 1⟩)
      (fun i => i ≤ m.length ∧ r = halfL s i (m.drop i))
      (fun i => m.length - i) (QOk_body _ _ _) 0 ⟨Nat.zero_le _, hHS⟩ (by simp only [go_sem, simprocAttr]; simp) ?_
    rintro i ⟨hi, hL⟩
    by_cases hlti : i < m.length
    · have qi : decide ((i : Int) < (m.length : Int)) = true := decide_eq_true (by omega)
      obtain ⟨n, hn⟩ : ∃ n, m[i]? = some n := ⟨_, List.getElem?_eq_getElem hlti⟩
      have hnb := hmx n (List.mem_of_getElem? hn)
      rw [drop_at hn, halfL] at hL
      have hbd := liveL_bd (i : Int) s.vers (fun x hx => hgd.size hx)
      simp only [go_sem, simprocAttr, qi]
      refine plain_ok (N := 3000) (elem_does (R := IntG) (l := m) (m := i) rfl tySlice27 tySize3 rfl rfl (dk rfl) rfl hn (fun G hG => hM.mono (hG.le GM (by simp)))) (QOk_body _ _ _) (by first | exact .inl rfl | exact .inr ⟨_, _, rfl, rfl⟩) ?_
      rintro _ ⟨g6, o6, cs, G6, hcl6, hcs, rfl⟩
      obtain rfl := hcs
      simp only [go_sem, simprocAttr]
      refine loop_ok (N := 3000) (ι := Nat) (fun k => ⟨[(5, .c (.p 0 g1 0)), (9, .c (.v (.slice Af (livesS s 8).length cf))), (11, .c (.v (.int .i64 r.1))), (12, .c (.v (.slice Ai r.2.1.length ci))), (13, .c (.v (.int .i64 r.2.2))), (64, .c (.v (.slice A m.length c))), (65, .c (.v (.int .i64 (m.length : Int)))), (66, .c (.v (.int .i64 (i : Int)))), (14, .c (.v (.int .i64 (i : Int)))), (15, .c (.v (.int .i64 n))), (16, .c (.v (.bool (decide ((i : Int) ∈ s.gone.take k))))), (72, .c (.v (.slice A5 s.gone.length c5))), (73, .c (.v (.int .i64 (s.gone.length : Int)))), (74, .c (.v (.int .i64 (k : Int))))],
          [⟨0, g1, 29, [.v (.int .i64 s.next), .v (.int .i64 s.clock), .v (.slice A1 s.bkts.length c1), .v (.slice A2 s.vers.length c2), .v (.slice A3 s.upls.length c3), .v (.slice A4 s.queue.length c4), .v (.slice A5 s.gone.length c5)]⟩], [], [], [G6, G5, G4, GM, G1, ⟨Non, w⟩], 2⟩)
        (fun k => k ≤ s.gone.length)
        (fun k => s.gone.length - k) (QOk_body _ _ _) 0 (Nat.zero_le _) (by simp only [go_sem, simprocAttr]; simp) ?_
      rintro k hk
      by_cases hltk : k < s.gone.length
      · have qk : decide ((k : Int) < (s.gone.length : Int)) = true := decide_eq_true (by omega)
        obtain ⟨y, hy⟩ : ∃ y, s.gone[k]? = some y := ⟨_, List.getElem?_eq_getElem hltk⟩
        have e9 : decide ((i : Int) ∈ s.gone.take (k + 1)) = (decide ((i : Int) ∈ s.gone.take k) || decide (y = (i : Int))) := by
          rw [List.take_add_one, hy, Bool.eq_iff_iff]
          simp only [Option.toList_some, decide_eq_true_eq, List.mem_append, List.mem_singleton, Bool.or_eq_true]
          rw [eq_comm (a := y)]
        simp only [go_sem, simprocAttr, qk]
        refine plain_ok (N := 3000) (elem_does (R := IntG) (l := s.gone) (m := k) rfl tySlice27 tySize3 rfl rfl (dk rfl) rfl hy (fun G hG => (hP.mono (hG.le G1 (by simp))).gone)) (QOk_body _ _ _) (by first | exact .inl rfl | exact .inr ⟨_, _, rfl, rfl⟩) ?_
        rintro _ ⟨g7, o7, cs, G7, hcl7, hcs, rfl⟩
        obtain rfl := hcs
        simp only [go_sem, simprocAttr]
        refine ⟨by omega, ?_⟩
        refine again_ok (k + 1) hltk (by omega) (by rw [e9]; simp only [go_sem, simprocAttr]; simp)
      have hkl : k = s.gone.length := by omega
      subst hkl
      have qk : decide ((s.gone.length : Int) < (s.gone.length : Int)) = false := decide_eq_false (by omega)
      rw [List.take_length]
      simp only [go_sem, simprocAttr, qk]
      have hla := livesS_at s (show i < 8 by omega)
      by_cases hOk : halfOk s i n = true
      · have hOk2 := hOk
        unfold halfOk at hOk2
        simp only [Bool.and_eq_true, decide_eq_true_eq, Bool.not_eq_true', decide_eq_false_iff_not] at hOk2
        obtain ⟨o1, o2, o3⟩ := hOk2
        rw [if_pos hOk] at hL
        subst hL
        have q3 : decide (n = 0) = false := decide_eq_false (by omega)
        have q4 : decide ((i : Int) ∈ s.gone) = false := decide_eq_false o2
        have q5 : decide (n < 2 * liveL (i : Int) s.vers) = false := decide_eq_false (by omega)
        simp only at hfi hil ⊢
        obtain ⟨ids, hids⟩ : ∃ ids, ids = idsL (halfB (i : Int)) s.vers := ⟨_, rfl⟩
        have hts : ∀ x ∈ s.vers, ∀ cc : Int, tsum x.id cc ids = if halfB (i : Int) x = true then cc else 0 := fun x hx cc => by rw [hids]; exact tsum_ids s.vers hgd.ids x hx
        have hidl : ids.length ≤ s.vers.length := by rw [hids]; exact idsL_len _ _
        rw [← hids] at hfi hil ⊢
        have htl := half_live hgd (i : Int)
        simp only [go_sem, simprocAttr, q3, q4]
        refine plain_ok (N := 3000) (elem_does (R := IntG) (l := livesS s 8) (m := i) rfl tySlice27 tySize3 rfl rfl (dk rfl) rfl hla (fun G hG => hfv.mono (hG.le G4 (by simp)))) (QOk_body _ _ _) (by first | exact .inl rfl | exact .inr ⟨_, _, rfl, rfl⟩) ?_
        rintro _ ⟨g7, o7, cs, G7, hcl7, hcs, rfl⟩
        obtain rfl := hcs
        simp only [go_sem, simprocAttr, q5]
        refine ⟨by omega, ?_⟩
        refine loop_ok (N := 3000) (ι := Nat) (fun j => ⟨[(5, .c (.p 0 g1 0)), (9, .c (.v (.slice Af (livesS s 8).length cf))), (11, .c (.v (.int .i64 (i : Int)))), (12, .c (.v (.slice Ai ids.length ci))), (13, .c (.v (.int .i64 0))), (14, .c (.v (.int .i64 (i : Int)))), (19, .c (.v (.int .i64 (tot (halfB (i : Int)) (s.vers.take j))))), (100, .c (.v (.slice A2 s.vers.length c2))), (101, .c (.v (.int .i64 (s.vers.length : Int)))), (102, .c (.v (.int .i64 (j : Int))))],
            [⟨0, g1, 29, [.v (.int .i64 s.next), .v (.int .i64 s.clock), .v (.slice A1 s.bkts.length c1), .v (.slice A2 s.vers.length c2), .v (.slice A3 s.upls.length c3), .v (.slice A4 s.queue.length c4), .v (.slice A5 s.gone.length c5)]⟩], [], [], [G5, G4, G1, ⟨Non, w⟩], 1⟩)
          (fun j => j ≤ s.vers.length)
          (fun j => s.vers.length - j) (QOk_body _ _ _) 0 (Nat.zero_le _) (by simp only [go_sem, simprocAttr]; simp [tot]) ?_
        rintro j hj
        by_cases hltj : j < s.vers.length
        · have qj : decide ((j : Int) < (s.vers.length : Int)) = true := decide_eq_true (by omega)
          obtain ⟨x, hx⟩ : ∃ x, s.vers[j]? = some x := ⟨_, List.getElem?_eq_getElem hltj⟩
          have hxm := List.mem_of_getElem? hx
          have hxs := hgd.size hxm
          have hsx := hts x hxm (6 + x.size)
          have htt := tot_succ (p := halfB (i : Int)) hx
          have htb := tot_bd (halfB (i : Int)) (s.vers.take j) (fun x hx => hgd.size (List.mem_of_mem_take hx))
          rw [List.length_take] at htb
          simp only [go_sem, simprocAttr, qj]
          refine plain_ok (N := 3000) (elem_does (R := VerG) (l := s.vers) (m := j) rfl tySlice24 tySize44 rfl rfl (dk rfl) rfl hx (fun G hG => Sq.mono hP.vers verG_mono (hG.le G1 (by simp)))) (QOk_body _ _ _) (by first | exact .inl rfl | exact .inr ⟨_, _, rfl, rfl⟩) ?_
          rintro _ ⟨g8, o8, cs, G8, hcl8, ⟨svx, rfl, hsv, hk1, hk2⟩, rfl⟩
          obtain ⟨Ax, cx, rfl, _⟩ := Sq.form hsv
          simp only [go_sem, simprocAttr, verV]
          intro g9
          obtain ⟨T0, hT0⟩ : ∃ T0, T0 = tot (halfB (i : Int)) (s.vers.take j) := ⟨_, rfl⟩
          rw [← hT0] at htt htb ⊢
          refine loop_ok (N := 3000) (ι := Nat) (fun k => ⟨[(5, .c (.p 0 g1 0)), (9, .c (.v (.slice Af (livesS s 8).length cf))), (11, .c (.v (.int .i64 (i : Int)))), (12, .c (.v (.slice Ai ids.length ci))), (13, .c (.v (.int .i64 0))), (14, .c (.v (.int .i64 (i : Int)))), (19, .c (.v (.int .i64 (T0 + tsum x.id (6 + x.size) (ids.take k))))), (100, .c (.v (.slice A2 s.vers.length c2))), (101, .c (.v (.int .i64 (s.vers.length : Int)))), (102, .c (.v (.int .i64 (j : Int)))), (21, .c (.p 2 g9 0)), (106, .c (.v (.slice Ai ids.length ci))), (107, .c (.v (.int .i64 (ids.length : Int)))), (108, .c (.v (.int .i64 (k : Int))))],
              [⟨2, g9, 44, (verV x (.slice Ax x.secs.length cx)).map .v⟩, ⟨0, g1, 29, [.v (.int .i64 s.next), .v (.int .i64 s.clock), .v (.slice A1 s.bkts.length c1), .v (.slice A2 s.vers.length c2), .v (.slice A3 s.upls.length c3), .v (.slice A4 s.queue.length c4), .v (.slice A5 s.gone.length c5)]⟩], [], [], [G5, G4, G1, ⟨Non, w⟩], 3⟩)
            (fun k => k ≤ ids.length)
            (fun k => ids.length - k) (QOk_body _ _ _) 0 (Nat.zero_le _) (by simp only [go_sem, simprocAttr]; simp [tsum, verV]) ?_
          rintro k hk
          by_cases hltk : k < ids.length
          · have qk : decide ((k : Int) < (ids.length : Int)) = true := decide_eq_true (by omega)
            obtain ⟨y, hy⟩ : ∃ y, ids[k]? = some y := ⟨_, List.getElem?_eq_getElem hltk⟩
            have hss := tsum_succ (k := x.id) (c := 6 + x.size) hy
            have hsb := tsum_bd (k := x.id) (c := 6 + x.size) (by omega) (by omega) (ids.take k)
            rw [List.length_take] at hsb
            simp only [go_sem, simprocAttr, qk]
            refine plain_ok (N := 3000) (elem_does (R := IntG) (l := ids) (m := k) rfl tySlice27 tySize3 rfl rfl (dk rfl) rfl hy (fun G hG => hfi.mono (hG.le G5 (by simp)))) (QOk_body _ _ _) (by first | exact .inl rfl | exact .inr ⟨_, _, rfl, rfl⟩) ?_
            rintro _ ⟨g10, o10, cs, G10, hcl10, hcs, rfl⟩
            obtain rfl := hcs
            simp only [go_sem, simprocAttr, verV, List.map_cons, List.map_nil]
            refine Wb_mk (fun hc => ?_) (fun hc => ?_)
            · rw [if_pos (of_decide_eq_true hc)] at hss
              refine ⟨by omega, ?_⟩
              refine ⟨by omega, ?_⟩
              refine ⟨by omega, ?_⟩
              refine again_ok (k + 1) hltk (by omega) (by rw [hss, Int.add_assoc]; simp only [go_sem, simprocAttr, verV, List.map_cons, List.map_nil]; simp)
            · rw [if_neg (of_decide_eq_false hc), Int.add_zero] at hss
              refine ⟨by omega, ?_⟩
              refine again_ok (k + 1) hltk (by omega) (by rw [hss]; simp only [go_sem, simprocAttr, verV, List.map_cons, List.map_nil]; simp)
          have hkl : k = ids.length := by omega
          subst hkl
          have qk : decide ((ids.length : Int) < (ids.length : Int)) = false := decide_eq_false (by omega)
          rw [List.take_length, hsx, ← htt]
          simp only [go_sem, simprocAttr, qk]
          refine ⟨by omega, ?_⟩
          refine again_ok (j + 1) hltj (by omega) (by simp only [go_sem, simprocAttr]; simp)
        have hjl : j = s.vers.length := by omega
        subst hjl
        have qj : decide ((s.vers.length : Int) < (s.vers.length : Int)) = false := decide_eq_false (by omega)
        rw [List.take_length, htl]
        have q6 : decide ((i : Int) = (i : Int)) = true := decide_eq_true rfl
        have q7 : decide (liveL (i : Int) s.vers = liveL (i : Int) s.vers) = true := decide_eq_true rfl
        simp only [go_sem, simprocAttr, qj, q6]
        refine plain_ok (N := 3000) (elem_does (R := IntG) (l := livesS s 8) (m := i) rfl tySlice27 tySize3 rfl rfl (dk rfl) rfl hla (fun G hG => hfv.mono (hG.le G4 (by simp)))) (QOk_body _ _ _) (by first | exact .inl rfl | exact .inr ⟨_, _, rfl, rfl⟩) ?_
        rintro _ ⟨g8, o8, cs, G8, hcl8, hcs, rfl⟩
        obtain rfl := hcs
        simp only [go_sem, simprocAttr, q7]
        refine fin_ret (G := ⟨Non, w⟩) Try.results17 ?_
        simp only [go_sem, simprocAttr, q7]
        intro aa w' _ hle
        rfl
      · have hNo := bool_no hOk
        rw [if_neg hOk] at hL
        by_cases z3 : n = 0
        · have q3 : decide (n = 0) = true := decide_eq_true z3
          simp only [go_sem, simprocAttr, q3]
          refine ⟨by omega, ?_⟩
          refine again_ok (i + 1) ⟨hlti, hL⟩ (by omega) (by simp only [go_sem, simprocAttr]; simp)
        have q3 : decide (n = 0) = false := decide_eq_false z3
        by_cases z4 : (i : Int) ∈ s.gone
        · have q4 : decide ((i : Int) ∈ s.gone) = true := decide_eq_true z4
          simp only [go_sem, simprocAttr, q3, q4]
          refine ⟨by omega, ?_⟩
          refine again_ok (i + 1) ⟨hlti, hL⟩ (by omega) (by simp only [go_sem, simprocAttr]; simp)
        have q4 : decide ((i : Int) ∈ s.gone) = false := decide_eq_false z4
        have q5 : decide (n < 2 * liveL (i : Int) s.vers) = true := by
          unfold halfOk at hNo
          rw [q4, decide_eq_true (show 0 < n by omega)] at hNo
          have := of_decide_eq_false (show decide (2 * liveL (i : Int) s.vers ≤ n) = false by simpa using hNo)
          exact decide_eq_true (by omega)
        simp only [go_sem, simprocAttr, q3, q4]
        refine plain_ok (N := 3000) (elem_does (R := IntG) (l := livesS s 8) (m := i) rfl tySlice27 tySize3 rfl rfl (dk rfl) rfl hla (fun G hG => hfv.mono (hG.le G4 (by simp)))) (QOk_body _ _ _) (by first | exact .inl rfl | exact .inr ⟨_, _, rfl, rfl⟩) ?_
        rintro _ ⟨g7, o7, cs, G7, hcl7, hcs, rfl⟩
        obtain rfl := hcs
        simp only [go_sem, simprocAttr, q5]
        refine ⟨by omega, ?_⟩
        refine ⟨by omega, ?_⟩
        refine again_ok (i + 1) ⟨hlti, hL⟩ (by omega) (by simp only [go_sem, simprocAttr]; simp)
    have him : i = m.length := by omega
    subst him
    have qi : decide ((m.length : Int) < (m.length : Int)) = false := decide_eq_false (by omega)
    rw [List.drop_length] at hL
    subst hL
    simp only [halfL, List.length_nil] at hfi hil ⊢
    simp only [go_sem, simprocAttr, qi]
    refine draw_ok (N := 3000) (.take 0 (.alt 1 (.alt 2 (.take 3 (.take 4 (.take 5 (.take 6 (.take 7 (.take 8 (.take 9 .done))))))) .last) .last)) [] (QOk_body _ _ _) follows_mixed (by kernel_rfl) (by kernel_rfl) ?_
    simp only [go_sem, simprocAttr]
    refine any_ok2 (N := 3000) (make_does 9 rfl tySlice27 infoI rfl (by omega) rfl rfl (by omega) (dk rfl)) (QOk_body _ _ _) rfl (by first | exact .inl rfl | exact .inr ⟨_, _, rfl, rfl⟩) (by intro _ hK; first | (obtain ⟨_, _, _, _, rfl⟩ := hK; exact ⟨rfl, fun _ h => h⟩) | (obtain ⟨_, _, rfl⟩ := hK; exact ⟨rfl, fun _ h => h⟩) | (obtain ⟨_, _, _, _, _, _, rfl⟩ := hK; exact ⟨rfl, fun _ h => List.mem_cons_of_mem _ h⟩) | (obtain ⟨_, _, _, _, _, _, _, rfl⟩ := hK; exact ⟨rfl, fun _ h => List.mem_cons_of_mem _ h⟩) | (obtain rfl := hK; exact ⟨rfl, fun _ h => h⟩)) ?_
    rintro _ ⟨An, G9, hs9, hle9, rfl⟩
    have hN : IntsG G9 (.slice An 9 9) (List.replicate 9 0) := ints_of hs9
    simp only [go_sem, simprocAttr]
    refine anyc_ok (N := 3000) (call_does (fun y G => ∃ fv, y = .tuple #[.int .i64 0, fv, .int .i64 2] ∧ IntsG G fv []) rfl rfl (by kernel_rfl) rfl (dk rfl) (fun G hG => by have h := half_does hG.wf (hP.mono (hG.le G1 (by simp))).g hok (hN.mono (hG.le G9 (by simp))); rw [half_nine] at h; exact h)) (QOk_body _ _ _) rfl (by first | exact .inl rfl | exact .inr ⟨_, _, rfl, rfl⟩) ?_
    rintro _ ⟨_, G10, ⟨fw, rfl, hfw⟩, hn10, rfl⟩
    clear hn10
    obtain ⟨Ax, cx, rfl, _⟩ := Sq.form hfw
    simp only [go_sem, simprocAttr]
    refine fin_ret (G := ⟨Non, w⟩) Try.results17 ?_
    simp only [go_sem, simprocAttr]
    intro aa w' _ hle
    rfl
  · simp only [go_sem, simprocAttr, q1]
    refine read_ok (R1 := []) rfl (fun GM hleM hslM => ?_) (fun _ _ q => q) (by show (1 : Nat) ≠ 0; decide)
    have hM : IntsG GM (.slice A m.length c) m := ints_of hslM
    simp only [St.seen, St.rowsTo, List.append_nil]
    refine plain_ok (N := 3000) (call_does (fun y G => ∃ fv, y = .tuple #[fv, .int .i64 0] ∧ IntsG G fv (livesS s 8)) rfl rfl (by kernel_rfl) rfl (dk rfl) (fun G hG => lives_does hG.wf (hP.mono (hG.le G1 (by simp))).g hok)) (QOk_body _ _ _) (by first | exact .inl rfl | exact .inr ⟨_, _, rfl, rfl⟩) ?_
    rintro _ ⟨_, G4, ⟨fv, rfl, hfv⟩, hn4, rfl⟩
    clear hn4
    obtain ⟨Af, cf, rfl, hfl, _⟩ := Sq.form hfv
    have hl8 := livesS_len s 8
    simp only [go_sem, simprocAttr]
    refine plain_ok (N := 3000) (call_does (fun y G => ∃ fv, y = .tuple #[.int .i64 (halfS s m).1, fv, .int .i64 (halfS s m).2.2] ∧ IntsG G fv (halfS s m).2.1) rfl rfl (by kernel_rfl) rfl (dk rfl) (fun G hG => half_does hG.wf (hP.mono (hG.le G1 (by simp))).g hok (hM.mono (hG.le GM (by simp))))) (QOk_body _ _ _) (by first | exact .inl rfl | exact .inr ⟨_, _, rfl, rfl⟩) ?_
    rintro _ ⟨_, G5, ⟨fi, rfl, hfi⟩, hn5, rfl⟩
    clear hn5
    have hHS : halfS s m = halfL s 0 m := by
      unfold halfS
      rw [if_neg]
      simp only [Bool.or_eq_true, decide_eq_true_eq, List.any_eq_true, badN, not_or, not_exists, not_and]
      exact ⟨by omega, fun x hx => by have := hmx x hx; omega⟩
    obtain ⟨r, hr⟩ : ∃ r, r = halfS s m := ⟨_, rfl⟩
    rw [← hr] at hfi hHS ⊢
    clear hr
    obtain ⟨Ai, ci, rfl, hil, _⟩ := Sq.form hfi
    obtain ⟨z1, z2⟩ : ∃ z1 z2, z1 = r.1 ∧ z2 = r.2.2 := ⟨_, _, rfl, rfl⟩
    simp only [go_sem, simprocAttr]
    refine loop_ok (N := 3000) (ι := Nat) (fun i => ⟨[(5, .c (.p 0 g1 0)), (9, .c (.v (.slice Af (livesS s 8).length cf))), (11, .c (.v (.int .i64 r.1))), (12, .c (.v (.slice Ai r.2.1.length ci))), (13, .c (.v (.int .i64 r.2.2))), (64, .c (.v (.slice A m.length c))), (65, .c (.v (.int .i64 (m.length : Int)))), (66, .c (.v (.int .i64 (i : Int))))],
        [⟨0, g1, 29, [.v (.int .i64 s.next), .v (.int .i64 s.clock), .v (.slice A1 s.bkts.length c1), .v (.slice A2 s.vers.length c2), .v (.slice A3 s.upls.length c3), .v (.slice A4 s.queue.length c4), .v (.slice A5 s.gone.length c5)]⟩], [], [], [G5, G4, GM, G1, ⟨Non, w⟩], 1⟩)
      (fun i => i ≤ m.length ∧ r = halfL s i (m.drop i))
      (fun i => m.length - i) (QOk_body _ _ _) 0 ⟨Nat.zero_le _, hHS⟩ (by simp only [go_sem, simprocAttr]; simp) ?_
    rintro i ⟨hi, hL⟩
    by_cases hlti : i < m.length
    · have qi : decide ((i : Int) < (m.length : Int)) = true := decide_eq_true (by omega)
      obtain ⟨n, hn⟩ : ∃ n, m[i]? = some n := ⟨_, List.getElem?_eq_getElem hlti⟩
      have hnb := hmx n (List.mem_of_getElem? hn)
      rw [drop_at hn, halfL] at hL
      have hbd := liveL_bd (i : Int) s.vers (fun x hx => hgd.size hx)
      simp only [go_sem, simprocAttr, qi]
      refine plain_ok (N := 3000) (elem_does (R := IntG) (l := m) (m := i) rfl tySlice27 tySize3 rfl rfl (dk rfl) rfl hn (fun G hG => hM.mono (hG.le GM (by simp)))) (QOk_body _ _ _) (by first | exact .inl rfl | exact .inr ⟨_, _, rfl, rfl⟩) ?_
      rintro _ ⟨g6, o6, cs, G6, hcl6, hcs, rfl⟩
      obtain rfl := hcs
      simp only [go_sem, simprocAttr]
      refine loop_ok (N := 3000) (ι := Nat) (fun k => ⟨[(5, .c (.p 0 g1 0)), (9, .c (.v (.slice Af (livesS s 8).length cf))), (11, .c (.v (.int .i64 r.1))), (12, .c (.v (.slice Ai r.2.1.length ci))), (13, .c (.v (.int .i64 r.2.2))), (64, .c (.v (.slice A m.length c))), (65, .c (.v (.int .i64 (m.length : Int)))), (66, .c (.v (.int .i64 (i : Int)))), (14, .c (.v (.int .i64 (i : Int)))), (15, .c (.v (.int .i64 n))), (16, .c (.v (.bool (decide ((i : Int) ∈ s.gone.take k))))), (72, .c (.v (.slice A5 s.gone.length c5))), (73, .c (.v (.int .i64 (s.gone.length : Int)))), (74, .c (.v (.int .i64 (k : Int))))],
          [⟨0, g1, 29, [.v (.int .i64 s.next), .v (.int .i64 s.clock), .v (.slice A1 s.bkts.length c1), .v (.slice A2 s.vers.length c2), .v (.slice A3 s.upls.length c3), .v (.slice A4 s.queue.length c4), .v (.slice A5 s.gone.length c5)]⟩], [], [], [G6, G5, G4, GM, G1, ⟨Non, w⟩], 2⟩)
        (fun k => k ≤ s.gone.length)
        (fun k => s.gone.length - k) (QOk_body _ _ _) 0 (Nat.zero_le _) (by simp only [go_sem, simprocAttr]; simp) ?_
      rintro k hk
      by_cases hltk : k < s.gone.length
      · have qk : decide ((k : Int) < (s.gone.length : Int)) = true := decide_eq_true (by omega)
        obtain ⟨y, hy⟩ : ∃ y, s.gone[k]? = some y := ⟨_, List.getElem?_eq_getElem hltk⟩
        have e9 : decide ((i : Int) ∈ s.gone.take (k + 1)) = (decide ((i : Int) ∈ s.gone.take k) || decide (y = (i : Int))) := by
          rw [List.take_add_one, hy, Bool.eq_iff_iff]
          simp only [Option.toList_some, decide_eq_true_eq, List.mem_append, List.mem_singleton, Bool.or_eq_true]
          rw [eq_comm (a := y)]
        simp only [go_sem, simprocAttr, qk]
        refine plain_ok (N := 3000) (elem_does (R := IntG) (l := s.gone) (m := k) rfl tySlice27 tySize3 rfl rfl (dk rfl) rfl hy (fun G hG => (hP.mono (hG.le G1 (by simp))).gone)) (QOk_body _ _ _) (by first | exact .inl rfl | exact .inr ⟨_, _, rfl, rfl⟩) ?_
        rintro _ ⟨g7, o7, cs, G7, hcl7, hcs, rfl⟩
        obtain rfl := hcs
        simp only [go_sem, simprocAttr]
        refine ⟨by omega, ?_⟩
        refine again_ok (k + 1) hltk (by omega) (by rw [e9]; simp only [go_sem, simprocAttr]; simp)
      have hkl : k = s.gone.length := by omega
      subst hkl
      have qk : decide ((s.gone.length : Int) < (s.gone.length : Int)) = false := decide_eq_false (by omega)
      rw [List.take_length]
      simp only [go_sem, simprocAttr, qk]
      have hla := livesS_at s (show i < 8 by omega)
      by_cases hOk : halfOk s i n = true
      · have hOk2 := hOk
        unfold halfOk at hOk2
        simp only [Bool.and_eq_true, decide_eq_true_eq, Bool.not_eq_true', decide_eq_false_iff_not] at hOk2
        obtain ⟨o1, o2, o3⟩ := hOk2
        rw [if_pos hOk] at hL
        subst hL
        have q3 : decide (n = 0) = false := decide_eq_false (by omega)
        have q4 : decide ((i : Int) ∈ s.gone) = false := decide_eq_false o2
        have q5 : decide (n < 2 * liveL (i : Int) s.vers) = false := decide_eq_false (by omega)
        simp only at hfi hil ⊢
        obtain ⟨ids, hids⟩ : ∃ ids, ids = idsL (halfB (i : Int)) s.vers := ⟨_, rfl⟩
        have hts : ∀ x ∈ s.vers, ∀ cc : Int, tsum x.id cc ids = if halfB (i : Int) x = true then cc else 0 := fun x hx cc => by rw [hids]; exact tsum_ids s.vers hgd.ids x hx
        have hidl : ids.length ≤ s.vers.length := by rw [hids]; exact idsL_len _ _
        rw [← hids] at hfi hil ⊢
        have htl := half_live hgd (i : Int)
        simp only [go_sem, simprocAttr, q3, q4]
        refine plain_ok (N := 3000) (elem_does (R := IntG) (l := livesS s 8) (m := i) rfl tySlice27 tySize3 rfl rfl (dk rfl) rfl hla (fun G hG => hfv.mono (hG.le G4 (by simp)))) (QOk_body _ _ _) (by first | exact .inl rfl | exact .inr ⟨_, _, rfl, rfl⟩) ?_
        rintro _ ⟨g7, o7, cs, G7, hcl7, hcs, rfl⟩
        obtain rfl := hcs
        simp only [go_sem, simprocAttr, q5]
        refine ⟨by omega, ?_⟩
        refine loop_ok (N := 3000) (ι := Nat) (fun j => ⟨[(5, .c (.p 0 g1 0)), (9, .c (.v (.slice Af (livesS s 8).length cf))), (11, .c (.v (.int .i64 (i : Int)))), (12, .c (.v (.slice Ai ids.length ci))), (13, .c (.v (.int .i64 0))), (14, .c (.v (.int .i64 (i : Int)))), (19, .c (.v (.int .i64 (tot (halfB (i : Int)) (s.vers.take j))))), (100, .c (.v (.slice A2 s.vers.length c2))), (101, .c (.v (.int .i64 (s.vers.length : Int)))), (102, .c (.v (.int .i64 (j : Int))))],
            [⟨0, g1, 29, [.v (.int .i64 s.next), .v (.int .i64 s.clock), .v (.slice A1 s.bkts.length c1), .v (.slice A2 s.vers.length c2), .v (.slice A3 s.upls.length c3), .v (.slice A4 s.queue.length c4), .v (.slice A5 s.gone.length c5)]⟩], [], [], [G5, G4, G1, ⟨Non, w⟩], 1⟩)
          (fun j => j ≤ s.vers.length)
          (fun j => s.vers.length - j) (QOk_body _ _ _) 0 (Nat.zero_le _) (by simp only [go_sem, simprocAttr]; simp [tot]) ?_
        rintro j hj
        by_cases hltj : j < s.vers.length
        · have qj : decide ((j : Int) < (s.vers.length : Int)) = true := decide_eq_true (by omega)
          obtain ⟨x, hx⟩ : ∃ x, s.vers[j]? = some x := ⟨_, List.getElem?_eq_getElem hltj⟩
          have hxm := List.mem_of_getElem? hx
          have hxs := hgd.size hxm
          have hsx := hts x hxm (6 + x.size)
          have htt := tot_succ (p := halfB (i : Int)) hx
          have htb := tot_bd (halfB (i : Int)) (s.vers.take j) (fun x hx => hgd.size (List.mem_of_mem_take hx))
          rw [List.length_take] at htb
          simp only [go_sem, simprocAttr, qj]
          refine plain_ok (N := 3000) (elem_does (R := VerG) (l := s.vers) (m := j) rfl tySlice24 tySize44 rfl rfl (dk rfl) rfl hx (fun G hG => Sq.mono hP.vers verG_mono (hG.le G1 (by simp)))) (QOk_body _ _ _) (by first | exact .inl rfl | exact .inr ⟨_, _, rfl, rfl⟩) ?_
          rintro _ ⟨g8, o8, cs, G8, hcl8, ⟨svx, rfl, hsv, hk1, hk2⟩, rfl⟩
          obtain ⟨Ax, cx, rfl, _⟩ := Sq.form hsv
          simp only [go_sem, simprocAttr, verV]
          intro g9
          obtain ⟨T0, hT0⟩ : ∃ T0, T0 = tot (halfB (i : Int)) (s.vers.take j) := ⟨_, rfl⟩
          rw [← hT0] at htt htb ⊢
          refine loop_ok (N := 3000) (ι := Nat) (fun k => ⟨[(5, .c (.p 0 g1 0)), (9, .c (.v (.slice Af (livesS s 8).length cf))), (11, .c (.v (.int .i64 (i : Int)))), (12, .c (.v (.slice Ai ids.length ci))), (13, .c (.v (.int .i64 0))), (14, .c (.v (.int .i64 (i : Int)))), (19, .c (.v (.int .i64 (T0 + tsum x.id (6 + x.size) (ids.take k))))), (100, .c (.v (.slice A2 s.vers.length c2))), (101, .c (.v (.int .i64 (s.vers.length : Int)))), (102, .c (.v (.int .i64 (j : Int)))), (21, .c (.p 2 g9 0)), (106, .c (.v (.slice Ai ids.length ci))), (107, .c (.v (.int .i64 (ids.length : Int)))), (108, .c (.v (.int .i64 (k : Int))))],
              [⟨2, g9, 44, (verV x (.slice Ax x.secs.length cx)).map .v⟩, ⟨0, g1, 29, [.v (.int .i64 s.next), .v (.int .i64 s.clock), .v (.slice A1 s.bkts.length c1), .v (.slice A2 s.vers.length c2), .v (.slice A3 s.upls.length c3), .v (.slice A4 s.queue.length c4), .v (.slice A5 s.gone.length c5)]⟩], [], [], [G5, G4, G1, ⟨Non, w⟩], 3⟩)
            (fun k => k ≤ ids.length)
            (fun k => ids.length - k) (QOk_body _ _ _) 0 (Nat.zero_le _) (by simp only [go_sem, simprocAttr]; simp [tsum, verV]) ?_
          rintro k hk
          by_cases hltk : k < ids.length
          · have qk : decide ((k : Int) < (ids.length : Int)) = true := decide_eq_true (by omega)
            obtain ⟨y, hy⟩ : ∃ y, ids[k]? = some y := ⟨_, List.getElem?_eq_getElem hltk⟩
            have hss := tsum_succ (k := x.id) (c := 6 + x.size) hy
            have hsb := tsum_bd (k := x.id) (c := 6 + x.size) (by omega) (by omega) (ids.take k)
            rw [List.length_take] at hsb
            simp only [go_sem, simprocAttr, qk]
            refine plain_ok (N := 3000) (elem_does (R := IntG) (l := ids) (m := k) rfl tySlice27 tySize3 rfl rfl (dk rfl) rfl hy (fun G hG => hfi.mono (hG.le G5 (by simp)))) (QOk_body _ _ _) (by first | exact .inl rfl | exact .inr ⟨_, _, rfl, rfl⟩) ?_
            rintro _ ⟨g10, o10, cs, G10, hcl10, hcs, rfl⟩
            obtain rfl := hcs
            simp only [go_sem, simprocAttr, verV, List.map_cons, List.map_nil]
            refine Wb_mk (fun hc => ?_) (fun hc => ?_)
            · rw [if_pos (of_decide_eq_true hc)] at hss
              refine ⟨by omega, ?_⟩
              refine ⟨by omega, ?_⟩
              refine ⟨by omega, ?_⟩
              refine again_ok (k + 1) hltk (by omega) (by rw [hss, Int.add_assoc]; simp only [go_sem, simprocAttr, verV, List.map_cons, List.map_nil]; simp)
            · rw [if_neg (of_decide_eq_false hc), Int.add_zero] at hss
              refine ⟨by omega, ?_⟩
              refine again_ok (k + 1) hltk (by omega) (by rw [hss]; simp only [go_sem, simprocAttr, verV, List.map_cons, List.map_nil]; simp)
          have hkl : k = ids.length := by omega
          subst hkl
          have qk : decide ((ids.length : Int) < (ids.length : Int)) = false := decide_eq_false (by omega)
          rw [List.take_length, hsx, ← htt]
          simp only [go_sem, simprocAttr, qk]
          refine ⟨by omega, ?_⟩
          refine again_ok (j + 1) hltj (by omega) (by simp only [go_sem, simprocAttr]; simp)
        have hjl : j = s.vers.length := by omega
        subst hjl
        have qj : decide ((s.vers.length : Int) < (s.vers.length : Int)) = false := decide_eq_false (by omega)
        rw [List.take_length, htl]
        have q6 : decide ((i : Int) = (i : Int)) = true := decide_eq_true rfl
        have q7 : decide (liveL (i : Int) s.vers = liveL (i : Int) s.vers) = true := decide_eq_true rfl
        simp only [go_sem, simprocAttr, qj, q6]
        refine plain_ok (N := 3000) (elem_does (R := IntG) (l := livesS s 8) (m := i) rfl tySlice27 tySize3 rfl rfl (dk rfl) rfl hla (fun G hG => hfv.mono (hG.le G4 (by simp)))) (QOk_body _ _ _) (by first | exact .inl rfl | exact .inr ⟨_, _, rfl, rfl⟩) ?_
        rintro _ ⟨g8, o8, cs, G8, hcl8, hcs, rfl⟩
        obtain rfl := hcs
        simp only [go_sem, simprocAttr, q7]
        refine fin_ret (G := ⟨Non, w⟩) Try.results17 ?_
        simp only [go_sem, simprocAttr, q7]
        intro aa w' _ hle
        rfl
      · have hNo := bool_no hOk
        rw [if_neg hOk] at hL
        by_cases z3 : n = 0
        · have q3 : decide (n = 0) = true := decide_eq_true z3
          simp only [go_sem, simprocAttr, q3]
          refine ⟨by omega, ?_⟩
          refine again_ok (i + 1) ⟨hlti, hL⟩ (by omega) (by simp only [go_sem, simprocAttr]; simp)
        have q3 : decide (n = 0) = false := decide_eq_false z3
        by_cases z4 : (i : Int) ∈ s.gone
        · have q4 : decide ((i : Int) ∈ s.gone) = true := decide_eq_true z4
          simp only [go_sem, simprocAttr, q3, q4]
          refine ⟨by omega, ?_⟩
          refine again_ok (i + 1) ⟨hlti, hL⟩ (by omega) (by simp only [go_sem, simprocAttr]; simp)
        have q4 : decide ((i : Int) ∈ s.gone) = false := decide_eq_false z4
        have q5 : decide (n < 2 * liveL (i : Int) s.vers) = true := by
          unfold halfOk at hNo
          rw [q4, decide_eq_true (show 0 < n by omega)] at hNo
          have := of_decide_eq_false (show decide (2 * liveL (i : Int) s.vers ≤ n) = false by simpa using hNo)
          exact decide_eq_true (by omega)
        simp only [go_sem, simprocAttr, q3, q4]
        refine plain_ok (N := 3000) (elem_does (R := IntG) (l := livesS s 8) (m := i) rfl tySlice27 tySize3 rfl rfl (dk rfl) rfl hla (fun G hG => hfv.mono (hG.le G4 (by simp)))) (QOk_body _ _ _) (by first | exact .inl rfl | exact .inr ⟨_, _, rfl, rfl⟩) ?_
        rintro _ ⟨g7, o7, cs, G7, hcl7, hcs, rfl⟩
        obtain rfl := hcs
        simp only [go_sem, simprocAttr, q5]
        refine ⟨by omega, ?_⟩
        refine ⟨by omega, ?_⟩
        refine again_ok (i + 1) ⟨hlti, hL⟩ (by omega) (by simp only [go_sem, simprocAttr]; simp)
    have him : i = m.length := by omega
    subst him
    have qi : decide ((m.length : Int) < (m.length : Int)) = false := decide_eq_false (by omega)
    rw [List.drop_length] at hL
    subst hL
    simp only [halfL, List.length_nil] at hfi hil ⊢
    simp only [go_sem, simprocAttr, qi]
    refine draw_ok (N := 3000) (.take 0 (.alt 1 (.alt 2 (.take 3 (.take 4 (.take 5 (.take 6 (.take 7 (.take 8 (.take 9 .done))))))) .last) .last)) [] (QOk_body _ _ _) follows_mixed (by kernel_rfl) (by kernel_rfl) ?_
    simp only [go_sem, simprocAttr]
    refine any_ok2 (N := 3000) (make_does 9 rfl tySlice27 infoI rfl (by omega) rfl rfl (by omega) (dk rfl)) (QOk_body _ _ _) rfl (by first | exact .inl rfl | exact .inr ⟨_, _, rfl, rfl⟩) (by intro _ hK; first | (obtain ⟨_, _, _, _, rfl⟩ := hK; exact ⟨rfl, fun _ h => h⟩) | (obtain ⟨_, _, rfl⟩ := hK; exact ⟨rfl, fun _ h => h⟩) | (obtain ⟨_, _, _, _, _, _, rfl⟩ := hK; exact ⟨rfl, fun _ h => List.mem_cons_of_mem _ h⟩) | (obtain ⟨_, _, _, _, _, _, _, rfl⟩ := hK; exact ⟨rfl, fun _ h => List.mem_cons_of_mem _ h⟩) | (obtain rfl := hK; exact ⟨rfl, fun _ h => h⟩)) ?_
    rintro _ ⟨An, G9, hs9, hle9, rfl⟩
    have hN : IntsG G9 (.slice An 9 9) (List.replicate 9 0) := ints_of hs9
    simp only [go_sem, simprocAttr]
    refine anyc_ok (N := 3000) (call_does (fun y G => ∃ fv, y = .tuple #[.int .i64 0, fv, .int .i64 2] ∧ IntsG G fv []) rfl rfl (by kernel_rfl) rfl (dk rfl) (fun G hG => by have h := half_does hG.wf (hP.mono (hG.le G1 (by simp))).g hok (hN.mono (hG.le G9 (by simp))); rw [half_nine] at h; exact h)) (QOk_body _ _ _) rfl (by first | exact .inl rfl | exact .inr ⟨_, _, rfl, rfl⟩) ?_
    rintro _ ⟨_, G10, ⟨fw, rfl, hfw⟩, hn10, rfl⟩
    clear hn10
    obtain ⟨Ax, cx, rfl, _⟩ := Sq.form hfw
    simp only [go_sem, simprocAttr]
    refine fin_ret (G := ⟨Non, w⟩) Try.results17 ?_
    simp only [go_sem, simprocAttr]
    intro aa w' _ hle
    rfl
theorem halfDead_walk {w : World} (v0 : Value) (l0 : List Raw) (h0 : RawsG ⟨Non, w⟩ v0 l0) (v1 : Value) (l1 : List Int) (h1 : ScR (fun (_ : GW) (x : Int) cs => cs = [.int .i64 x] ∧ i64 x) 1 ⟨Non, w⟩ v1 l1) : Calls Try.prog 17 #[v0, v1] w fun e w' => e = .returned (.bool true) ∧ Below w.heap.size w w' := ret_walk (halfDead_ret v0 l0 h0 v1 l1 h1)
end Go.Proofs.Ytefmffpidhdjoaa
