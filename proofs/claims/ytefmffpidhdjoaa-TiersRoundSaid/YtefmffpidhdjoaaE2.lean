/- Free, sectors. Conditions: as each law states them. -/
import Derived.Test.YtefmffpidhdjoaaE1
import Derived.Test.YtefmffpidhdjoaaL1
namespace Go.Proofs.Ytefmffpidhdjoaa
open Go.RowKit
set_option linter.unusedSimpArgs false
theorem Good.size {s : Sta} (h : Good s) {v : Ver} (hv : v ∈ s.vers) : 0 ≤ v.size ∧ v.size ≤ 600 := by
  rcases (h.snd v hv).2 with ⟨_, m⟩ | ⟨_, a, b, _⟩
  · unfold markB at m
    simp only [Bool.and_eq_true, decide_eq_true_eq] at m
    omega
  · exact ⟨a, b⟩
theorem Good.psize {s : Sta} (h : Good s) {x : Upl} (hx : x ∈ s.upls) {p : Prt} (hp : p ∈ x.parts) : 0 ≤ p.size ∧ p.size ≤ 600 := by
  have := ((h.prt x hx).1 p hp).1
  unfold prtOut at this
  simp only [Bool.or_eq_false_iff, decide_eq_false_iff_not] at this
  omega
theorem frees_succ (u : List Int) (n : Nat) : frees u (n + 1) = frees u n ++ if (n : Int) ∈ u then [] else [(n : Int)] := by
  unfold frees
  rw [List.range_succ, List.map_append, List.filter_append]
  congr 1
  by_cases h : (n : Int) ∈ u
  · rw [if_pos h]
    have : (!decide ((n : Int) ∈ u)) = false := by rw [decide_eq_true h]; rfl
    simp [List.filter_cons, h]
  · rw [if_neg h]
    simp [List.filter_cons, h]
theorem frees_len (u : List Int) (n : Nat) : (frees u n).length ≤ n := by
  unfold frees
  exact Nat.le_trans (List.length_filter_le _ _) (by simp)
set_option maxRecDepth 100000 in
set_option maxHeartbeats 32000000 in
theorem free_does {s : Sta} {sv : Value} {many : Int} {G0 : GW} (hW : G0.Wf) (hs : StaG G0 sv s) :
    Calls Try.prog 26 #[sv, .int .i64 many] G0.w (Ret G0 fun v G => ∃ fv, v = .tuple #[fv, .int .i64 (freeS s many).2] ∧ IntsG G fv (freeS s many).1) := by
  obtain ⟨A1, c1, A2, c2, A3, c3, A4, c4, A5, c5, rfl, hP⟩ := hs.form
  have hml := max_le
  refine enterS (G := G0) (n := 78) 3000 hW Try.func26 rfl Try.ntmps26 (by simp) ?_
  simp only [go_sem, simprocAttr]
  intro g1
  refine plain_ok (N := 3000) (call_does (fun v _ => v = .int .i64 (errSt s)) rfl rfl (by kernel_rfl) rfl (dk rfl) (fun G hG => check_does hG.wf (hP.mono (hG.le G0 (by simp))).g)) (QOk_body _ _ _) (by first | exact .inl rfl | exact .inr ⟨_, _, rfl, rfl⟩) ?_
  rintro _ ⟨_, G1, rfl, hn1, rfl⟩
  clear hn1
  simp only [go_sem, simprocAttr]
  refine Wb_mk (fun he => ?_) (fun he => ?_)
  · have he' : ¬ errSt s = 0 := of_decide_eq_false (nt he)
    have hno : ¬ okSt s = true := fun q => he' (by unfold errSt; rw [if_pos q])
    refine fin_ret (G := G0) Try.results26 ?_
    simp only [go_sem, simprocAttr]
    intro aa w' _ _
    have : freeS s many = ([], 9) := by unfold freeS; rw [if_neg hno]
    rw [this, show errSt s = 9 from by unfold errSt; rw [if_neg hno]]
    exact ⟨_, rfl, Sq.nil⟩
  have he' : errSt s = 0 := of_decide_eq_true (nf he)
  have hok : okSt s = true := by
    cases q : okSt s with
    | true => rfl
    | false => unfold errSt at he'; rw [q] at he'; cases he'
  have hS := okSt_iff.1 hok
  have hgd := okSt_good.1 hok
  have b2 := hS.vers_len
  have b3 := hS.upls_len
  refine Wb_mk (fun hr => ?_) (fun hr => ?_)
  · refine fin_ret (G := G0) Try.results26 ?_
    simp only [go_sem, simprocAttr]
    intro aa w' _ _
    have : freeS s many = ([], 2) := by unfold freeS; rw [if_pos hok, if_pos hr]
    rw [this]
    exact ⟨_, rfl, Sq.nil⟩
  have hF : freeS s many = (frees (takenS s) many.toNat, 0) := by unfold freeS; rw [if_pos hok, if_neg (by rw [hr]; simp)]
  rw [hF]
  simp only [Bool.or_eq_false_iff, decide_eq_false_iff_not] at hr
  obtain ⟨m, hm⟩ : ∃ m : Nat, many = (m : Int) := ⟨many.toNat, by omega⟩
  subst hm
  have hm200 : m ≤ 200 := by omega
  rw [Int.toNat_natCast]
  refine plain_ok (N := 3000) (makeMap_does rfl (dk rfl)) (QOk_body _ _ _) (by first | exact .inl rfl | exact .inr ⟨_, _, rfl, rfl⟩) ?_
  rintro _ ⟨g, G3, rfl⟩
  simp only [go_sem, simprocAttr]
  refine loop_ok (N := 3000) (ι := Nat × List Int) (fun i => match i with | (i, u) => ⟨[(1, .c (.v (.int .i64 (m : Int)))), (2, .c (.p 0 g1 0)), (7, .c (.v (.map (some g)))), (29, .c (.v (.slice A2 s.vers.length c2))), (30, .c (.v (.int .i64 (s.vers.length : Int)))), (31, .c (.v (.int .i64 (i : Int))))],
      [⟨0, g1, 29, [.v (.int .i64 s.next), .v (.int .i64 s.clock), .v (.slice A1 s.bkts.length c1), .v (.slice A2 s.vers.length c2), .v (.slice A3 s.upls.length c3), .v (.slice A4 s.queue.length c4), .v (.slice A5 s.gone.length c5)]⟩], [usedR g u], [], [G0], 1⟩)
    (fun i => match i with | (i, u) => i ≤ s.vers.length ∧ takenV [] s.vers = takenV u (s.vers.drop i) ∧ UsedOk u)
    (fun i => s.vers.length - i.1) (QOk_body _ _ _) (0, []) ⟨by omega, by simp, List.nodup_nil, fun x hx => by cases hx⟩ (by simp only [go_sem, simprocAttr]; simp [usedR, setA]) ?_
  rintro ⟨i, u⟩ ⟨hi, hT, hu1, hu2⟩
  simp only
  by_cases hlt : i < s.vers.length
  · have q : decide ((i : Int) < (s.vers.length : Int)) = true := decide_eq_true (by omega)
    obtain ⟨v, hv⟩ : ∃ v, s.vers[i]? = some v := ⟨_, List.getElem?_eq_getElem hlt⟩
    obtain ⟨z1, z2⟩ := hgd.size (List.mem_of_getElem? hv)
    rw [drop_at hv] at hT
    simp only [go_sem, simprocAttr, q]
    refine plain_ok (N := 3000) (elem_does (R := VerG) (l := s.vers) (m := i) rfl tySlice24 tySize44 rfl rfl (dk rfl) rfl hv (fun G hG => Sq.mono hP.vers verG_mono (hG.le G0 (by simp)))) (QOk_body _ _ _) (by first | exact .inl rfl | exact .inr ⟨_, _, rfl, rfl⟩) ?_
    rintro _ ⟨g4, o', cs, G2, hcl, ⟨svx, rfl, hsv, hk1, hk2⟩, rfl⟩
    obtain ⟨Aw, cw, rfl, _⟩ := Sq.form hsv
    simp only [go_sem, simprocAttr, verV]
    intro g5
    refine plain_ok (N := 3000) (callH_does ([]) ([]) ([usedR g u]) ([]) (fun r _ R _ => r = .bool (takeU u v.secs v.size).1 ∧ R = [usedR g (takeU u v.secs v.size).2]) upV rfl rfl (by kernel_rfl) rfl (dk rfl) rfl rfl (by simp [ids, Diff]) (by simp) (fun G hG hh hM => take_does hG.wf hh hM (hsv.mono (hG.le G2 (by simp))) hu1 hu2 z1 (by omega)) (fun v css R G _ _ => upV_den css)) (QOk_body _ _ _) (by first | exact .inl rfl | exact .inr ⟨_, _, rfl, rfl⟩) ?_
    rintro _ ⟨_, css, _, G5, ⟨rfl, rfl⟩, hcs, hle, rfl⟩
    clear hcs hle
    simp only [go_sem, simprocAttr]
    refine ⟨by omega, ?_⟩
    refine again_ok (i + 1, (takeU u v.secs v.size).2) ⟨hlt, hT, takeU_ok v.secs u v.size ⟨hu1, hu2⟩⟩ (by show s.vers.length - (i + 1) < s.vers.length - i; omega) (by simp only [go_sem, simprocAttr]; simp)
  have hil : i = s.vers.length := by omega
  subst hil
  have q : decide ((s.vers.length : Int) < (s.vers.length : Int)) = false := decide_eq_false (by omega)
  rw [List.drop_length] at hT
  have hT1 : takenV [] s.vers = u := hT
  clear hT
  have hS1 : takenS s = takenU u s.upls := by unfold takenS; rw [hT1]
  clear hT1
  simp only [go_sem, simprocAttr, q]
  refine loop_ok (N := 3000) (ι := Nat × List Int) (fun i => match i with | (i, u) => ⟨[(1, .c (.v (.int .i64 (m : Int)))), (7, .c (.v (.map (some g)))), (43, .c (.v (.slice A3 s.upls.length c3))), (44, .c (.v (.int .i64 (s.upls.length : Int)))), (45, .c (.v (.int .i64 (i : Int))))],
      [], [usedR g u], [], [G0], 1⟩)
    (fun i => match i with | (i, u) => i ≤ s.upls.length ∧ takenS s = takenU u (s.upls.drop i) ∧ UsedOk u)
    (fun i => s.upls.length - i.1) (QOk_body _ _ _) (0, u) ⟨by omega, by simpa using hS1, hu1, hu2⟩ (by simp only [go_sem, simprocAttr]; simp) ?_
  clear hS1 hu1 hu2 u q hi hlt
  rintro ⟨i, u⟩ ⟨hi, hT, hu1, hu2⟩
  simp only
  by_cases hlt : i < s.upls.length
  · have q : decide ((i : Int) < (s.upls.length : Int)) = true := decide_eq_true (by omega)
    obtain ⟨x, hx⟩ : ∃ x, s.upls[i]? = some x := ⟨_, List.getElem?_eq_getElem hlt⟩
    have hxm := List.mem_of_getElem? hx
    have hpl := hS.parts_len x hxm
    rw [drop_at hx] at hT
    simp only [go_sem, simprocAttr, q]
    refine plain_ok (N := 3000) (elem_does (R := UplG) (l := s.upls) (m := i) rfl tySlice25 tySize65 rfl rfl (dk rfl) rfl hx (fun G hG => Sq.mono hP.upls uplG_mono (hG.le G0 (by simp)))) (QOk_body _ _ _) (by first | exact .inl rfl | exact .inr ⟨_, _, rfl, rfl⟩) ?_
    rintro _ ⟨g4, o', cs, G2, hcl, ⟨pv, rfl, hpv, hk1, hk2⟩, rfl⟩
    obtain ⟨Ap, cp, rfl, _⟩ := Sq.form hpv
    simp only [go_sem, simprocAttr]
    intro g5
    refine loop_ok (N := 3000) (ι := Nat × List Int) (fun i' => match i' with | (k, u) => ⟨[(1, .c (.v (.int .i64 (m : Int)))), (7, .c (.v (.map (some g)))), (43, .c (.v (.slice A3 s.upls.length c3))), (44, .c (.v (.int .i64 (s.upls.length : Int)))), (45, .c (.v (.int .i64 (i : Int)))), (50, .c (.v (.slice Ap x.parts.length cp))), (51, .c (.v (.int .i64 (x.parts.length : Int)))), (52, .c (.v (.int .i64 (k : Int))))],
        [], [usedR g u], [], [G2, G0], 3⟩)
      (fun i' => match i' with | (k, u) => k ≤ x.parts.length ∧ takenS s = takenU (takenP u (x.parts.drop k)) (s.upls.drop (i + 1)) ∧ UsedOk u)
      (fun i' => x.parts.length - i'.1) (QOk_body _ _ _) (0, u) ⟨by omega, by rw [List.drop_zero]; exact hT, hu1, hu2⟩ (by simp only [go_sem, simprocAttr]; simp) ?_
    clear hu1 hu2 hT u
    rintro ⟨k, u⟩ ⟨hk, hT, hu1, hu2⟩
    simp only
    by_cases hltk : k < x.parts.length
    · have q2 : decide ((k : Int) < (x.parts.length : Int)) = true := decide_eq_true (by omega)
      obtain ⟨p, hp⟩ : ∃ p, x.parts[k]? = some p := ⟨_, List.getElem?_eq_getElem hltk⟩
      obtain ⟨z1, z2⟩ := hgd.psize hxm (List.mem_of_getElem? hp)
      rw [drop_at hp] at hT
      simp only [go_sem, simprocAttr, q2]
      refine plain_ok (N := 3000) (elem_does (R := PrtG) (l := x.parts) (m := k) rfl tySlice63 tySize48 rfl rfl (dk rfl) rfl hp (fun G hG => Sq.mono hpv prtG_mono (hG.le G2 (by simp)))) (QOk_body _ _ _) (by first | exact .inl rfl | exact .inr ⟨_, _, rfl, rfl⟩) ?_
      rintro _ ⟨g6, o6, cs6, G6, hcl6, ⟨svx, rfl, hsv⟩, rfl⟩
      obtain ⟨Aw, cw, rfl, _⟩ := Sq.form hsv
      simp only [go_sem, simprocAttr]
      intro g7
      refine plain_ok (N := 3000) (callH_does ([]) ([]) ([usedR g u]) ([]) (fun r _ R _ => r = .bool (takeU u p.secs p.size).1 ∧ R = [usedR g (takeU u p.secs p.size).2]) upV rfl rfl (by kernel_rfl) rfl (dk rfl) rfl rfl (by simp [ids, Diff]) (by simp) (fun G hG hh hM => take_does hG.wf hh hM (hsv.mono (hG.le G6 (by simp))) hu1 hu2 z1 (by omega)) (fun v css R G _ _ => upV_den css)) (QOk_body _ _ _) (by first | exact .inl rfl | exact .inr ⟨_, _, rfl, rfl⟩) ?_
      rintro _ ⟨_, css, _, G8, ⟨rfl, rfl⟩, hcs, hle, rfl⟩
      clear hcs hle
      simp only [go_sem, simprocAttr]
      refine ⟨by omega, ?_⟩
      refine again_ok (k + 1, (takeU u p.secs p.size).2) ⟨hltk, hT, takeU_ok p.secs u p.size ⟨hu1, hu2⟩⟩ (by show x.parts.length - (k + 1) < x.parts.length - k; omega) (by simp only [go_sem, simprocAttr]; simp)
    · have hkl : k = x.parts.length := by omega
      subst hkl
      have q2 : decide ((x.parts.length : Int) < (x.parts.length : Int)) = false := decide_eq_false (by omega)
      rw [List.drop_length] at hT
      simp only [go_sem, simprocAttr, q2]
      refine ⟨by omega, ?_⟩
      refine again_ok (i + 1, u) ⟨hlt, hT, hu1, hu2⟩ (by show s.upls.length - (i + 1) < s.upls.length - i; omega) (by simp only [go_sem, simprocAttr]; simp)
  have hil : i = s.upls.length := by omega
  subst hil
  have q : decide ((s.upls.length : Int) < (s.upls.length : Int)) = false := decide_eq_false (by omega)
  rw [List.drop_length] at hT
  have hT1 : takenS s = u := hT
  clear hT
  rw [hT1]
  simp only [go_sem, simprocAttr, q]
  refine row_ok 3 1 ?_
  refine loop_ok (N := 3000) (ι := Nat × Option Addr × Nat) (fun i => match i with | (i, A, c) => ⟨[(7, .c (.v (.map (some g)))), (14, .c (.v (.slice A (frees u i).length c))), (64, .c (.v (.int .i64 (m : Int)))), (65, .c (.v (.int .i64 (i : Int))))],
      [], [intRow (.slice A (frees u i).length c) (frees u i), usedR g u], [], [G0], 1⟩)
    (fun i => match i with | (i, A, c) => i ≤ m)
    (fun i => m - i.1) (QOk_body _ _ _) (0, none, 0) (by show 0 ≤ m; omega) (by simp only [go_sem, simprocAttr]; simp [intRow, frees]) ?_
  rintro ⟨i, A, c⟩ hi
  simp only at hi ⊢
  have hfl := frees_len u i
  by_cases hlt : i < m
  · have q : decide ((i : Int) < (m : Int)) = true := decide_eq_true (by omega)
    have hxi : i64 (i : Int) := ⟨by omega, by omega⟩
    simp only [go_sem, simprocAttr, q]
    by_cases hin : (i : Int) ∈ u
    · have hfs : frees u (i + 1) = frees u i := by rw [frees_succ, if_pos hin, List.append_nil]
      refine plain_ok (N := 3000) (lookup_does (kt := 3) (et := 4) (tr := 115) (n := u.length) (al := setA u) (v := .bool true) rfl Try.underlying115 intKeyed zeroBool (List.mem_cons_of_mem _ (List.mem_singleton.2 rfl)) rfl rfl rfl (int_key _ hxi) (setA_keys hu1 hu2) (dk rfl) (.inl (List.mem_map.2 ⟨_, hin, rfl⟩))) (QOk_body _ _ _) (by first | exact .inl rfl | exact .inr ⟨_, _, rfl, rfl⟩) ?_
      rintro _ rfl
      simp only [go_sem, simprocAttr]
      refine ⟨by omega, ?_⟩
      refine again_ok (i + 1, A, c) (by show i + 1 ≤ m; omega) (by show m - (i + 1) < m - i; omega) (by rw [hfs]; simp only [go_sem, simprocAttr]; simp)
    · have hfs : frees u (i + 1) = frees u i ++ [(i : Int)] := by rw [frees_succ, if_neg hin]
      have hfn : (frees u (i + 1)).length = (frees u i).length + 1 := by rw [hfs, List.length_append]; rfl
      refine plain_ok (N := 3000) (lookup_does (kt := 3) (et := 4) (tr := 115) (n := u.length) (al := setA u) (v := .bool false) rfl Try.underlying115 intKeyed zeroBool (List.mem_cons_of_mem _ (List.mem_singleton.2 rfl)) rfl rfl rfl (int_key _ hxi) (setA_keys hu1 hu2) (dk rfl) (.inr ⟨fun e he hk => hin (by obtain ⟨y, hy, rfl⟩ := List.mem_map.1 he; cases hk; exact hy), rfl⟩)) (QOk_body _ _ _) (by first | exact .inl rfl | exact .inr ⟨_, _, rfl, rfl⟩) ?_
      rintro _ rfl
      simp only [go_sem, simprocAttr]
      intro g4
      refine plain_ok (N := 3000) (append_does (R1 := []) (R2 := [usedR g u]) (n := (frees u i).length) (v := .slice A (frees u i).length c) (xs := (frees u i).flatMap intC) (news := [.int .i64 (i : Int)]) rfl tySlice27 tyApp3 rfl rfl rfl rfl (dk rfl) (fun u hu => by rw [List.mem_singleton.1 hu]; rfl) (by unfold maxLen; omega) (by omega) (fun G hG => tsl_blk hG (b := ⟨1, g4, 3, [.v (.int .i64 (i : Int))]⟩) (by simp) rfl (by unfold maxLen; omega))) (QOk_body _ _ _) (by first | exact .inl rfl | exact .inr ⟨_, _, rfl, rfl⟩) ?_
      rintro _ ⟨A', c', rfl⟩
      simp only [go_sem, simprocAttr]
      refine ⟨by omega, ?_⟩
      refine again_ok (i + 1, A', c') (by show i + 1 ≤ m; omega) (by show m - (i + 1) < m - i; omega) (by rw [hfn, hfs]; simp only [go_sem, simprocAttr]; simp [intRow, intC])
  · have him : i = m := by omega
    subst him
    have q : decide ((i : Int) < (i : Int)) = false := decide_eq_false (by omega)
    simp only [go_sem, simprocAttr, q]
    refine read_ok (R1 := []) rfl (fun G8 hle8 hsl8 => ?_) (fun _ _ q => q) (by show (1 : Nat) ≠ 0; decide)
    have hO : IntsG G8 (.slice A (frees u i).length c) (frees u i) := ints_of hsl8
    refine fin_ret (G := G0) Try.results26 ?_
    simp only [go_sem, simprocAttr]
    intro aa w' _ hle
    exact ⟨_, rfl, hO.mono (hle G8 (by simp))⟩
theorem secsOf_nonneg {n : Int} (h : 0 ≤ n) : 0 ≤ secsOf n := by
  unfold secsOf
  rw [Int.tdiv_eq_ediv_of_nonneg (by omega)]
  omega
set_option maxRecDepth 100000 in
set_option maxHeartbeats 8000000 in
theorem sectorsOf_does {s : Sta} {sv : Value} {size : Int} {G0 : GW} (hW : G0.Wf) (hs : StaG G0 sv s) (h0 : 0 ≤ size) (h1 : size ≤ 1000000) :
    Calls Try.prog 32 #[sv, .int .i64 size] G0.w (Ret G0 fun v G => IntsG G v (sectorsS s size)) := by
  obtain ⟨A1, c1, A2, c2, A3, c3, A4, c4, A5, c5, rfl, hP⟩ := hs.form
  have hml := max_le
  refine enterS (G := G0) (n := 19) 3000 hW Try.func32 rfl Try.ntmps32 (by simp) ?_
  simp only [go_sem, simprocAttr]
  intro g1
  refine plain_ok (N := 3000) (call_does (fun v G => ∃ fv, v = .tuple #[fv, .int .i64 (freeS s 200).2] ∧ IntsG G fv (freeS s 200).1) rfl rfl (by kernel_rfl) rfl (dk rfl) (fun G hG => free_does hG.wf (hP.mono (hG.le G0 (by simp))).g)) (QOk_body _ _ _) (by first | exact .inl rfl | exact .inr ⟨_, _, rfl, rfl⟩) ?_
  rintro _ ⟨_, G1, ⟨fv, rfl, hfv⟩, hn1, rfl⟩
  clear hn1
  obtain ⟨A, c, rfl, hc1, hc2⟩ := Sq.form hfv
  obtain ⟨l, hl⟩ : ∃ l, l = (freeS s 200).1 := ⟨_, rfl⟩
  have hsec : sectorsS s size = l.take (min (secsOf size) (l.length : Int)).toNat := by
    unfold sectorsS
    rw [← hl]
    by_cases q : secsOf size ≤ (l.length : Int)
    · rw [Int.min_eq_left q]
    · rw [Int.min_eq_right (by omega), Int.toNat_natCast, List.take_length, List.take_of_length_le (by omega)]
  rw [hsec]
  rw [← hl] at hfv hc1 ⊢
  clear hsec hl
  have hnn := secsOf_nonneg h0
  simp only [go_sem, simprocAttr]
  refine plain_ok (N := 3000) (call_does (fun v _ => v = .int .i64 (secsOf size)) rfl rfl (by kernel_rfl) rfl (dk rfl) (fun G hG => sectors_does hG.wf (by omega) (by omega))) (QOk_body _ _ _) (by first | exact .inl rfl | exact .inr ⟨_, _, rfl, rfl⟩) ?_
  rintro _ ⟨_, G2, rfl, hn2, rfl⟩
  clear hn2
  simp only [go_sem, simprocAttr]
  obtain ⟨k, hk⟩ : ∃ k : Nat, min (secsOf size) (l.length : Int) = (k : Int) := ⟨(min (secsOf size) (l.length : Int)).toNat, by omega⟩
  have hkl : k ≤ l.length := by omega
  rw [hk, Int.toNat_natCast]
  refine plain_ok (N := 3000) (cutq_does (R := IntG) (l := l) (m := k) rfl rfl tySlice27 tySize3 rfl ⟨_, _, rfl, by omega⟩ (dk rfl) hkl hc1) (QOk_body _ _ _) (by first | exact .inl rfl | exact .inr ⟨_, _, rfl, rfl⟩) ?_
  rintro _ ⟨A', hA, rfl⟩
  simp only [go_sem, simprocAttr]
  refine fin_ret (G := G0) Try.results32 ?_
  simp only [go_sem, simprocAttr]
  intro aa w' _ hle
  have h9 := hA _ (hfv.mono (hle G1 (by simp)))
  have e9 : (l.take k).length = k := by rw [List.length_take]; omega
  show IntsG _ (.slice A' k c) _
  exact h9
end Go.Proofs.Ytefmffpidhdjoaa
