/- 'icehousekeep.NullOne' returns true for all raw things and numbers. Conditions: none. -/
import Derived.Test.YtefmffpidhdjoaaV17
import Derived.Test.YtefmffpidhdjoaaV1
import Derived.Test.YtefmffpidhdjoaaL4
namespace Go.Proofs.Ytefmffpidhdjoaa
open Go.RowKit
set_option linter.unusedSimpArgs false
theorem strEqL (a b : ByteArray) : (a.toList == b.toList) = decide (a = b) := by
  rw [Bool.eq_iff_iff, decide_eq_true_iff, beq_iff_eq, ByteArray.toList_eq, ByteArray.toList_eq]
  cases a
  cases b
  simp [Array.toList_inj]
theorem nullLike_iff {v x : Ver} : nullLike v x = true ↔ x.null = true ∧ x.bucket = v.bucket ∧ x.key = v.key := by
  unfold nullLike
  rw [strEqL, strEqL]
  simp only [Bool.and_eq_true, decide_eq_true_eq, and_assoc]
theorem null_one {v : Ver} : ∀ l : List Ver, (nulK l).Nodup → ∀ x ∈ l, nullLike v x = true → (l.filter (nullLike v)).length = 1
  | [], _, x, hx, _ => by cases hx
  | a :: l, hn, x, hx, hp => by
    rw [nulK_cons] at hn
    obtain ⟨_, hn2, hn3⟩ := List.nodup_append.1 hn
    cases ha : nullLike v a with
    | true =>
      obtain ⟨a1, a2, a3⟩ := nullLike_iff.1 ha
      have : l.filter (nullLike v) = [] := by
        rw [List.filter_eq_nil_iff]
        intro y hy hpy
        obtain ⟨y1, y2, y3⟩ := nullLike_iff.1 hpy
        refine hn3 (keyB a) (by rw [if_pos a1]; simp) (keyB y) (List.mem_map.2 ⟨y, List.mem_filter.2 ⟨hy, y1⟩, rfl⟩) ?_
        unfold keyB
        rw [a2, a3, y2, y3]
      rw [List.filter_cons, if_pos ha, this]
      rfl
    | false =>
      rw [List.filter_cons, if_neg (by rw [ha]; simp)]
      rcases List.mem_cons.1 hx with rfl | hx
      · rw [ha] at hp; cases hp
      · exact null_one l hn2 x hx hp
def newN (s : Sta) (a b n : Int) : Ver := { noV with id := s.next, bucket := nameS a, key := keyS b, null := true, time := s.clock, size := n, tier := 1, secs := sectorsS s n }
theorem new_res {s : Sta} (h : okSt s = true) (hn : s.next ≤ 1000) {v : Ver} (hid : v.id = s.next) : (∃ t, applyS s { rec0 4 with ver := v } = (t, 0) ∧ okSt t = true ∧ t.vers = (nullS s v).vers ++ [v]) ∨ ∃ e, (applyS s { rec0 4 with ver := v }) = (zeroS, e) ∧ (e = 8 ∨ e = 4) := by
  have hch : changeS s { rec0 4 with ver := v } = comeS s v := rfl
  rw [applyS_of h, hch]
  unfold comeS
  rw [if_neg (by rw [decide_eq_true hid, decide_eq_false (by omega)]; simp)]
  by_cases q : ((nullS s v).vers.length : Int) = 40
  · rw [if_pos q]
    exact .inr ⟨8, rfl, .inl rfl⟩
  · rw [if_neg q]
    unfold applyC
    rw [if_pos rfl]
    by_cases q2 : okSt { nullS s v with next := (nullS s v).next + 1, vers := (nullS s v).vers ++ [v] } = true
    · rw [if_pos q2]
      exact .inl ⟨_, rfl, q2, rfl⟩
    · rw [if_neg q2]
      exact .inr ⟨4, rfl, .inr rfl⟩
theorem filt_succ {p : Ver → Bool} {l : List Ver} {i : Nat} {x : Ver} (hx : l[i]? = some x) : ((l.take (i + 1)).filter p).length = ((l.take i).filter p).length + if p x = true then 1 else 0 := by
  rw [take_succ_filter hx, List.length_append]
  cases p x <;> rfl
set_option maxRecDepth 100000 in
set_option maxHeartbeats 8000000 in
theorem nullOne_ret {w : World} (v0 : Value) (l0 : List Raw) (h0 : RawsG ⟨Non, w⟩ v0 l0) (a : Int) (ha : i64 a) (b : Int) (hb : i64 b) (c : Int) (hc : i64 c) :
    Calls Try.prog 13 #[v0, .int .i64 a, .int .i64 b, .int .i64 c] w (Ret ⟨Non, w⟩ fun v _ => v = .bool true) := by
  have hml := max_le
  have hok := stateS_ok l0 30
  have hnx := stateS_next l0 30
  obtain ⟨A0, c0, rfl, _, _⟩ := ScR.form h0
  refine enterS (G := ⟨Non, w⟩) (n := 111) 3000 (wf_nonL w) Try.func13 rfl Try.ntmps13 (by simp) ?_
  simp only [go_sem, simprocAttr]
  refine plain_ok (N := 3000) (call_does (fun v G => ∃ sv ov, v = .tuple #[sv, ov] ∧ StaG G sv (stateS l0 30).1 ∧ RecsG G ov (stateS l0 30).2) rfl rfl (by kernel_rfl) rfl (dk rfl) (fun G hG => state_does (most := 30) hG.wf (ScR.mono h0 rawG_mono (hG.le ⟨Non, w⟩ (by simp))) (by omega))) (QOk_body _ _ _) (by first | exact .inl rfl | exact .inr ⟨_, _, rfl, rfl⟩) ?_
  rintro _ ⟨_, G1, ⟨sv, ov, rfl, hs, ho⟩, hn1, rfl⟩
  clear hn1
  obtain ⟨A1, c1, A2, c2, A3, c3, A4, c4, A5, c5, rfl, hP⟩ := hs.form
  obtain ⟨Ao, co, rfl, _⟩ := Sq.form ho
  obtain ⟨s, hsd⟩ : ∃ s, s = (stateS l0 30).1 := ⟨_, rfl⟩
  obtain ⟨rs, hrd⟩ : ∃ rs, rs = (stateS l0 30).2 := ⟨_, rfl⟩
  rw [← hsd] at hok hnx hP hs ⊢
  rw [← hrd] at ho ⊢
  clear hsd hrd
  have hgd := okSt_good.1 hok
  have b2 := hgd.vlen
  have n1 := hgd.n1
  have cc1 := hgd.c1
  have cc2 := hgd.c2
  have hnb := pick_bd c 100 (by omega)
  obtain ⟨n, hnd⟩ : ∃ n, n = pick c 100 := ⟨_, rfl⟩
  rw [← hnd] at hnb
  simp only [go_sem, simprocAttr]
  intro g1
  refine plain_ok (N := 3000) (call_does (fun v _ => v = .int .i64 n) rfl rfl (by kernel_rfl) rfl (dk rfl) (fun G hG => by rw [hnd]; exact picked_does hG.wf hc (by omega) (by omega))) (QOk_body _ _ _) (by first | exact .inl rfl | exact .inr ⟨_, _, rfl, rfl⟩) ?_
  rintro _ ⟨_, G2, rfl, hn2, rfl⟩
  clear hn2 hnd
  simp only [go_sem, simprocAttr]
  refine cut_code2 (N := 3000) (ι := (Option Addr × Nat) × Nat × GW)
    (fun i => match i with | ((Av, cv), g2, GS) => ⟨[(9, .c (.p 0 g1 0)), (11, .c (.v (.int .i64 n))), (12, .c (.p 1 g2 0))],
      [⟨1, g2, 44, (verV (newN s a b n) (.slice Av (sectorsS s n).length cv)).map .v⟩, ⟨0, g1, 29, [.v (.int .i64 s.next), .v (.int .i64 s.clock), .v (.slice A1 s.bkts.length c1), .v (.slice A2 s.vers.length c2), .v (.slice A3 s.upls.length c3), .v (.slice A4 s.queue.length c4), .v (.slice A5 s.gone.length c5)]⟩], [], [], [GS, G1, ⟨Non, w⟩], 2⟩)
    (fun i => match i with | ((Av, cv), g2, GS) => IntsG GS (.slice Av (sectorsS s n).length cv) (sectorsS s n)) (QOk_body _ _ _) ?_ ?_
  rotate_left
  · intro k' J hk' hJ
    refine draw_ok (N := 3000) (.take 0 (.take 1 (.take 2 (.take 4 (.take 6 (.take 7 (.take 8 (.take 9 (.take 10 (.alt 3 (.alt 5 (.alt 11 (.take 12 (.alt 13 (.alt 14 .done .last) .last)) (.alt 13 (.alt 11 (.take 12 (.alt 14 .done .last)) .last) .last)) (.alt 13 (.alt 5 (.alt 11 (.take 12 (.alt 14 .done .last)) .last) .last) .last)) (.alt 13 (.alt 3 (.alt 5 (.alt 11 (.take 12 (.alt 14 .done .last)) .last) .last) .last) .last))))))))))) [] hk' follows_mixed (by kernel_rfl) (by kernel_rfl) ?_
    simp only [go_sem, simprocAttr]
    refine ⟨?_, fun g2 => ?_⟩
    · refine anyc_ok (N := 3000) (call_does (fun v _ => v = .string (nameS a)) rfl rfl (by kernel_rfl) rfl (dk rfl) (fun G hG => name_does hG.wf ha)) hk' rfl (by first | exact .inl rfl | exact .inr ⟨_, _, rfl, rfl⟩) ?_
      rintro _ ⟨_, G3, rfl, hn3, rfl⟩
      clear hn3
      simp only [go_sem, simprocAttr]
      refine ⟨?_, fun g2 => ?_⟩
      · refine anyc_ok (N := 3000) (call_does (fun v _ => v = .string (keyS b)) rfl rfl (by kernel_rfl) rfl (dk rfl) (fun G hG => key_does hG.wf hb)) hk' rfl (by first | exact .inl rfl | exact .inr ⟨_, _, rfl, rfl⟩) ?_
        rintro _ ⟨_, G4, rfl, hn4, rfl⟩
        clear hn4
        simp only [go_sem, simprocAttr]
        refine ⟨?_, fun g2 => ?_⟩
        · refine anyc_ok (N := 3000) (call_does (fun v G => IntsG G v (sectorsS s n)) rfl rfl (by kernel_rfl) rfl (dk rfl) (fun G hG => sectorsOf_does hG.wf (hP.mono (hG.le G1 (by simp))).g (by omega) (by omega))) hk' rfl (by first | exact .inl rfl | exact .inr ⟨_, _, rfl, rfl⟩) ?_
          rintro _ ⟨sv, G5, hsv, hn5, rfl⟩
          clear hn5
          obtain ⟨Av, cv, rfl, _⟩ := Sq.form hsv
          simp only [go_sem, simprocAttr]
          intro g2
          exact hJ ((Av, cv), g2, G5) _ hsv (by simp only [go_sem, simprocAttr, verV, List.map_cons, List.map_nil]; simp [newN, noV])
        · refine anyc_ok (N := 3000) (call_does (fun v G => IntsG G v (sectorsS s n)) rfl rfl (by kernel_rfl) rfl (dk rfl) (fun G hG => sectorsOf_does hG.wf (hP.mono (hG.le G1 (by simp))).g (by omega) (by omega))) hk' rfl (by first | exact .inl rfl | exact .inr ⟨_, _, rfl, rfl⟩) ?_
          rintro _ ⟨sv, G5, hsv, hn5, rfl⟩
          clear hn5
          obtain ⟨Av, cv, rfl, _⟩ := Sq.form hsv
          simp only [go_sem, simprocAttr]
          exact hJ ((Av, cv), g2, G5) _ hsv (by simp only [go_sem, simprocAttr, verV, List.map_cons, List.map_nil]; simp [newN, noV])
      · refine anyc_ok (N := 3000) (call_does (fun v _ => v = .string (keyS b)) rfl rfl (by kernel_rfl) rfl (dk rfl) (fun G hG => key_does hG.wf hb)) hk' rfl (by first | exact .inl rfl | exact .inr ⟨_, _, rfl, rfl⟩) ?_
        rintro _ ⟨_, G4, rfl, hn4, rfl⟩
        clear hn4
        simp only [go_sem, simprocAttr]
        refine anyc_ok (N := 3000) (call_does (fun v G => IntsG G v (sectorsS s n)) rfl rfl (by kernel_rfl) rfl (dk rfl) (fun G hG => sectorsOf_does hG.wf (hP.mono (hG.le G1 (by simp))).g (by omega) (by omega))) hk' rfl (by first | exact .inl rfl | exact .inr ⟨_, _, rfl, rfl⟩) ?_
        rintro _ ⟨sv, G5, hsv, hn5, rfl⟩
        clear hn5
        obtain ⟨Av, cv, rfl, _⟩ := Sq.form hsv
        simp only [go_sem, simprocAttr]
        exact hJ ((Av, cv), g2, G5) _ hsv (by simp only [go_sem, simprocAttr, verV, List.map_cons, List.map_nil]; simp [newN, noV])
    · refine anyc_ok (N := 3000) (call_does (fun v _ => v = .string (nameS a)) rfl rfl (by kernel_rfl) rfl (dk rfl) (fun G hG => name_does hG.wf ha)) hk' rfl (by first | exact .inl rfl | exact .inr ⟨_, _, rfl, rfl⟩) ?_
      rintro _ ⟨_, G3, rfl, hn3, rfl⟩
      clear hn3
      simp only [go_sem, simprocAttr]
      refine anyc_ok (N := 3000) (call_does (fun v _ => v = .string (keyS b)) rfl rfl (by kernel_rfl) rfl (dk rfl) (fun G hG => key_does hG.wf hb)) hk' rfl (by first | exact .inl rfl | exact .inr ⟨_, _, rfl, rfl⟩) ?_
      rintro _ ⟨_, G4, rfl, hn4, rfl⟩
      clear hn4
      simp only [go_sem, simprocAttr]
      refine anyc_ok (N := 3000) (call_does (fun v G => IntsG G v (sectorsS s n)) rfl rfl (by kernel_rfl) rfl (dk rfl) (fun G hG => sectorsOf_does hG.wf (hP.mono (hG.le G1 (by simp))).g (by omega) (by omega))) hk' rfl (by first | exact .inl rfl | exact .inr ⟨_, _, rfl, rfl⟩) ?_
      rintro _ ⟨sv, G5, hsv, hn5, rfl⟩
      clear hn5
      obtain ⟨Av, cv, rfl, _⟩ := Sq.form hsv
      simp only [go_sem, simprocAttr]
      exact hJ ((Av, cv), g2, G5) _ hsv (by simp only [go_sem, simprocAttr, verV, List.map_cons, List.map_nil]; simp [newN, noV])
  rintro ⟨⟨Av, cv⟩, g2, GS⟩ hsv
  simp only at hsv ⊢
  obtain ⟨v, hvd⟩ : ∃ v, v = newN s a b n := ⟨_, rfl⟩
  have hvs : v.secs = sectorsS s n := by rw [hvd]; rfl
  rw [← hvd, ← hvs]
  rw [← hvs] at hsv
  have hvi : v.id = s.next := by rw [hvd]; rfl
  have hvn : v.null = true := by rw [hvd]; rfl
  have hvb : v.bucket.size ≤ maxLen := by rw [hvd]; exact nameS_size a
  have hvk : v.key.size ≤ maxLen := by rw [hvd]; exact keyS_size b
  have hre := new_res hok (by omega) hvi
  have hrok : RecOk { rec0 4 with ver := v } := ⟨Nat.zero_le _, Nat.zero_le _, Nat.zero_le _, hvb, hvk, by show v.secs.length ≤ 1000; rw [hvs]; exact sectorsS_len _ _, Nat.zero_le _, Nat.zero_le _, i64_0⟩
  clear hvd hvs
  simp only [go_sem, simprocAttr, verV, List.map_cons, List.map_nil]
  refine plain_ok (N := 3000) (call_does (fun y G => ∃ sv', y = .tuple #[sv', .int .i64 (applyS s { rec0 4 with ver := v }).2] ∧ StaG G sv' (applyS s { rec0 4 with ver := v }).1) rfl rfl (by kernel_rfl) rfl (dk rfl) (fun G hG => apply_does hG.wf (hP.mono (hG.le G1 (by simp))).g ⟨_, _, _, rfl, hsv.mono (hG.le GS (by simp)), Sq.nil, Sq.nil, hrok⟩)) (QOk_body _ _ _) (by first | exact .inl rfl | exact .inr ⟨_, _, rfl, rfl⟩) ?_
  rintro _ ⟨_, G3, ⟨sv3, rfl, hs3⟩, hn3, rfl⟩
  clear hn3
  
  obtain ⟨B1, d1, B2, d2, B3, d3, B4, d4, B5, d5, rfl, hP3⟩ := hs3.form
  simp only [go_sem, simprocAttr]
  intro g3
  refine plain_ok (N := 3000) (call_does (fun v _ => v = .int .i64 0) rfl rfl (by kernel_rfl) rfl (dk rfl) (fun G hG => by rw [← errSt_ok hok]; exact check_does hG.wf (hP.mono (hG.le G1 (by simp))).g)) (QOk_body _ _ _) (by first | exact .inl rfl | exact .inr ⟨_, _, rfl, rfl⟩) ?_
  rintro _ ⟨_, G6, rfl, hn6, rfl⟩
  clear hn6
  rcases hre with ⟨t, hat, hokt, htv⟩ | ⟨e, hat, he⟩
  · rw [hat] at hP3 ⊢
    have hgt := okSt_good.1 hokt
    have hlt0 := hgt.vlen
    have hvt : t.vers[(nullS s v).vers.length]? = some v := by rw [htv, List.getElem?_append_right (Nat.le_refl _), Nat.sub_self]; rfl
    have hcnt : (t.vers.filter (nullLike v)).length = 1 := null_one t.vers hgt.nul v (List.mem_of_getElem? hvt) (nullLike_iff.2 ⟨hvn, rfl, rfl⟩)
    have hlast : lastV (keyIs v.bucket v.key) t.vers = some v := lastV_stop hvt (by simp [keyIs]) fun m y hm hy => by
      have := (List.getElem?_eq_some_iff.1 hy).1
      rw [htv, List.length_append] at this
      simp at this
      omega
    simp only [go_sem, simprocAttr]
    refine loop_ok (N := 3000) (ι := Nat) (fun i => ⟨[(12, .c (.p 1 g2 0)), (13, .c (.p 2 g3 0)), (15, .c (.v (.int .i64 (((t.vers.take i).filter (nullLike v)).length : Int)))), (60, .c (.v (.slice B2 t.vers.length d2))), (61, .c (.v (.int .i64 (t.vers.length : Int)))), (62, .c (.v (.int .i64 (i : Int))))],
        [⟨2, g3, 29, [.v (.int .i64 t.next), .v (.int .i64 t.clock), .v (.slice B1 t.bkts.length d1), .v (.slice B2 t.vers.length d2), .v (.slice B3 t.upls.length d3), .v (.slice B4 t.queue.length d4), .v (.slice B5 t.gone.length d5)]⟩, ⟨1, g2, 44, (verV v (.slice Av v.secs.length cv)).map .v⟩], [], [], [G3, GS, G1, ⟨Non, w⟩], 3⟩)
      (fun i => i ≤ t.vers.length)
      (fun i => t.vers.length - i) (QOk_body _ _ _) 0 (Nat.zero_le _) (by simp only [go_sem, simprocAttr, verV, List.map_cons, List.map_nil]; simp) ?_
    rintro i hi
    have hfl : ((t.vers.take i).filter (nullLike v)).length ≤ i := Nat.le_trans (List.length_filter_le _ _) (by rw [List.length_take]; omega)
    by_cases hlt : i < t.vers.length
    · have q : decide ((i : Int) < (t.vers.length : Int)) = true := decide_eq_true (by omega)
      obtain ⟨x, hx⟩ : ∃ x, t.vers[i]? = some x := ⟨_, List.getElem?_eq_getElem hlt⟩
      have hfs := filt_succ (p := nullLike v) hx
      simp only [go_sem, simprocAttr, q]
      refine plain_ok (N := 3000) (elem_does (R := VerG) (l := t.vers) (m := i) rfl tySlice24 tySize44 rfl rfl (dk rfl) rfl hx (fun G hG => Sq.mono hP3.vers verG_mono (hG.le G3 (by simp)))) (QOk_body _ _ _) (by first | exact .inl rfl | exact .inr ⟨_, _, rfl, rfl⟩) ?_
      rintro _ ⟨g4, o', cs, G7, hcl7, ⟨svx, rfl, hsvx, hk1, hk2⟩, rfl⟩
      obtain ⟨Ax, cx, rfl, _⟩ := Sq.form hsvx
      simp only [go_sem, simprocAttr, verV, List.map_cons, List.map_nil]
      intro g5
      refine Wb_mk (fun hh => ?_) (fun hh => ?_)
      · have hp : nullLike v x = true := hh
        rw [hp, if_pos rfl] at hfs
        refine ⟨by omega, ?_⟩
        refine ⟨by omega, ?_⟩
        refine again_ok (i + 1) hlt (by omega) (by rw [hfs]; simp only [go_sem, simprocAttr, verV, List.map_cons, List.map_nil]; simp)
      · have hp : nullLike v x = false := hh
        rw [hp, if_neg (by simp), Nat.add_zero] at hfs
        refine ⟨by omega, ?_⟩
        refine again_ok (i + 1) hlt (by omega) (by rw [hfs]; simp only [go_sem, simprocAttr, verV, List.map_cons, List.map_nil]; simp)
    have hil : i = t.vers.length := by omega
    subst hil
    have q : decide ((t.vers.length : Int) < (t.vers.length : Int)) = false := decide_eq_false (by omega)
    rw [List.take_length, hcnt]
    simp only [go_sem, simprocAttr, q, verV, List.map_cons, List.map_nil]
    refine plain_ok (N := 3000) (call_does (fun y G => LatG G y (some v)) rfl rfl (by kernel_rfl) rfl (dk rfl) (fun G hG => by rw [← hlast]; exact latest_does hG.wf (hP3.mono (hG.le G3 (by simp))).g hokt)) (QOk_body _ _ _) (by first | exact .inl rfl | exact .inr ⟨_, _, rfl, rfl⟩) ?_
    rintro _ ⟨_, G8, ⟨svl, rfl, hsvl⟩, hn8, rfl⟩
    clear hn8
    obtain ⟨Al, cl, rfl, _⟩ := Sq.form hsvl
    have qi : decide (v.id = v.id) = true := decide_eq_true rfl
    simp only [go_sem, simprocAttr, verV, List.map_cons, List.map_nil]
    intro g8
    refine fin_ret (G := ⟨Non, w⟩) Try.results13 ?_
    simp only [go_sem, simprocAttr, qi]
    intro aa w' _ hle
    rfl
  · rw [hat] at hP3 ⊢
    rcases he with rfl | rfl
    · simp only [go_sem, simprocAttr]
      refine fin_ret (G := ⟨Non, w⟩) Try.results13 ?_
      simp only [go_sem, simprocAttr]
      intro aa w' _ hle
      rfl
    · simp only [go_sem, simprocAttr]
      refine fin_ret (G := ⟨Non, w⟩) Try.results13 ?_
      simp only [go_sem, simprocAttr]
      intro aa w' _ hle
      rfl
theorem nullOne_walk {w : World} (v0 : Value) (l0 : List Raw) (h0 : RawsG ⟨Non, w⟩ v0 l0) (a : Int) (ha : i64 a) (b : Int) (hb : i64 b) (c : Int) (hc : i64 c) : Calls Try.prog 13 #[v0, .int .i64 a, .int .i64 b, .int .i64 c] w fun e w' => e = .returned (.bool true) ∧ Below w.heap.size w w' := ret_walk (nullOne_ret v0 l0 h0 a ha b hb c hc)
end Go.Proofs.Ytefmffpidhdjoaa
