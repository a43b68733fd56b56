/- 'icehousekeep.TiersRound' returns true for all raw things and numbers. Conditions: none. -/
import Derived.Test.YtefmffpidhdjoaaV17
import Derived.Test.YtefmffpidhdjoaaL7
namespace Go.Proofs.Ytefmffpidhdjoaa
open Go.RowKit
set_option linter.unusedSimpArgs false
def sA : ByteArray := ⟨#[97]⟩
def sNew : ByteArray := ⟨#[110, 101, 119]⟩
def newT (s : Sta) (n : Int) : Ver := { noV with id := s.next, bucket := sA, key := sNew, time := s.clock, size := n, tier := 1, secs := sectorsS s n }
def r4 (v : Ver) : Rec := { rec0 4 with ver := v }
def r6 (id vol at_ : Int) : Rec := { rec0 6 with id := id, vol := vol, at_ := at_ }
def r8 (id : Int) (l : List Int) (n : Int) : Rec := { rec0 8 with id := id, n := n, secs := l }
def r9 (id : Int) : Rec := { rec0 9 with id := id }
theorem new_end {s : Sta} (h : okSt s = true) (hn : s.next ≤ 1000) {v : Ver} (hid : v.id = s.next) (hnl : v.null = false) : (applyS s (r4 v) = (endS s (s.next + 1) v s.queue, 0) ∧ okSt (endS s (s.next + 1) v s.queue) = true) ∨ ∃ e, (applyS s (r4 v)) = (zeroS, e) ∧ (e = 8 ∨ e = 4) := by
  have hch : changeS s (r4 v) = comeS s v := rfl
  have hnu : nullS s v = s := by
    unfold nullS
    rw [if_neg (by rw [hnl]; simp)]
  rw [applyS_of h, hch]
  unfold comeS
  rw [if_neg (by rw [decide_eq_true hid, decide_eq_false (by omega)]; simp), hnu]
  by_cases q : (s.vers.length : Int) = 40
  · rw [if_pos q]
    exact .inr ⟨8, rfl, .inl rfl⟩
  · rw [if_neg q]
    unfold applyC
    rw [if_pos rfl]
    by_cases q2 : okSt (endS s (s.next + 1) v s.queue) = true
    · left
      exact ⟨if_pos q2, q2⟩
    · right
      exact ⟨4, if_neg q2, .inr rfl⟩
theorem freeS_all {s : Sta} (h : okSt s = true) : freeS s 200 = (frees (takenS s) 200, 0) := by
  unfold freeS
  rw [if_pos h, if_neg (by simp)]
  rfl
theorem secsV_app (a b : List Ver) : secsV (a ++ b) = secsV a ++ secsV b := by simp [secsV]
structure Trip (s : Sta) (v : Ver) (n k at_ u : Int) (t1 t2 t3 t4 : Sta) (v4 : Ver) : Prop where
  a1 : applyS s (r4 v) = (t1, 0)
  o1 : okSt t1 = true
  a2 : applyS t1 (r6 v.id k at_) = (t2, 0)
  o2 : okSt t2 = true
  a3 : applyS t2 (r8 v.id (sectorsS t2 n) (t2.clock + u)) = (t3, 0)
  o3 : okSt t3 = true
  a5 : applyS t3 (r8 v.id (sectorsS t3 n) 1) = (zeroS, 12)
  a4 : applyS t3 (r9 v.id) = (t4, 0)
  o4 : okSt t4 = true
  fr : freeS t4 200 = freeS t2 200
  la : lastV (keyIs sA sNew) t4.vers = some v4
  w1 : v4.tier = 2
  w2 : v4.vol = k
  w3 : v4.at_ = at_
  w4 : v4.secs = []
theorem tiers {s : Sta} (h : okSt s = true) (hn : s.next ≤ 1000) (hg : ∀ x ∈ s.gone, x < 4) {n k at_ u : Int} (hn0 : 0 ≤ n) (hn1 : n < 150) (hk0 : 4 ≤ k) (hk1 : k < 8) (ha0 : 0 ≤ at_) (ha1 : at_ < 900) (hu0 : 0 ≤ u) (hu1 : u < 9) :
    (∃ e, (applyS s (r4 (newT s n))) = (zeroS, e) ∧ (e = 8 ∨ e = 4)) ∨ ∃ t1 t2 t3 t4 v4, Trip s (newT s n) n k at_ u t1 t2 t3 t4 v4 := by
  rcases new_end (v := newT s n) h hn rfl rfl with ⟨e1, o1⟩ | he
  rotate_left
  · exact .inl he
  right
  obtain ⟨v, hv⟩ : ∃ v, v = newT s n := ⟨_, rfl⟩
  have v1 : v.null = false := by rw [hv]; rfl
  have v2 : v.marker = false := by rw [hv]; rfl
  have v3 : v.tier = 1 := by rw [hv]; rfl
  have v4 : v.size = n := by rw [hv]; rfl
  have v5 : v.till = 0 := by rw [hv]; rfl
  have v6 : v.bucket = sA := by rw [hv]; rfl
  have v7 : v.key = sNew := by rw [hv]; rfl
  rw [← hv] at e1 o1 ⊢
  clear hv
  have g1 := okSt_good.1 o1
  have hc1 : 0 ≤ s.clock := g1.c1
  have hc2 : s.clock ≤ 1073741824 := g1.c2
  have hkg : k ∉ s.gone := fun q => by have := hg k q; omega
  have htp : ∀ (nx : Int) (x y : Ver) (q : List Ask), onTape y = true → y.vol = k → taped (endS s nx x q) y = true := fun nx x y q h1 h2 => by
    unfold taped
    rw [h1, h2, decide_eq_false (show ¬ k ∈ (endS s nx x q).gone from hkg)]
    rfl
  -- the sectors
  have hfr1 : Fr [] (secsV (s.vers ++ [v]) ++ secsU s.upls) := g1.fr
  have hvsec : (v.secs.length : Int) = secsOf n := by
    rcases (g1.snd v (List.mem_append_right _ (List.mem_singleton.2 rfl))).len_or with e | e
    · have q := (g1.snd v (List.mem_append_right _ (List.mem_singleton.2 rfl))).2
      rcases q with ⟨q, _⟩ | ⟨_, _, _, q⟩
      · rw [v2] at q; cases q
      · rcases q with ⟨_, _, q⟩ | ⟨q, _⟩ | ⟨q, _⟩
        · rw [v4] at q; exact q
        · omega
        · omega
    · rw [v4] at e; exact e
  have hsub : (secsV s.vers ++ secsU s.upls).Sublist (secsV (s.vers ++ [v]) ++ secsU s.upls) := by
    rw [secsV_app]
    exact (List.sublist_append_left _ _).append (List.Sublist.refl _)
  have hfr2 : Fr [] (secsV s.vers ++ secsU s.upls) := hfr1.sub hsub
  -- frozen
  obtain ⟨w, hw⟩ : ∃ w, w = inT v 2 [] k at_ 0 := ⟨_, rfl⟩
  have hws : secsV (s.vers ++ [w]) ++ secsU s.upls = secsV s.vers ++ secsU s.upls := by
    rw [secsV_app, hw]
    simp [secsV, inT]
  have hot : onTape w = true := by
    rw [hw]
    unfold onTape inT
    simp
    omega
  have g2 : Good (endS s (s.next + 1) w s.queue) := by
    have := good_upd (q' := s.queue) (t := 2) (S := []) (c := k) (d := at_) (e := 0) g1 v1 v2 (.inr (.inl ⟨rfl, htp _ _ _ _ (hw ▸ hot) rfl, rfl, rfl⟩)) (by rw [v4]; omega) (by rw [← hw, hws]; exact hfr2) (ask_hot g1 v3) (List.Sublist.refl _)
    rw [← hw] at this
    exact this
  have o2 := okSt_good.2 g2
  have c2 : changeS (endS s (s.next + 1) v s.queue) (r6 v.id k at_) = (0, endS s (s.next + 1) w s.queue) := by
    show turnS _ (r6 v.id k at_) = _
    rw [turn_end g1 rfl]
    unfold turnB
    rw [v2, if_neg (by simp), if_pos (show (r6 v.id k at_).kind = 6 from rfl), set_end]
    congr 2
    rw [hw]
    unfold frzV inT
    rw [v3, v5]
    rfl
  have a2 := apply_end o1 c2 o2
  have wid : w.id = v.id := by rw [hw]; rfl
  have wn : w.null = false := by rw [hw]; exact v1
  have wm : w.marker = false := by rw [hw]; exact v2
  have wt : w.tier = 2 := by rw [hw]; rfl
  have wz : w.size = n := by rw [hw]; exact v4
  have wc : w.vol = k := by rw [hw]; rfl
  have wd : w.at_ = at_ := by rw [hw]; rfl
  have ws : w.secs = [] := by rw [hw]; rfl
  have wl : w.till = 0 := by rw [hw]; rfl
  have hk2 : taken_eq g2 = taken_eq g2 := rfl
  have htk2 : takenS (endS s (s.next + 1) w s.queue) = secsV s.vers ++ secsU s.upls := by rw [taken_eq g2]; exact hws
  obtain ⟨S, hS⟩ : ∃ S, S = sectorsS (endS s (s.next + 1) w s.queue) n := ⟨_, rfl⟩
  have hS2 : S = (frees (secsV s.vers ++ secsU s.upls) 200).take (secsOf n).toNat := by
    rw [hS]
    unfold sectorsS
    rw [freeS_all o2, htk2]
  have hSl : (S.length : Int) = secsOf n := by
    have hle : v.secs.length ≤ (frees (secsV s.vers ++ secsU s.upls) 200).length := by
      have hx : Fr [] ((secsV s.vers ++ secsU s.upls) ++ v.secs) := by
        refine hfr1.perm ?_
        rw [secsV_app, List.append_assoc, List.append_assoc]
        refine List.Perm.append_left _ ?_
        have : secsV [v] = v.secs := by simp [secsV]
        rw [this]
        exact List.perm_append_comm
      obtain ⟨_, hx2⟩ := fr_app.1 hx
      exact nodup_len hx2.2 fun x hx3 => frees_mem (hx2.1 x hx3).1 (by simpa using (hx2.1 x hx3).2)
    rw [hS2, List.length_take]
    have := secsOf_nonneg hn0
    omega
  have hSf : Fr [] (secsV s.vers ++ secsU s.upls ++ S) := fr_app.2 ⟨hfr2, by rw [List.nil_append, hS2]; exact frees_fr _ _⟩
  -- thawed
  obtain ⟨q3, hq3⟩ : ∃ q3, q3 = s.queue.filter fun a => !decide (a.ver = v.id) := ⟨_, rfl⟩
  have hq3n : ∀ a ∈ q3, a.ver ≠ w.id := fun a ha => by
    rw [hq3] at ha
    rw [wid]
    simpa using (List.mem_filter.1 ha).2
  have hq3s : q3.Sublist s.queue := by rw [hq3]; exact List.filter_sublist
  obtain ⟨x, hx⟩ : ∃ x, x = inT w 3 S k at_ (s.clock + u) := ⟨_, rfl⟩
  have hot3 : onTape x = true := by
    rw [hx]
    unfold onTape inT
    simp
    omega
  have g3 : Good (endS s (s.next + 1) x q3) := by
    have := good_upd (q' := q3) (t := 3) (S := S) (c := k) (d := at_) (e := s.clock + u) g2 wn wm (.inr (.inr ⟨rfl, htp _ _ _ _ (hx ▸ hot3) rfl, by show 0 ≤ s.clock + u; omega, by show s.clock + u ≤ 1073742824; omega, by show (S.length : Int) = secsOf w.size; rw [wz]; exact hSl⟩)) (by rw [wz]; omega)
      (by
        refine hSf.perm ?_
        rw [secsV_app, List.append_assoc, List.append_assoc]
        refine List.Perm.append_left _ ?_
        have : secsV [inT w 3 S k at_ (s.clock + u)] = S := by simp [secsV, inT]
        rw [this]
        exact List.perm_append_comm) hq3n hq3s
    rw [← hx] at this
    exact this
  have o3 := okSt_good.2 g3
  have c3 : changeS (endS s (s.next + 1) w s.queue) (r8 v.id S (s.clock + u)) = (0, endS s (s.next + 1) x q3) := by
    show turnS _ (r8 v.id S (s.clock + u)) = _
    rw [turn_end g2 wid.symm]
    unfold turnB
    rw [wm, if_neg (by simp), if_neg (show ¬ (r8 v.id S (s.clock + u)).kind = 6 from by show ¬ (8 : Int) = 6; decide), if_pos (show (r8 v.id S (s.clock + u)).kind = 8 from rfl), if_pos wt, set_end]
    congr 1
    unfold forgetS
    rw [hq3, hx]
    unfold thwV inT
    rw [← wc, ← wd]
    rfl
  have a3 := apply_end o2 c3 o3
  have xid : x.id = v.id := by rw [hx]; exact wid
  have xn : x.null = false := by rw [hx]; exact wn
  have xm : x.marker = false := by rw [hx]; exact wm
  have xt : x.tier = 3 := by rw [hx]; rfl
  have xz : x.size = n := by rw [hx]; exact wz
  -- twice
  have a5 : ∀ L m, applyS (endS s (s.next + 1) x q3) (r8 v.id L m) = (zeroS, 12) := fun L m => by
    rw [applyS_of o3]
    have : changeS (endS s (s.next + 1) x q3) (r8 v.id L m) = (12, endS s (s.next + 1) x q3) := by
      show turnS _ (r8 v.id L m) = _
      rw [turn_end g3 xid.symm]
      unfold turnB
      rw [xm, if_neg (by simp), if_neg (show ¬ (r8 v.id L m).kind = 6 from by show ¬ (8 : Int) = 6; decide), if_pos (show (r8 v.id L m).kind = 8 from rfl), if_neg (show ¬ x.tier = 2 by omega)]
    rw [this]
    rfl
  -- chilled
  have hxw : inT x 2 [] k at_ 0 = w := by rw [hx, hw]; rfl
  have g4 : Good (endS s (s.next + 1) w q3) := by
    have := good_upd (q' := q3) (t := 2) (S := []) (c := k) (d := at_) (e := 0) g3 xn xm (.inr (.inl ⟨rfl, htp _ _ _ _ (hxw ▸ hot) rfl, rfl, rfl⟩)) (by rw [xz]; omega) (by rw [hxw, hws]; exact hfr2) (fun a ha => by rw [xid, ← wid]; exact hq3n a ha) (List.Sublist.refl _)
    rw [hxw] at this
    exact this
  have o4 := okSt_good.2 g4
  have c4 : changeS (endS s (s.next + 1) x q3) (r9 v.id) = (0, endS s (s.next + 1) w q3) := by
    show turnS _ (r9 v.id) = _
    rw [turn_end g3 xid.symm]
    unfold turnB
    rw [xm, if_neg (by simp), if_neg (show ¬ (r9 v.id).kind = 6 from by show ¬ (9 : Int) = 6; decide), if_neg (show ¬ (r9 v.id).kind = 8 from by show ¬ (9 : Int) = 8; decide), if_pos xt, set_end]
    congr 2
    rw [← hxw]
    unfold chlV inT
    rw [hx]
    rfl
  have a4 := apply_end o3 c4 o4
  refine ⟨_, _, _, _, w, e1, o1, a2, o2, ?_, o3, a5 _ _, a4, o4, ?_, ?_, wt, wc, wd, ws⟩
  · rw [← hS]
    exact a3
  · rw [freeS_all o4, freeS_all o2, taken_eq g4, taken_eq g2]
    rfl
  · refine lastV_stop (j := s.vers.length) (x := w) ?_ ?_ fun m y hm hy => ?_
    · show (s.vers ++ [w])[s.vers.length]? = some w
      rw [List.getElem?_append_right (Nat.le_refl _), Nat.sub_self]
      rfl
    · unfold keyIs
      rw [hw]
      unfold inT
      rw [v6, v7]
      simp
    · have := (List.getElem?_eq_some_iff.1 hy).1
      have h2 : (endS s (s.next + 1) w q3).vers.length = s.vers.length + 1 := by
        show (s.vers ++ [w]).length = _
        simp
      omega
set_option maxRecDepth 100000 in
set_option maxHeartbeats 8000000 in
theorem sameInts_does {l : List Int} {va vb : Value} {G0 : GW} (hW : G0.Wf) (ha : IntsG G0 va l) (hb : IntsG G0 vb l) :
    Calls Try.prog 34 #[va, vb] G0.w (Ret G0 fun v _ => v = .bool true) := by
  obtain ⟨A1, c1, rfl, ha1, ha2⟩ := Sq.form ha
  obtain ⟨A2, c2, rfl, hb1, hb2⟩ := Sq.form hb
  have hml := max_le
  refine enterS (G := G0) (n := 26) 3000 hW Try.func34 rfl Try.ntmps34 (by simp) ?_
  have q0 : decide ((l.length : Int) = (l.length : Int)) = true := decide_eq_true rfl
  simp only [go_sem, simprocAttr, q0, Bool.not_true]
  refine loop_ok (N := 3000) (ι := Nat) (fun i => ⟨[(0, .c (.v (.slice A1 l.length c1))), (1, .c (.v (.slice A2 l.length c2))), (12, .c (.v (.int .i64 (l.length : Int)))), (13, .c (.v (.int .i64 (i : Int))))], [], [], [], [G0], 0⟩)
    (fun i => i ≤ l.length)
    (fun i => l.length - i) (QOk_body _ _ _) 0 (Nat.zero_le _) (by simp only [go_sem, simprocAttr]; simp) ?_
  rintro i hi
  by_cases hlt : i < l.length
  · have q : decide ((i : Int) < (l.length : Int)) = true := decide_eq_true (by omega)
    obtain ⟨x, hx⟩ : ∃ x, l[i]? = some x := ⟨_, List.getElem?_eq_getElem hlt⟩
    have qx : decide (x = x) = true := decide_eq_true rfl
    simp only [go_sem, simprocAttr, q]
    refine draw_ok (N := 3000) (.take 0 (.take 1 (.take 4 (.take 5 (.alt 2 (.alt 3 (.alt 6 (.alt 7 (.take 8 .done) .last) .last) (.alt 6 (.alt 3 (.alt 7 (.take 8 .done) .last) (.alt 7 (.alt 3 (.take 8 .done) .last) .last)) .last)) (.alt 6 (.alt 2 (.alt 3 (.alt 7 (.take 8 .done) .last) (.alt 7 (.alt 3 (.take 8 .done) .last) .last)) (.alt 7 (.alt 2 (.alt 3 (.take 8 .done) .last) .last) .last)) .last)))))) [] (QOk_body _ _ _) follows_mixed (by kernel_rfl) (by kernel_rfl) ?_
    simp only [go_sem, simprocAttr]
    refine ⟨?_, ?_⟩
    · refine any_ok2 (N := 3000) (elem_does (R := IntG) (l := l) (m := i) rfl tySlice27 tySize3 rfl rfl (dk rfl) rfl hx (fun G hG => ha.mono (hG.le G0 (by simp)))) (QOk_body _ _ _) rfl (by first | exact .inl rfl | exact .inr ⟨_, _, rfl, rfl⟩) (by intro _ hK; first | (obtain ⟨_, _, _, _, rfl⟩ := hK; exact ⟨rfl, fun _ h => h⟩) | (obtain ⟨_, _, rfl⟩ := hK; exact ⟨rfl, fun _ h => h⟩) | (obtain ⟨_, _, _, _, _, _, rfl⟩ := hK; exact ⟨rfl, fun _ h => List.mem_cons_of_mem _ h⟩) | (obtain ⟨_, _, _, _, _, _, _, rfl⟩ := hK; exact ⟨rfl, fun _ h => List.mem_cons_of_mem _ h⟩) | (obtain rfl := hK; exact ⟨rfl, fun _ h => h⟩)) ?_
      rintro _ ⟨g6, o6, cs, G3, hcl3, hcs, rfl⟩
      obtain rfl := hcs
      simp only [go_sem, simprocAttr, qx, Bool.not_true]
      refine ⟨?_, ?_⟩
      · refine any_ok2 (N := 3000) (elem_does (R := IntG) (l := l) (m := i) rfl tySlice27 tySize3 rfl rfl (dk rfl) rfl hx (fun G hG => hb.mono (hG.le G0 (by simp)))) (QOk_body _ _ _) rfl (by first | exact .inl rfl | exact .inr ⟨_, _, rfl, rfl⟩) (by intro _ hK; first | (obtain ⟨_, _, _, _, rfl⟩ := hK; exact ⟨rfl, fun _ h => h⟩) | (obtain ⟨_, _, rfl⟩ := hK; exact ⟨rfl, fun _ h => h⟩) | (obtain ⟨_, _, _, _, _, _, rfl⟩ := hK; exact ⟨rfl, fun _ h => List.mem_cons_of_mem _ h⟩) | (obtain ⟨_, _, _, _, _, _, _, rfl⟩ := hK; exact ⟨rfl, fun _ h => List.mem_cons_of_mem _ h⟩) | (obtain rfl := hK; exact ⟨rfl, fun _ h => h⟩)) ?_
        rintro _ ⟨g7, o7, cs, G4, hcl4, hcs, rfl⟩
        obtain rfl := hcs
        simp only [go_sem, simprocAttr, qx, Bool.not_true]
        refine ⟨by omega, ?_⟩
        refine again_ok (i + 1) hlt (by omega) (by simp only [go_sem, simprocAttr]; simp)
      · refine any_ok2 (N := 3000) (elem_does (R := IntG) (l := l) (m := i) rfl tySlice27 tySize3 rfl rfl (dk rfl) rfl hx (fun G hG => hb.mono (hG.le G0 (by simp)))) (QOk_body _ _ _) rfl (by first | exact .inl rfl | exact .inr ⟨_, _, rfl, rfl⟩) (by intro _ hK; first | (obtain ⟨_, _, _, _, rfl⟩ := hK; exact ⟨rfl, fun _ h => h⟩) | (obtain ⟨_, _, rfl⟩ := hK; exact ⟨rfl, fun _ h => h⟩) | (obtain ⟨_, _, _, _, _, _, rfl⟩ := hK; exact ⟨rfl, fun _ h => List.mem_cons_of_mem _ h⟩) | (obtain ⟨_, _, _, _, _, _, _, rfl⟩ := hK; exact ⟨rfl, fun _ h => List.mem_cons_of_mem _ h⟩) | (obtain rfl := hK; exact ⟨rfl, fun _ h => h⟩)) ?_
        rintro _ ⟨g7, o7, cs, G4, hcl4, hcs, rfl⟩
        obtain rfl := hcs
        simp only [go_sem, simprocAttr, qx, Bool.not_true]
        refine ⟨?_, ?_⟩
        · refine ⟨by omega, ?_⟩
          refine again_ok (i + 1) hlt (by omega) (by simp only [go_sem, simprocAttr]; simp)
        · refine ⟨by omega, ?_⟩
          refine again_ok (i + 1) hlt (by omega) (by simp only [go_sem, simprocAttr]; simp)
    · refine any_ok2 (N := 3000) (elem_does (R := IntG) (l := l) (m := i) rfl tySlice27 tySize3 rfl rfl (dk rfl) rfl hx (fun G hG => hb.mono (hG.le G0 (by simp)))) (QOk_body _ _ _) rfl (by first | exact .inl rfl | exact .inr ⟨_, _, rfl, rfl⟩) (by intro _ hK; first | (obtain ⟨_, _, _, _, rfl⟩ := hK; exact ⟨rfl, fun _ h => h⟩) | (obtain ⟨_, _, rfl⟩ := hK; exact ⟨rfl, fun _ h => h⟩) | (obtain ⟨_, _, _, _, _, _, rfl⟩ := hK; exact ⟨rfl, fun _ h => List.mem_cons_of_mem _ h⟩) | (obtain ⟨_, _, _, _, _, _, _, rfl⟩ := hK; exact ⟨rfl, fun _ h => List.mem_cons_of_mem _ h⟩) | (obtain rfl := hK; exact ⟨rfl, fun _ h => h⟩)) ?_
      rintro _ ⟨g7, o7, cs, G4, hcl4, hcs, rfl⟩
      obtain rfl := hcs
      simp only [go_sem, simprocAttr, qx, Bool.not_true]
      refine ⟨?_, ?_⟩
      · refine any_ok2 (N := 3000) (elem_does (R := IntG) (l := l) (m := i) rfl tySlice27 tySize3 rfl rfl (dk rfl) rfl hx (fun G hG => ha.mono (hG.le G0 (by simp)))) (QOk_body _ _ _) rfl (by first | exact .inl rfl | exact .inr ⟨_, _, rfl, rfl⟩) (by intro _ hK; first | (obtain ⟨_, _, _, _, rfl⟩ := hK; exact ⟨rfl, fun _ h => h⟩) | (obtain ⟨_, _, rfl⟩ := hK; exact ⟨rfl, fun _ h => h⟩) | (obtain ⟨_, _, _, _, _, _, rfl⟩ := hK; exact ⟨rfl, fun _ h => List.mem_cons_of_mem _ h⟩) | (obtain ⟨_, _, _, _, _, _, _, rfl⟩ := hK; exact ⟨rfl, fun _ h => List.mem_cons_of_mem _ h⟩) | (obtain rfl := hK; exact ⟨rfl, fun _ h => h⟩)) ?_
        rintro _ ⟨g6, o6, cs, G3, hcl3, hcs, rfl⟩
        obtain rfl := hcs
        simp only [go_sem, simprocAttr, qx, Bool.not_true]
        refine ⟨?_, ?_⟩
        · refine ⟨by omega, ?_⟩
          refine again_ok (i + 1) hlt (by omega) (by simp only [go_sem, simprocAttr]; simp)
        · refine ⟨by omega, ?_⟩
          refine again_ok (i + 1) hlt (by omega) (by simp only [go_sem, simprocAttr]; simp)
      · refine any_ok2 (N := 3000) (elem_does (R := IntG) (l := l) (m := i) rfl tySlice27 tySize3 rfl rfl (dk rfl) rfl hx (fun G hG => ha.mono (hG.le G0 (by simp)))) (QOk_body _ _ _) rfl (by first | exact .inl rfl | exact .inr ⟨_, _, rfl, rfl⟩) (by intro _ hK; first | (obtain ⟨_, _, _, _, rfl⟩ := hK; exact ⟨rfl, fun _ h => h⟩) | (obtain ⟨_, _, rfl⟩ := hK; exact ⟨rfl, fun _ h => h⟩) | (obtain ⟨_, _, _, _, _, _, rfl⟩ := hK; exact ⟨rfl, fun _ h => List.mem_cons_of_mem _ h⟩) | (obtain ⟨_, _, _, _, _, _, _, rfl⟩ := hK; exact ⟨rfl, fun _ h => List.mem_cons_of_mem _ h⟩) | (obtain rfl := hK; exact ⟨rfl, fun _ h => h⟩)) ?_
        rintro _ ⟨g6, o6, cs, G3, hcl3, hcs, rfl⟩
        obtain rfl := hcs
        simp only [go_sem, simprocAttr, qx, Bool.not_true]
        refine ⟨by omega, ?_⟩
        refine again_ok (i + 1) hlt (by omega) (by simp only [go_sem, simprocAttr]; simp)
  have hil : i = l.length := by omega
  subst hil
  have q : decide ((l.length : Int) < (l.length : Int)) = false := decide_eq_false (by omega)
  simp only [go_sem, simprocAttr, q]
  refine fin_ret (G := G0) Try.results34 ?_
  simp only [go_sem, simprocAttr]
  intro aa w' _ _
  rfl
theorem r6_ok (id a b : Int) : RecOk (r6 id a b) := ⟨Nat.zero_le _, Nat.zero_le _, Nat.zero_le _, Nat.zero_le _, Nat.zero_le _, Nat.zero_le _, Nat.zero_le _, Nat.zero_le _, i64_0⟩
theorem r9_ok (id : Int) : RecOk (r9 id) := ⟨Nat.zero_le _, Nat.zero_le _, Nat.zero_le _, Nat.zero_le _, Nat.zero_le _, Nat.zero_le _, Nat.zero_le _, Nat.zero_le _, i64_0⟩
theorem r8_ok {id n : Int} {l : List Int} (hl : l.length ≤ 1000) (hn : i64 n) : RecOk (r8 id l n) := ⟨Nat.zero_le _, Nat.zero_le _, Nat.zero_le _, Nat.zero_le _, Nat.zero_le _, Nat.zero_le _, Nat.zero_le _, hl, hn⟩
set_option maxRecDepth 100000 in
set_option maxHeartbeats 8000000 in
theorem tiersRound_ret {w : World} (v0 : Value) (l0 : List Raw) (h0 : RawsG ⟨Non, w⟩ v0 l0) (np : Int) (hnp : i64 np) (vo : Int) (hvo : i64 vo) (ap : Int) (hap : i64 ap) (un : Int) (hun : i64 un) :
    Calls Try.prog 14 #[v0, .int .i64 np, .int .i64 vo, .int .i64 ap, .int .i64 un] w (Ret ⟨Non, w⟩ fun v _ => v = .bool true) := by
  have hml := max_le
  have hok := stateS_ok l0 30
  have hnx := stateS_next l0 30
  have hgn := stateS_gone l0 30
  obtain ⟨A0, c0, rfl, _, _⟩ := ScR.form h0
  refine enterS (G := ⟨Non, w⟩) (n := 189) 3000 (wf_nonL w) Try.func14 rfl Try.ntmps14 (by simp) ?_
  simp only [go_sem, simprocAttr]
  refine plain_ok (N := 3000) (call_does (fun v G => ∃ sv ov, v = .tuple #[sv, ov] ∧ StaG G sv (stateS l0 30).1 ∧ RecsG G ov (stateS l0 30).2) rfl rfl (by kernel_rfl) rfl (dk rfl) (fun G hG => state_does (most := 30) hG.wf (ScR.mono h0 rawG_mono (hG.le ⟨Non, w⟩ (by simp))) (by omega))) (QOk_body _ _ _) (by first | exact .inl rfl | exact .inr ⟨_, _, rfl, rfl⟩) ?_
  rintro _ ⟨_, G1, ⟨sv, ov, rfl, hs, ho⟩, hn1, rfl⟩
  clear hn1
  obtain ⟨A1, c1, A2, c2, A3, c3, A4, c4, A5, c5, rfl, hP⟩ := hs.form
  obtain ⟨Ao, co, rfl, _⟩ := Sq.form ho
  obtain ⟨s, hsd⟩ : ∃ s, s = (stateS l0 30).1 := ⟨_, rfl⟩
  obtain ⟨rs, hrd⟩ : ∃ rs, rs = (stateS l0 30).2 := ⟨_, rfl⟩
  rw [← hsd] at hok hnx hgn hP hs ⊢
  rw [← hrd] at ho ⊢
  clear hsd hrd
  have hgd := okSt_good.1 hok
  have b2 := hgd.vlen
  have n1 := hgd.n1
  have cc1 := hgd.c1
  have cc2 := hgd.c2
  have hnb := pick_bd np 150 (by omega)
  have hkb := pick_bd vo 4 (by omega)
  have hab := pick_bd ap 900 (by omega)
  have hub := pick_bd un 9 (by omega)
  obtain ⟨n, hnd⟩ : ∃ n, n = pick np 150 := ⟨_, rfl⟩
  obtain ⟨kk, hkd⟩ : ∃ kk, kk = pick vo 4 := ⟨_, rfl⟩
  obtain ⟨at_, had⟩ : ∃ at_, at_ = pick ap 900 := ⟨_, rfl⟩
  obtain ⟨u, hud⟩ : ∃ u, u = pick un 9 := ⟨_, rfl⟩
  rw [← hnd] at hnb
  rw [← hkd] at hkb
  rw [← had] at hab
  rw [← hud] at hub
  have htr := tiers (k := 4 + kk) (at_ := at_) (u := u) hok (by omega) hgn hnb.1 hnb.2 (by omega) (by omega) hab.1 hab.2 hub.1 hub.2
  simp only [go_sem, simprocAttr]
  intro g1
  refine plain_ok (N := 3000) (call_does (fun v _ => v = .int .i64 n) rfl rfl (by kernel_rfl) rfl (dk rfl) (fun G hG => by rw [hnd]; exact picked_does hG.wf hnp (by omega) (by omega))) (QOk_body _ _ _) (by first | exact .inl rfl | exact .inr ⟨_, _, rfl, rfl⟩) ?_
  rintro _ ⟨_, G2, rfl, hn2, rfl⟩
  clear hn2
  simp only [go_sem, simprocAttr]
  refine cut_code2 (N := 3000) (ι := (Option Addr × Nat) × Nat × GW)
    (fun i => match i with | ((Av, cv), g2, GS) => ⟨[(2, .c (.v (.int .i64 vo))), (3, .c (.v (.int .i64 ap))), (4, .c (.v (.int .i64 un))), (11, .c (.p 0 g1 0)), (13, .c (.v (.int .i64 n))), (14, .c (.p 1 g2 0))],
      [⟨1, g2, 44, (verV (newT s n) (.slice Av (sectorsS s n).length cv)).map .v⟩, ⟨0, g1, 29, [.v (.int .i64 s.next), .v (.int .i64 s.clock), .v (.slice A1 s.bkts.length c1), .v (.slice A2 s.vers.length c2), .v (.slice A3 s.upls.length c3), .v (.slice A4 s.queue.length c4), .v (.slice A5 s.gone.length c5)]⟩], [], [], [GS, G1, ⟨Non, w⟩], 2⟩)
    (fun i => match i with | ((Av, cv), g2, GS) => IntsG GS (.slice Av (sectorsS s n).length cv) (sectorsS s n)) (QOk_body _ _ _) ?_ ?_
  rotate_left
  · intro k' J hk' hJ
    refine draw_ok (N := 3000) (.take 0 (.take 1 (.take 2 (.take 3 (.take 4 (.take 5 (.take 6 (.alt 7 (.take 8 (.alt 9 (.alt 10 .done .last) .last)) (.alt 9 (.alt 7 (.take 8 (.alt 10 .done .last)) .last) .last))))))))) [] hk' follows_mixed (by kernel_rfl) (by kernel_rfl) ?_
    simp only [go_sem, simprocAttr]
    refine ⟨?_, fun g2 => ?_⟩
    · refine anyc_ok (N := 3000) (call_does (fun v G => IntsG G v (sectorsS s n)) rfl rfl (by kernel_rfl) rfl (dk rfl) (fun G hG => sectorsOf_does hG.wf (hP.mono (hG.le G1 (by simp))).g (by omega) (by omega))) hk' rfl (by first | exact .inl rfl | exact .inr ⟨_, _, rfl, rfl⟩) ?_
      rintro _ ⟨sv, G5, hsv, hn5, rfl⟩
      clear hn5
      obtain ⟨Av, cv, rfl, _⟩ := Sq.form hsv
      simp only [go_sem, simprocAttr]
      intro g2
      exact hJ ((Av, cv), g2, G5) _ hsv (by simp only [go_sem, simprocAttr, verV, List.map_cons, List.map_nil]; simp [newT, noV, sA, sNew])
    · refine anyc_ok (N := 3000) (call_does (fun v G => IntsG G v (sectorsS s n)) rfl rfl (by kernel_rfl) rfl (dk rfl) (fun G hG => sectorsOf_does hG.wf (hP.mono (hG.le G1 (by simp))).g (by omega) (by omega))) hk' rfl (by first | exact .inl rfl | exact .inr ⟨_, _, rfl, rfl⟩) ?_
      rintro _ ⟨sv, G5, hsv, hn5, rfl⟩
      clear hn5
      obtain ⟨Av, cv, rfl, _⟩ := Sq.form hsv
      simp only [go_sem, simprocAttr]
      exact hJ ((Av, cv), g2, G5) _ hsv (by simp only [go_sem, simprocAttr, verV, List.map_cons, List.map_nil]; simp [newT, noV, sA, sNew])
  rintro ⟨⟨Av, cv⟩, g2, GS⟩ hsv
  simp only at hsv ⊢
  obtain ⟨v, hvd⟩ : ∃ v, v = newT s n := ⟨_, rfl⟩
  have hvs : v.secs = sectorsS s n := by rw [hvd]; rfl
  have hvl : v.secs.length ≤ 1000 := by rw [hvs]; exact sectorsS_len _ _
  rw [← hvd] at htr
  rw [← hvd, ← hvs]
  rw [← hvs] at hsv
  have hvb : v.bucket.size ≤ maxLen := by rw [hvd]; show 1 ≤ maxLen; unfold maxLen; omega
  have hvk : v.key.size ≤ maxLen := by rw [hvd]; show 3 ≤ maxLen; unfold maxLen; omega
  have hrok : RecOk (r4 v) := ⟨Nat.zero_le _, Nat.zero_le _, Nat.zero_le _, hvb, hvk, hvl, Nat.zero_le _, Nat.zero_le _, i64_0⟩
  clear hvd hvs
  simp only [go_sem, simprocAttr, verV, List.map_cons, List.map_nil]
  refine plain_ok (N := 3000) (call_does (fun v _ => v = .int .i64 kk) rfl rfl (by kernel_rfl) rfl (dk rfl) (fun G hG => by rw [hkd]; exact picked_does hG.wf hvo (by omega) (by omega))) (QOk_body _ _ _) (by first | exact .inl rfl | exact .inr ⟨_, _, rfl, rfl⟩) ?_
  rintro _ ⟨_, G3, rfl, hn3, rfl⟩
  clear hn3
  simp only [go_sem, simprocAttr, verV, List.map_cons, List.map_nil]
  refine ⟨by omega, ?_⟩
  refine plain_ok (N := 3000) (call_does (fun y G => ∃ sv', y = .tuple #[sv', .int .i64 (applyS s (r4 v)).2] ∧ StaG G sv' (applyS s (r4 v)).1) rfl rfl (by kernel_rfl) rfl (dk rfl) (fun G hG => apply_does hG.wf (hP.mono (hG.le G1 (by simp))).g ⟨_, _, _, rfl, hsv.mono (hG.le GS (by simp)), Sq.nil, Sq.nil, hrok⟩)) (QOk_body _ _ _) (by first | exact .inl rfl | exact .inr ⟨_, _, rfl, rfl⟩) ?_
  rintro _ ⟨_, G4, ⟨sv4, rfl, hs4⟩, hn4, rfl⟩
  clear hn4
  
  rcases htr with ⟨e, hat, he⟩ | ⟨t1, t2, t3, t4, v4, T⟩
  · obtain ⟨B1, d1, B2, d2, B3, d3, B4, d4, B5, d5, rfl, hP3⟩ := hs4.form
    simp only [go_sem, simprocAttr, verV, List.map_cons, List.map_nil]
    intro g3
    refine plain_ok (N := 3000) (call_does (fun v _ => v = .int .i64 0) rfl rfl (by kernel_rfl) rfl (dk rfl) (fun G hG => by rw [← errSt_ok hok]; exact check_does hG.wf (hP.mono (hG.le G1 (by simp))).g)) (QOk_body _ _ _) (by first | exact .inl rfl | exact .inr ⟨_, _, rfl, rfl⟩) ?_
    rintro _ ⟨_, G6, rfl, hn6, rfl⟩
    clear hn6
    rw [hat] at hP3 ⊢
    rcases he with rfl | rfl
    · simp only [go_sem, simprocAttr]
      refine fin_ret (G := ⟨Non, w⟩) Try.results14 ?_
      simp only [go_sem, simprocAttr]
      intro aa w' _ hle
      rfl
    · simp only [go_sem, simprocAttr]
      refine fin_ret (G := ⟨Non, w⟩) Try.results14 ?_
      simp only [go_sem, simprocAttr]
      intro aa w' _ hle
      rfl
  rw [T.a1] at hs4 ⊢
  obtain ⟨B1, b1, B2, b2, B3, b3, B4, b4, B5, b5, rfl, hPB⟩ := hs4.form
  simp only [go_sem, simprocAttr, verV, List.map_cons, List.map_nil]
  intro g3
  refine plain_ok (N := 3000) (call_does (fun v _ => v = .int .i64 0) rfl rfl (by kernel_rfl) rfl (dk rfl) (fun G hG => by rw [← errSt_ok hok]; exact check_does hG.wf (hP.mono (hG.le G1 (by simp))).g)) (QOk_body _ _ _) (by first | exact .inl rfl | exact .inr ⟨_, _, rfl, rfl⟩) ?_
  rintro _ ⟨_, G6, rfl, hn6, rfl⟩
  clear hn6
  simp only [go_sem, simprocAttr]
  refine cut_code2 (N := 3000) (ι := ((Option Addr × Nat) × (Option Addr × Nat) × (Option Addr × Nat) × (Option Addr × Nat) × (Option Addr × Nat)) × GW)
    (fun i => match i with | (((D1, d1), (D2, d2), (D3, d3), (D4, d4), (D5, d5)), GD) => ⟨[(2, .c (.v (.int .i64 vo))), (3, .c (.v (.int .i64 ap))), (4, .c (.v (.int .i64 un))), (13, .c (.v (.int .i64 n))), (14, .c (.p 1 g2 0)), (15, .c (.v (.int .i64 (4 + kk)))), (16, .c (.p 2 g3 0)), (18, .c (.v (.int .i64 0)))],
      [⟨2, g3, 29, [.v (.int .i64 t2.next), .v (.int .i64 t2.clock), .v (.slice D1 t2.bkts.length d1), .v (.slice D2 t2.vers.length d2), .v (.slice D3 t2.upls.length d3), .v (.slice D4 t2.queue.length d4), .v (.slice D5 t2.gone.length d5)]⟩, ⟨1, g2, 44, (verV v (.slice Av v.secs.length cv)).map .v⟩], [], [], [GD, GS, G1, ⟨Non, w⟩], 3⟩)
    (fun i => match i with | (((D1, d1), (D2, d2), (D3, d3), (D4, d4), (D5, d5)), GD) => StaP GD t2 D1 d1 D2 d2 D3 d3 D4 d4 D5 d5) (QOk_body _ _ _) ?_ ?_
  rotate_left
  · intro k' J hk' hJ
    refine draw_ok (N := 3000) (.take 1 (.take 2 (.take 3 (.take 4 (.alt 0 (.alt 5 (.take 6 (.alt 7 (.take 8 (.take 9 (.take 10 (.alt 11 (.take 12 .done) .last)))) .last)) .last) (.alt 5 (.take 6 (.alt 0 (.alt 7 (.take 8 (.take 9 (.take 10 (.alt 11 (.take 12 .done) .last)))) .last) .last)) .last)))))) [2] hk' follows_mixed (by kernel_rfl) (by kernel_rfl) ?_
    simp only [go_sem, simprocAttr, verV, List.map_cons, List.map_nil]
    refine ⟨?_, ?_⟩
    · refine anyc_ok (N := 3000) (call_does (fun v _ => v = .int .i64 at_) rfl rfl (by kernel_rfl) rfl (dk rfl) (fun G hG => by rw [had]; exact picked_does hG.wf hap (by omega) (by omega))) hk' rfl (by first | exact .inl rfl | exact .inr ⟨_, _, rfl, rfl⟩) ?_
      rintro _ ⟨_, G7, rfl, hn7, rfl⟩
      clear hn7
      simp only [go_sem, simprocAttr, verV, List.map_cons, List.map_nil]
      refine anyc_ok (N := 3000) (call_does (fun y G => ∃ sv', y = .tuple #[sv', .int .i64 (applyS t1 (r6 v.id (4 + kk) at_)).2] ∧ StaG G sv' (applyS t1 (r6 v.id (4 + kk) at_)).1) rfl rfl (by kernel_rfl) rfl (dk rfl) (fun G hG => apply_does hG.wf ((hPB.mono (hG.le G4 (by simp))).g) ⟨_, _, _, rfl, Sq.nil, Sq.nil, Sq.nil, r6_ok _ _ _⟩)) hk' rfl (by first | exact .inl rfl | exact .inr ⟨_, _, rfl, rfl⟩) ?_
      rintro _ ⟨_, GD, ⟨svD, rfl, hsD⟩, hnD, rfl⟩
      clear hnD
      rw [T.a2] at hsD ⊢
      obtain ⟨D1, d1, D2, d2, D3, d3, D4, d4, D5, d5, rfl, hPD⟩ := hsD.form
      simp only [go_sem, simprocAttr, verV, List.map_cons, List.map_nil]
      exact hJ (((D1, d1), (D2, d2), (D3, d3), (D4, d4), (D5, d5)), GD) _ hPD (by simp only [go_sem, simprocAttr, verV, List.map_cons, List.map_nil]; simp)
    · refine anyc_ok (N := 3000) (call_does (fun v _ => v = .int .i64 at_) rfl rfl (by kernel_rfl) rfl (dk rfl) (fun G hG => by rw [had]; exact picked_does hG.wf hap (by omega) (by omega))) hk' rfl (by first | exact .inl rfl | exact .inr ⟨_, _, rfl, rfl⟩) ?_
      rintro _ ⟨_, G7, rfl, hn7, rfl⟩
      clear hn7
      simp only [go_sem, simprocAttr, verV, List.map_cons, List.map_nil]
      refine anyc_ok (N := 3000) (call_does (fun y G => ∃ sv', y = .tuple #[sv', .int .i64 (applyS t1 (r6 v.id (4 + kk) at_)).2] ∧ StaG G sv' (applyS t1 (r6 v.id (4 + kk) at_)).1) rfl rfl (by kernel_rfl) rfl (dk rfl) (fun G hG => apply_does hG.wf ((hPB.mono (hG.le G4 (by simp))).g) ⟨_, _, _, rfl, Sq.nil, Sq.nil, Sq.nil, r6_ok _ _ _⟩)) hk' rfl (by first | exact .inl rfl | exact .inr ⟨_, _, rfl, rfl⟩) ?_
      rintro _ ⟨_, GD, ⟨svD, rfl, hsD⟩, hnD, rfl⟩
      clear hnD
      rw [T.a2] at hsD ⊢
      obtain ⟨D1, d1, D2, d2, D3, d3, D4, d4, D5, d5, rfl, hPD⟩ := hsD.form
      simp only [go_sem, simprocAttr, verV, List.map_cons, List.map_nil]
      exact hJ (((D1, d1), (D2, d2), (D3, d3), (D4, d4), (D5, d5)), GD) _ hPD (by simp only [go_sem, simprocAttr, verV, List.map_cons, List.map_nil]; simp)
  rintro ⟨⟨⟨D1, d1⟩, ⟨D2, d2⟩, ⟨D3, d3⟩, ⟨D4, d4⟩, ⟨D5, d5⟩⟩, GD⟩ hPD
  simp only at hPD ⊢
  have hg2 := okSt_good.1 T.o2
  have hc21 := hg2.c1
  have hc22 := hg2.c2
  obtain ⟨fr, hfr⟩ : ∃ fr, fr = (freeS t2 200).1 := ⟨_, rfl⟩
  have hfr2 := freeS_all T.o2
  simp only [go_sem, simprocAttr, verV, List.map_cons, List.map_nil]
  refine plain_ok (N := 3000) (call_does (fun y G => ∃ fv, y = .tuple #[fv, .int .i64 0] ∧ IntsG G fv fr) rfl rfl (by kernel_rfl) rfl (dk rfl) (fun G hG => by have h := free_does (many := 200) hG.wf (hPD.mono (hG.le GD (by simp))).g; rw [hfr]; rw [hfr2] at h ⊢; exact h)) (QOk_body _ _ _) (by first | exact .inl rfl | exact .inr ⟨_, _, rfl, rfl⟩) ?_
  rintro _ ⟨_, GF, ⟨fv, rfl, hfv⟩, hnF, rfl⟩
  clear hnF
  obtain ⟨Af, cf, rfl, _⟩ := Sq.form hfv
  simp only [go_sem, simprocAttr, verV, List.map_cons, List.map_nil]
  refine cut_code2 (N := 3000) (ι := ((Option Addr × Nat) × (Option Addr × Nat) × (Option Addr × Nat) × (Option Addr × Nat) × (Option Addr × Nat)) × Nat × GW)
    (fun i => match i with | (((E1, e1), (E2, e2), (E3, e3), (E4, e4), (E5, e5)), g4, GE) => ⟨[(2, .c (.v (.int .i64 vo))), (3, .c (.v (.int .i64 ap))), (4, .c (.v (.int .i64 un))), (13, .c (.v (.int .i64 n))), (14, .c (.p 1 g2 0)), (15, .c (.v (.int .i64 (4 + kk)))), (18, .c (.v (.int .i64 0))), (19, .c (.v (.slice Af fr.length cf))), (20, .c (.v (.int .i64 0))), (21, .c (.p 3 g4 0)), (22, .c (.v (.int .i64 0)))],
      [⟨3, g4, 29, [.v (.int .i64 t3.next), .v (.int .i64 t3.clock), .v (.slice E1 t3.bkts.length e1), .v (.slice E2 t3.vers.length e2), .v (.slice E3 t3.upls.length e3), .v (.slice E4 t3.queue.length e4), .v (.slice E5 t3.gone.length e5)]⟩, ⟨1, g2, 44, (verV v (.slice Av v.secs.length cv)).map .v⟩], [], [], [GE, GF, GD, GS, G1, ⟨Non, w⟩], 4⟩)
    (fun i => match i with | (((E1, e1), (E2, e2), (E3, e3), (E4, e4), (E5, e5)), g4, GE) => StaP GE t3 E1 e1 E2 e2 E3 e3 E4 e4 E5 e5) (QOk_body _ _ _) ?_ ?_
  rotate_left
  · intro k' J hk' hJ
    refine draw_ok (N := 3000) (.take 0 (.take 1 (.take 2 (.take 3 (.take 4 (.take 6 (.take 7 (.take 8 (.alt 5 (.alt 9 (.take 10 (.take 11 (.alt 12 (.take 13 (.take 14 (.take 15 (.alt 16 (.alt 17 (.take 18 .done) .last) .last)))) (.alt 16 (.alt 12 (.take 13 (.take 14 (.take 15 (.alt 17 (.take 18 .done) .last)))) .last) .last)))) (.alt 16 (.alt 9 (.take 10 (.take 11 (.alt 12 (.take 13 (.take 14 (.take 15 (.alt 17 (.take 18 .done) .last)))) .last))) .last) .last)) (.alt 16 (.alt 5 (.alt 9 (.take 10 (.take 11 (.alt 12 (.take 13 (.take 14 (.take 15 (.alt 17 (.take 18 .done) .last)))) .last))) .last) .last) .last)))))))))) [] hk' follows_mixed (by kernel_rfl) (by kernel_rfl) ?_
    simp only [go_sem, simprocAttr, verV, List.map_cons, List.map_nil]
    refine ⟨?_, fun g4 => ?_⟩
    · refine anyc_ok (N := 3000) (call_does (fun v G => IntsG G v (sectorsS t2 n)) rfl rfl (by kernel_rfl) rfl (dk rfl) (fun G hG => sectorsOf_does hG.wf (hPD.mono (hG.le GD (by simp))).g (by omega) (by omega))) hk' rfl (by first | exact .inl rfl | exact .inr ⟨_, _, rfl, rfl⟩) ?_
      rintro _ ⟨sv, GX, hsX, hnX, rfl⟩
      clear hnX
      obtain ⟨Ax, cx, rfl, _⟩ := Sq.form hsX
      simp only [go_sem, simprocAttr, verV, List.map_cons, List.map_nil]
      refine ⟨?_, fun g4 => ?_⟩
      · refine anyc_ok (N := 3000) (call_does (fun v _ => v = .int .i64 u) rfl rfl (by kernel_rfl) rfl (dk rfl) (fun G hG => by rw [hud]; exact picked_does hG.wf hun (by omega) (by omega))) hk' rfl (by first | exact .inl rfl | exact .inr ⟨_, _, rfl, rfl⟩) ?_
        rintro _ ⟨_, GY, rfl, hnY, rfl⟩
        clear hnY
        simp only [go_sem, simprocAttr, verV, List.map_cons, List.map_nil]
        refine ⟨by omega, ?_⟩
        refine ⟨?_, fun g4 => ?_⟩
        · refine anyc_ok (N := 3000) (call_does (fun y G => ∃ sv', y = .tuple #[sv', .int .i64 (applyS t2 (r8 v.id (sectorsS t2 n) (t2.clock + u))).2] ∧ StaG G sv' (applyS t2 (r8 v.id (sectorsS t2 n) (t2.clock + u))).1) rfl rfl (by kernel_rfl) rfl (dk rfl) (fun G hG => apply_does hG.wf ((hPD.mono (hG.le GD (by simp))).g) ⟨_, _, _, rfl, Sq.nil, Sq.nil, hsX.mono (hG.le GX (by simp)), r8_ok (sectorsS_len _ _) ⟨by omega, by omega⟩⟩)) hk' rfl (by first | exact .inl rfl | exact .inr ⟨_, _, rfl, rfl⟩) ?_
          rintro _ ⟨_, GE, ⟨svE, rfl, hsE⟩, hnE, rfl⟩
          clear hnE
          rw [T.a3] at hsE ⊢
          obtain ⟨E1, e1, E2, e2, E3, e3, E4, e4, E5, e5, rfl, hPE⟩ := hsE.form
          simp only [go_sem, simprocAttr, verV, List.map_cons, List.map_nil]
          intro g4
          exact hJ (((E1, e1), (E2, e2), (E3, e3), (E4, e4), (E5, e5)), g4, GE) _ hPE (by simp only [go_sem, simprocAttr, verV, List.map_cons, List.map_nil]; simp)
        · refine anyc_ok (N := 3000) (call_does (fun y G => ∃ sv', y = .tuple #[sv', .int .i64 (applyS t2 (r8 v.id (sectorsS t2 n) (t2.clock + u))).2] ∧ StaG G sv' (applyS t2 (r8 v.id (sectorsS t2 n) (t2.clock + u))).1) rfl rfl (by kernel_rfl) rfl (dk rfl) (fun G hG => apply_does hG.wf ((hPD.mono (hG.le GD (by simp))).g) ⟨_, _, _, rfl, Sq.nil, Sq.nil, hsX.mono (hG.le GX (by simp)), r8_ok (sectorsS_len _ _) ⟨by omega, by omega⟩⟩)) hk' rfl (by first | exact .inl rfl | exact .inr ⟨_, _, rfl, rfl⟩) ?_
          rintro _ ⟨_, GE, ⟨svE, rfl, hsE⟩, hnE, rfl⟩
          clear hnE
          rw [T.a3] at hsE ⊢
          obtain ⟨E1, e1, E2, e2, E3, e3, E4, e4, E5, e5, rfl, hPE⟩ := hsE.form
          simp only [go_sem, simprocAttr, verV, List.map_cons, List.map_nil]
          exact hJ (((E1, e1), (E2, e2), (E3, e3), (E4, e4), (E5, e5)), g4, GE) _ hPE (by simp only [go_sem, simprocAttr, verV, List.map_cons, List.map_nil]; simp)
      · refine anyc_ok (N := 3000) (call_does (fun v _ => v = .int .i64 u) rfl rfl (by kernel_rfl) rfl (dk rfl) (fun G hG => by rw [hud]; exact picked_does hG.wf hun (by omega) (by omega))) hk' rfl (by first | exact .inl rfl | exact .inr ⟨_, _, rfl, rfl⟩) ?_
        rintro _ ⟨_, GY, rfl, hnY, rfl⟩
        clear hnY
        simp only [go_sem, simprocAttr, verV, List.map_cons, List.map_nil]
        refine ⟨by omega, ?_⟩
        refine anyc_ok (N := 3000) (call_does (fun y G => ∃ sv', y = .tuple #[sv', .int .i64 (applyS t2 (r8 v.id (sectorsS t2 n) (t2.clock + u))).2] ∧ StaG G sv' (applyS t2 (r8 v.id (sectorsS t2 n) (t2.clock + u))).1) rfl rfl (by kernel_rfl) rfl (dk rfl) (fun G hG => apply_does hG.wf ((hPD.mono (hG.le GD (by simp))).g) ⟨_, _, _, rfl, Sq.nil, Sq.nil, hsX.mono (hG.le GX (by simp)), r8_ok (sectorsS_len _ _) ⟨by omega, by omega⟩⟩)) hk' rfl (by first | exact .inl rfl | exact .inr ⟨_, _, rfl, rfl⟩) ?_
        rintro _ ⟨_, GE, ⟨svE, rfl, hsE⟩, hnE, rfl⟩
        clear hnE
        rw [T.a3] at hsE ⊢
        obtain ⟨E1, e1, E2, e2, E3, e3, E4, e4, E5, e5, rfl, hPE⟩ := hsE.form
        simp only [go_sem, simprocAttr, verV, List.map_cons, List.map_nil]
        exact hJ (((E1, e1), (E2, e2), (E3, e3), (E4, e4), (E5, e5)), g4, GE) _ hPE (by simp only [go_sem, simprocAttr, verV, List.map_cons, List.map_nil]; simp)
    · refine anyc_ok (N := 3000) (call_does (fun v G => IntsG G v (sectorsS t2 n)) rfl rfl (by kernel_rfl) rfl (dk rfl) (fun G hG => sectorsOf_does hG.wf (hPD.mono (hG.le GD (by simp))).g (by omega) (by omega))) hk' rfl (by first | exact .inl rfl | exact .inr ⟨_, _, rfl, rfl⟩) ?_
      rintro _ ⟨sv, GX, hsX, hnX, rfl⟩
      clear hnX
      obtain ⟨Ax, cx, rfl, _⟩ := Sq.form hsX
      simp only [go_sem, simprocAttr, verV, List.map_cons, List.map_nil]
      refine anyc_ok (N := 3000) (call_does (fun v _ => v = .int .i64 u) rfl rfl (by kernel_rfl) rfl (dk rfl) (fun G hG => by rw [hud]; exact picked_does hG.wf hun (by omega) (by omega))) hk' rfl (by first | exact .inl rfl | exact .inr ⟨_, _, rfl, rfl⟩) ?_
      rintro _ ⟨_, GY, rfl, hnY, rfl⟩
      clear hnY
      simp only [go_sem, simprocAttr, verV, List.map_cons, List.map_nil]
      refine ⟨by omega, ?_⟩
      refine anyc_ok (N := 3000) (call_does (fun y G => ∃ sv', y = .tuple #[sv', .int .i64 (applyS t2 (r8 v.id (sectorsS t2 n) (t2.clock + u))).2] ∧ StaG G sv' (applyS t2 (r8 v.id (sectorsS t2 n) (t2.clock + u))).1) rfl rfl (by kernel_rfl) rfl (dk rfl) (fun G hG => apply_does hG.wf ((hPD.mono (hG.le GD (by simp))).g) ⟨_, _, _, rfl, Sq.nil, Sq.nil, hsX.mono (hG.le GX (by simp)), r8_ok (sectorsS_len _ _) ⟨by omega, by omega⟩⟩)) hk' rfl (by first | exact .inl rfl | exact .inr ⟨_, _, rfl, rfl⟩) ?_
      rintro _ ⟨_, GE, ⟨svE, rfl, hsE⟩, hnE, rfl⟩
      clear hnE
      rw [T.a3] at hsE ⊢
      obtain ⟨E1, e1, E2, e2, E3, e3, E4, e4, E5, e5, rfl, hPE⟩ := hsE.form
      simp only [go_sem, simprocAttr, verV, List.map_cons, List.map_nil]
      exact hJ (((E1, e1), (E2, e2), (E3, e3), (E4, e4), (E5, e5)), g4, GE) _ hPE (by simp only [go_sem, simprocAttr, verV, List.map_cons, List.map_nil]; simp)
  rintro ⟨⟨⟨E1, e1⟩, ⟨E2, e2⟩, ⟨E3, e3⟩, ⟨E4, e4⟩, ⟨E5, e5⟩⟩, g4, GE⟩ hPE
  simp only at hPE ⊢
  simp only [go_sem, simprocAttr, verV, List.map_cons, List.map_nil]
  refine cut_code2 (N := 3000) (ι := Unit)
    (fun _ => ⟨[(2, .c (.v (.int .i64 vo))), (3, .c (.v (.int .i64 ap))), (4, .c (.v (.int .i64 un))), (14, .c (.p 1 g2 0)), (15, .c (.v (.int .i64 (4 + kk)))), (18, .c (.v (.int .i64 0))), (19, .c (.v (.slice Af fr.length cf))), (20, .c (.v (.int .i64 0))), (21, .c (.p 3 g4 0)), (22, .c (.v (.int .i64 0))), (24, .c (.v (.int .i64 12)))],
      [⟨3, g4, 29, [.v (.int .i64 t3.next), .v (.int .i64 t3.clock), .v (.slice E1 t3.bkts.length e1), .v (.slice E2 t3.vers.length e2), .v (.slice E3 t3.upls.length e3), .v (.slice E4 t3.queue.length e4), .v (.slice E5 t3.gone.length e5)]⟩, ⟨1, g2, 44, (verV v (.slice Av v.secs.length cv)).map .v⟩], [], [], [GE, GF, GD, GS, G1, ⟨Non, w⟩], 5⟩)
    (fun _ => True) (QOk_body _ _ _) ?_ ?_
  rotate_left
  · intro k' J hk' hJ
    refine draw_ok (N := 3000) (.take 0 (.take 1 (.take 2 (.take 3 (.take 4 (.alt 5 (.take 6 (.alt 7 (.take 8 (.take 9 (.take 10 (.alt 11 (.alt 12 (.take 13 .done) .last) .last)))) (.alt 11 (.alt 7 (.take 8 (.take 9 (.take 10 (.alt 12 (.take 13 .done) .last)))) .last) .last))) (.alt 11 (.alt 5 (.take 6 (.alt 7 (.take 8 (.take 9 (.take 10 (.alt 12 (.take 13 .done) .last)))) .last)) .last) .last))))))) [] hk' follows_mixed (by kernel_rfl) (by kernel_rfl) ?_
    simp only [go_sem, simprocAttr, verV, List.map_cons, List.map_nil]
    refine ⟨?_, fun g7 => ?_⟩
    · refine anyc_ok (N := 3000) (call_does (fun v G => IntsG G v (sectorsS t3 n)) rfl rfl (by kernel_rfl) rfl (dk rfl) (fun G hG => sectorsOf_does hG.wf (hPE.mono (hG.le GE (by simp))).g (by omega) (by omega))) hk' rfl (by first | exact .inl rfl | exact .inr ⟨_, _, rfl, rfl⟩) ?_
      rintro _ ⟨sv, GX, hsX, hnX, rfl⟩
      clear hnX
      obtain ⟨Ax, cx, rfl, _⟩ := Sq.form hsX
      simp only [go_sem, simprocAttr, verV, List.map_cons, List.map_nil]
      refine ⟨?_, fun g7 => ?_⟩
      · refine anyc_ok (N := 3000) (call_does (fun y G => ∃ sv', y = .tuple #[sv', .int .i64 (applyS t3 (r8 v.id (sectorsS t3 n) 1)).2] ∧ StaG G sv' (applyS t3 (r8 v.id (sectorsS t3 n) 1)).1) rfl rfl (by kernel_rfl) rfl (dk rfl) (fun G hG => apply_does hG.wf ((hPE.mono (hG.le GE (by simp))).g) ⟨_, _, _, rfl, Sq.nil, Sq.nil, hsX.mono (hG.le GX (by simp)), r8_ok (sectorsS_len _ _) ⟨by omega, by omega⟩⟩)) hk' rfl (by first | exact .inl rfl | exact .inr ⟨_, _, rfl, rfl⟩) ?_
        rintro _ ⟨_, GZ, ⟨svE, rfl, hsZ⟩, hnE, rfl⟩
        clear hnE
        rw [T.a5] at hsZ ⊢
        obtain ⟨Z1, z1, Z2, z2, Z3, z3, Z4, z4, Z5, z5, rfl, hPZ⟩ := hsZ.form
        simp only [go_sem, simprocAttr, verV, List.map_cons, List.map_nil]
        intro g7
        exact hJ () _ trivial (by simp only [go_sem, simprocAttr, verV, List.map_cons, List.map_nil]; simp)
      · refine anyc_ok (N := 3000) (call_does (fun y G => ∃ sv', y = .tuple #[sv', .int .i64 (applyS t3 (r8 v.id (sectorsS t3 n) 1)).2] ∧ StaG G sv' (applyS t3 (r8 v.id (sectorsS t3 n) 1)).1) rfl rfl (by kernel_rfl) rfl (dk rfl) (fun G hG => apply_does hG.wf ((hPE.mono (hG.le GE (by simp))).g) ⟨_, _, _, rfl, Sq.nil, Sq.nil, hsX.mono (hG.le GX (by simp)), r8_ok (sectorsS_len _ _) ⟨by omega, by omega⟩⟩)) hk' rfl (by first | exact .inl rfl | exact .inr ⟨_, _, rfl, rfl⟩) ?_
        rintro _ ⟨_, GZ, ⟨svE, rfl, hsZ⟩, hnE, rfl⟩
        clear hnE
        rw [T.a5] at hsZ ⊢
        obtain ⟨Z1, z1, Z2, z2, Z3, z3, Z4, z4, Z5, z5, rfl, hPZ⟩ := hsZ.form
        simp only [go_sem, simprocAttr, verV, List.map_cons, List.map_nil]
        exact hJ () _ trivial (by simp only [go_sem, simprocAttr, verV, List.map_cons, List.map_nil]; simp)
    · refine anyc_ok (N := 3000) (call_does (fun v G => IntsG G v (sectorsS t3 n)) rfl rfl (by kernel_rfl) rfl (dk rfl) (fun G hG => sectorsOf_does hG.wf (hPE.mono (hG.le GE (by simp))).g (by omega) (by omega))) hk' rfl (by first | exact .inl rfl | exact .inr ⟨_, _, rfl, rfl⟩) ?_
      rintro _ ⟨sv, GX, hsX, hnX, rfl⟩
      clear hnX
      obtain ⟨Ax, cx, rfl, _⟩ := Sq.form hsX
      simp only [go_sem, simprocAttr, verV, List.map_cons, List.map_nil]
      refine anyc_ok (N := 3000) (call_does (fun y G => ∃ sv', y = .tuple #[sv', .int .i64 (applyS t3 (r8 v.id (sectorsS t3 n) 1)).2] ∧ StaG G sv' (applyS t3 (r8 v.id (sectorsS t3 n) 1)).1) rfl rfl (by kernel_rfl) rfl (dk rfl) (fun G hG => apply_does hG.wf ((hPE.mono (hG.le GE (by simp))).g) ⟨_, _, _, rfl, Sq.nil, Sq.nil, hsX.mono (hG.le GX (by simp)), r8_ok (sectorsS_len _ _) ⟨by omega, by omega⟩⟩)) hk' rfl (by first | exact .inl rfl | exact .inr ⟨_, _, rfl, rfl⟩) ?_
      rintro _ ⟨_, GZ, ⟨svE, rfl, hsZ⟩, hnE, rfl⟩
      clear hnE
      rw [T.a5] at hsZ ⊢
      obtain ⟨Z1, z1, Z2, z2, Z3, z3, Z4, z4, Z5, z5, rfl, hPZ⟩ := hsZ.form
      simp only [go_sem, simprocAttr, verV, List.map_cons, List.map_nil]
      exact hJ () _ trivial (by simp only [go_sem, simprocAttr, verV, List.map_cons, List.map_nil]; simp)
  rintro _ _
  simp only [go_sem, simprocAttr, verV, List.map_cons, List.map_nil]
  refine plain_ok (N := 3000) (call_does (fun y G => ∃ sv', y = .tuple #[sv', .int .i64 (applyS t3 (r9 v.id)).2] ∧ StaG G sv' (applyS t3 (r9 v.id)).1) rfl rfl (by kernel_rfl) rfl (dk rfl) (fun G hG => apply_does hG.wf ((hPE.mono (hG.le GE (by simp))).g) ⟨_, _, _, rfl, Sq.nil, Sq.nil, Sq.nil, r9_ok _⟩)) (QOk_body _ _ _) (by first | exact .inl rfl | exact .inr ⟨_, _, rfl, rfl⟩) ?_
  rintro _ ⟨_, GH, ⟨svH, rfl, hsH⟩, hnH, rfl⟩
  clear hnH
  rw [T.a4] at hsH ⊢
  obtain ⟨H1, h1, H2, h2, H3, h3, H4, h4, H5, h5, rfl, hPH⟩ := hsH.form
  have hfr4 := freeS_all T.o4
  simp only [go_sem, simprocAttr, verV, List.map_cons, List.map_nil]
  intro g5
  refine plain_ok (N := 3000) (call_does (fun y G => ∃ fv, y = .tuple #[fv, .int .i64 0] ∧ IntsG G fv fr) rfl rfl (by kernel_rfl) rfl (dk rfl) (fun G hG => by have h := free_does (many := 200) hG.wf (hPH.mono (hG.le GH (by simp))).g; rw [hfr, ← T.fr]; rw [hfr4] at h ⊢; exact h)) (QOk_body _ _ _) (by first | exact .inl rfl | exact .inr ⟨_, _, rfl, rfl⟩) ?_
  rintro _ ⟨_, GI, ⟨fw, rfl, hfw⟩, hnI, rfl⟩
  clear hnI
  obtain ⟨Aw, cw, rfl, _⟩ := Sq.form hfw
  simp only [go_sem, simprocAttr, verV, List.map_cons, List.map_nil]
  refine plain_ok (N := 3000) (call_does (fun y G => LatG G y (some v4)) rfl rfl (by kernel_rfl) rfl (dk rfl) (fun G hG => by rw [← T.la]; exact latest_does hG.wf (hPH.mono (hG.le GH (by simp))).g T.o4)) (QOk_body _ _ _) (by first | exact .inl rfl | exact .inr ⟨_, _, rfl, rfl⟩) ?_
  rintro _ ⟨_, GL, ⟨svl, rfl, hsvl⟩, hnL, rfl⟩
  clear hnL
  rw [T.w4] at hsvl
  obtain ⟨Al, cl, rfl, _⟩ := Sq.form hsvl
  simp only [go_sem, simprocAttr, verV, List.map_cons, List.map_nil]
  intro g6
  have q1 : decide (v4.tier = 2) = true := decide_eq_true T.w1
  have q2 : decide (v4.vol = 4 + kk) = true := decide_eq_true T.w2
  have q3 : decide (v4.at_ = at_) = true := decide_eq_true T.w3
  refine draw_ok (N := 3000) (.take 0 (.take 1 (.take 2 (.take 3 (.take 4 (.take 5 (.take 6 (.take 7 (.take 8 (.take 9 (.take 10 (.take 11 (.take 12 (.take 13 (.take 14 (.take 15 (.take 16 (.take 17 (.take 18 (.take 19 (.take 20 (.take 21 (.take 22 (.take 23 (.take 24 (.take 25 (.take 26 (.take 27 (.take 28 (.take 29 (.take 30 (.take 31 (.take 32 (.take 33 (.take 34 (.take 35 (.take 36 (.take 37 (.take 38 (.take 39 (.take 40 (.take 41 (.take 42 (.take 43 (.alt 44 (.take 45 (.take 46 (.take 47 (.take 48 (.take 49 (.take 50 (.take 51 (.take 52 (.take 53 (.take 54 (.take 55 (.alt 56 (.take 57 (.take 58 .done)) .last)))))))))))) .last))))))))))))))))))))))))))))))))))))))))))))) [] (QOk_body _ _ _) follows_mixed (by kernel_rfl) (by kernel_rfl) ?_
  simp only [go_sem, simprocAttr, verV, List.map_cons, List.map_nil, q1, q2]
  refine anyc_ok (N := 3000) (call_does (fun v _ => v = .int .i64 at_) rfl rfl (by kernel_rfl) rfl (dk rfl) (fun G hG => by rw [had]; exact picked_does hG.wf hap (by omega) (by omega))) (QOk_body _ _ _) rfl (by first | exact .inl rfl | exact .inr ⟨_, _, rfl, rfl⟩) ?_
  rintro _ ⟨_, GM, rfl, hnM, rfl⟩
  clear hnM
  simp only [go_sem, simprocAttr, verV, List.map_cons, List.map_nil, q3, List.length_nil]
  refine anyc_ok (N := 3000) (call_does (fun v _ => v = .bool true) rfl rfl (by kernel_rfl) rfl (dk rfl) (fun G hG => sameInts_does hG.wf (hfv.mono (hG.le GF (by simp))) (hfw.mono (hG.le GI (by simp))))) (QOk_body _ _ _) rfl (by first | exact .inl rfl | exact .inr ⟨_, _, rfl, rfl⟩) ?_
  rintro _ ⟨_, GN, rfl, hnN, rfl⟩
  clear hnN
  simp only [go_sem, simprocAttr]
  refine fin_ret (G := ⟨Non, w⟩) Try.results14 ?_
  simp only [go_sem, simprocAttr]
  intro aa w' _ hle
  rfl
theorem tiersRound_walk {w : World} (v0 : Value) (l0 : List Raw) (h0 : RawsG ⟨Non, w⟩ v0 l0) (a : Int) (ha : i64 a) (b : Int) (hb : i64 b) (c : Int) (hc : i64 c) (d : Int) (hd : i64 d) : Calls Try.prog 14 #[v0, .int .i64 a, .int .i64 b, .int .i64 c, .int .i64 d] w fun e w' => e = .returned (.bool true) ∧ Below w.heap.size w w' := ret_walk (tiersRound_ret v0 l0 h0 a ha b hb c hc d hd)
end Go.Proofs.Ytefmffpidhdjoaa
