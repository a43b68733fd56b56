/- tier.Freeze, tier.Drop. Conditions: as each law states them; Conditions: none. -/
import Derived.Test.YtefmffpidhdjoaaGreatV9
import Derived.Test.YtefmffpidhdjoaaGreatL2
namespace Go.Proofs.YtefmffpidhdjoaaGreat
open Go.RowKit
set_option linter.unusedSimpArgs false
theorem strEq (a b : ByteArray) : (a.toList == b.toList) = decide (a = b) := by
  rw [Bool.eq_iff_iff, decide_eq_true_iff, beq_iff_eq, ByteArray.toList_eq, ByteArray.toList_eq]
  cases a
  cases b
  simp [Array.toList_inj]
/-! ### in plain words -/
def prefB (k p : ByteArray) : Bool := decide ((p.size : Int) ≤ (k.size : Int)) && decide (k.extract 0 p.size = p)
def okB (s : Sta) (v : Ver) (b : Bkt) (n : Int) : Bool := decide (b.name = v.bucket) && (decide (0 ≤ n) && (prefB v.key b.rule.pre && decide (n ≤ s.clock - v.time)))
def oldB (s : Sta) (v : Ver) (age : Rul → Int) : Bool := s.bkts.any fun b => okB s v b (age b.rule)
def frB (s : Sta) (v : Ver) : Bool := decide (v.tier = 1) && oldB s v (·.freeze)
def drB (s : Sta) (v : Ver) : Bool := oldB s v (·.drop)
theorem bkt_uni {l : List Bkt} (h : bktsB l = true) {i j : Nat} {a b : Bkt} (ha : l[i]? = some a) (hb : l[j]? = some b) (e : a.name = b.name) : i = j := by
  have h1 := (bkt_at (s := ⟨0, 0, l, [], [], [], []⟩) h ha).1
  have h2 := (bkt_at (s := ⟨0, 0, l, [], [], [], []⟩) h hb).1
  rw [e] at h1
  rw [← h1, ← h2]
theorem oldB_at {s : Sta} (h : bktsB s.bkts = true) {v : Ver} {age : Rul → Int} {i : Nat} {b : Bkt} (hb : s.bkts[i]? = some b) (e : b.name = v.bucket) : oldB s v age = (decide (0 ≤ age b.rule) && (prefB v.key b.rule.pre && decide (age b.rule ≤ s.clock - v.time))) := by
  have hk : okB s v b (age b.rule) = (decide (0 ≤ age b.rule) && (prefB v.key b.rule.pre && decide (age b.rule ≤ s.clock - v.time))) := by
    unfold okB
    rw [decide_eq_true e, Bool.true_and]
  rw [← hk]
  unfold oldB
  cases hq : okB s v b (age b.rule) with
  | true => exact List.any_eq_true.2 ⟨b, List.mem_of_getElem? hb, hq⟩
  | false =>
    rw [List.any_eq_false]
    intro c hc hcq
    obtain ⟨j, hj⟩ := List.mem_iff_getElem?.1 hc
    have hn : c.name = v.bucket := by
      unfold okB at hcq
      simp only [Bool.and_eq_true, decide_eq_true_eq] at hcq
      exact hcq.1
    have := bkt_uni h hb hj (e.trans hn.symm)
    subst this
    rw [hb] at hj
    cases hj
    rw [hq] at hcq
    cases hcq
theorem ver_bkt {s : Sta} (h : Good s) {v : Ver} (hv : v ∈ s.vers) : (∃ (i : Nat) (b : Bkt), s.bkts[i]? = some b ∧ b.name = v.bucket) ∧ 0 ≤ v.time ∧ v.time ≤ s.clock := by
  have h1 := (h.snd v hv).1
  unfold verOut at h1
  simp only [Bool.or_eq_false_iff, decide_eq_false_iff_not, Bool.not_eq_false'] at h1
  obtain ⟨b, hb, e⟩ := bkt_hit h1.1.1.1.1.1
  exact ⟨⟨_, b, hb, e⟩, by omega, by omega⟩
/-! ### the walk -/
set_option maxRecDepth 100000 in
set_option maxHeartbeats 4000000 in
theorem lhasPrefix_does {k p : ByteArray} {G0 : GW} (hW : G0.Wf) (hk : k.size ≤ maxLen) (hp : p.size ≤ maxLen) : Calls Tryz.prog 115 #[.string k, .string p] G0.w (Ret G0 fun v _ => v = .bool (prefB k p)) := by
  have hml := max_le
  refine enterS (G := G0) (n := 18) 3000 hW Tryz.func115 rfl Tryz.ntmps115 (by simp) ?_
  by_cases h : (p.size : Int) ≤ (k.size : Int)
  · have q : decide ((p.size : Int) ≤ (k.size : Int)) = true := decide_eq_true h
    simp only [go_sem, simprocAttr, q]
    refine ⟨by omega, ?_⟩
    refine fin_ret (G := G0) Tryz.results115 ?_
    simp only [go_sem, simprocAttr]
    intro aa w' _ _
    unfold prefB
    rw [q]
    exact congrArg Value.bool (strEq _ _)
  · have q : decide ((p.size : Int) ≤ (k.size : Int)) = false := decide_eq_false h
    simp only [go_sem, simprocAttr, q]
    refine fin_ret (G := G0) Tryz.results115 ?_
    simp only [go_sem, simprocAttr]
    intro aa w' _ _
    unfold prefB
    rw [q]
    rfl
set_option maxRecDepth 100000 in
set_option maxHeartbeats 4000000 in
theorem hasPrefix_does {k p : ByteArray} {G0 : GW} (hW : G0.Wf) (hk : k.size ≤ maxLen) (hp : p.size ≤ maxLen) : Calls Tryz.prog 77 #[.string k, .string p] G0.w (Ret G0 fun v _ => v = .bool (prefB k p)) := by
  refine enterS (G := G0) (n := 8) 3000 hW Tryz.func77 rfl Tryz.ntmps77 (by simp) ?_
  simp only [go_sem, simprocAttr]
  refine plain_ok (N := 3000) (call_does (fun v _ => v = .bool (prefB k p)) rfl rfl (by kernel_rfl) rfl (dk rfl) (fun G hG => lhasPrefix_does hG.wf hk hp)) (QOk_body _ _ _) (by first | exact .inl rfl | exact .inr ⟨_, _, rfl, rfl⟩) ?_
  rintro _ ⟨_, G1, rfl, hn1, rfl⟩
  clear hn1
  simp only [go_sem, simprocAttr]
  refine fin_ret (G := G0) Tryz.results77 ?_
  simp only [go_sem, simprocAttr]
  intro aa w' _ _
  rfl
set_option maxRecDepth 100000 in
set_option maxHeartbeats 8000000 in
theorem indexBkt_does {l : List Bkt} {lv : Value} {f : FuncId} {caps : Array Value} {p : Bkt → Bool} {G0 : GW} (hW : G0.Wf) (h : BktsG G0 lv l) (hf : isFn Tryz.prog f = true) (hc : ∀ G x, x ∈ l → G0.Le G → G.Wf → Calls Tryz.prog f (#[.agg #[.string x.name, .int .i64 x.mode, .string x.rule.pre, .int .i64 x.rule.freeze, .int .i64 x.rule.drop]] ++ caps) G.w (Ret G fun v _ => v = .bool (p x))) :
    Calls Tryz.prog 75 #[lv, .func (.func f) #[] caps] G0.w (Ret G0 fun v _ => v = .int .i64 (firstI p l)) := by
  obtain ⟨A, c, rfl, hc1, hc2⟩ := Sq.form h
  have hml := max_le
  refine enterS (G := G0) (n := 19) 3000 hW Tryz.func75 rfl Tryz.ntmps75 (by simp) ?_
  simp only [go_sem, simprocAttr]
  refine loop_ok (N := 3000) (ι := Nat) (fun i => ⟨[(0, .c (.v (.slice A l.length c))), (1, .c (.v (.func (.func f) #[] caps))), (7, .c (.v (.int .i64 (l.length : Int)))), (8, .c (.v (.int .i64 (i : Int))))], [], [], [], [G0], 0⟩)
    (fun i => i ≤ l.length ∧ ∀ k y, k < i → l[k]? = some y → p y = false)
    (fun i => l.length - i) (QOk_body _ _ _) 0 ⟨by omega, fun k y hk => absurd hk (by omega)⟩ (by simp only [go_sem, simprocAttr]; simp) ?_
  rintro i ⟨hi, hno⟩
  by_cases hlt : i < l.length
  · have q : decide ((i : Int) < (l.length : Int)) = true := decide_eq_true (by omega)
    obtain ⟨x, hx⟩ : ∃ x, l[i]? = some x := ⟨_, List.getElem?_eq_getElem hlt⟩
    simp only [go_sem, simprocAttr, q]
    refine plain_ok (N := 3000) (elem_does (R := BktG) (l := l) (m := i) rfl tySlice24 tySize42 rfl rfl (dk rfl) rfl hx (fun G hG => Sq.mono h bktG_mono (hG.le G0 (by simp)))) (QOk_body _ _ _) (by first | exact .inl rfl | exact .inr ⟨_, _, rfl, rfl⟩) ?_
    rintro _ ⟨g4, o', cs, G2, hcl, ⟨rfl, _, _⟩, rfl⟩
    simp only [go_sem, simprocAttr]
    refine plain_ok (N := 3000) (callD_does (fun r _ => r = .bool (p x)) rfl rfl rfl rfl hf rfl (dk rfl) (fun G hG => hc G x (List.mem_of_getElem? hx) (hG.le G0 (by simp)) hG.wf)) (QOk_body _ _ _) (by first | exact .inl rfl | exact .inr ⟨_, _, rfl, rfl⟩) ?_
    rintro _ ⟨_, G3, rfl, hn3, rfl⟩
    clear hn3
    simp only [go_sem, simprocAttr]
    refine Wb_mk (fun hp => ?_) (fun hp => ?_)
    · refine fin_ret (G := G0) Tryz.results75 ?_
      simp only [go_sem, simprocAttr]
      intro aa w' _ _
      rw [firstI_at hx hp hno]
      rfl
    · refine ⟨by omega, ?_⟩
      refine again_ok (i + 1) ⟨hlt, fun k y hk hy => ?_⟩ (by omega) (by simp only [go_sem, simprocAttr]; simp)
      by_cases e : k = i
      · subst e
        rw [hx] at hy; cases hy
        exact hp
      · exact hno k y (by omega) hy
  · have q : decide ((i : Int) < (l.length : Int)) = false := decide_eq_false (by omega)
    simp only [go_sem, simprocAttr, q]
    refine fin_ret (G := G0) Tryz.results75 ?_
    simp only [go_sem, simprocAttr]
    intro aa w' _ _
    rw [firstI_no fun k y hy => hno k y (by have := (List.getElem?_eq_some_iff.1 hy).1; omega) hy]
    rfl
set_option maxRecDepth 100000 in
set_option maxHeartbeats 4000000 in
theorem old1_does {b : Bkt} {x : Ver} {vv : Value} {g : Nat} {G0 : GW} (hW : G0.Wf) (hb : BlkG G0 g (verV x vv)) :
    Calls Tryz.prog 76 #[.agg #[.string b.name, .int .i64 b.mode, .string b.rule.pre, .int .i64 b.rule.freeze, .int .i64 b.rule.drop], .pointer (some ⟨g, 0, none⟩)] G0.w (Ret G0 fun v _ => v = .bool (decide (b.name = x.bucket))) := by
  refine enterV (G := G0) (n := 9) 3000 [.c (.v (.agg #[.string b.name, .int .i64 b.mode, .string b.rule.pre, .int .i64 b.rule.freeze, .int .i64 b.rule.drop])), .c (.q 0 g 0 0)] [⟨0, g, 0, verV x vv⟩] hb.vw hW Tryz.func76 rfl Tryz.ntmps76 (by simp) ?_
  simp only [go_sem, simprocAttr, verV]
  intro g1
  refine fin_ret (G := G0) Tryz.results76 ?_
  simp only [go_sem, simprocAttr]
  intro aa w' _ _
  exact congrArg Value.bool (strEq _ _)
set_option maxRecDepth 100000 in
set_option maxHeartbeats 8000000 in
theorem old_does {s : Sta} {sv vv : Value} {v : Ver} {f : FuncId} {age : Rul → Int} {G0 : GW} (hW : G0.Wf) (hs : StaG G0 sv s) (hok : okSt s = true) (hvm : v ∈ s.vers) (hv : IntsG G0 vv v.secs) (hf : isFn Tryz.prog f = true)
    (ha : ∀ G (r : Rul), G.Wf → Calls Tryz.prog f (#[.agg #[.string r.pre, .int .i64 r.freeze, .int .i64 r.drop]] ++ #[]) G.w (Ret G fun v _ => v = .int .i64 (age r))) :
    Calls Tryz.prog 29 #[sv, .agg (verV v vv).toArray, .func (.func f) #[] #[]] G0.w (Ret G0 fun r _ => r = .bool (oldB s v age)) := by
  obtain ⟨A1, c1, A2, c2, A3, c3, A4, c4, A5, c5, rfl, hP⟩ := hs.form
  obtain ⟨Aw, cw, rfl, _⟩ := Sq.form hv
  have hml := max_le
  have hgd := okSt_good.1 hok
  obtain ⟨⟨i, b, hb, hbn⟩, ht0, ht1⟩ := ver_bkt hgd hvm
  have hold := oldB_at (age := age) hgd.bkts hb hbn
  have hfi : firstI (fun b => decide (b.name = v.bucket)) s.bkts = i := firstI_at hb (decide_eq_true hbn) fun k y hk hy => decide_eq_false fun e => by have := bkt_uni hgd.bkts hy hb (e.trans hbn.symm); omega
  have hc1 := hgd.c1
  have hc2 := hgd.c2
  rw [hold]
  obtain ⟨Gv, cv, hsv, hvk⟩ : ∃ (_ : Nat) (_ : Nat), True ∧ v.key.size ≤ maxLen := by
    obtain ⟨k, hk⟩ := List.mem_iff_getElem?.1 hvm
    obtain ⟨_, _, _, _, _, _, _, ⟨_, _, _, _, h2⟩, _, _⟩ := Sq.at_ hP.vers hk
    exact ⟨0, 0, trivial, h2⟩
  clear hsv
  refine enterS (G := G0) (n := 41) 3000 hW Tryz.func29 rfl Tryz.ntmps29 (by simp) ?_
  simp only [go_sem, simprocAttr, verV]
  intro g0 g1
  refine plain_ok (N := 3000) (call_does (fun r _ => r = .int .i64 (i : Int)) rfl rfl (by kernel_rfl) rfl (dk rfl) (fun G hG => by rw [← hfi]; exact Ret.anyM (M' := (G.sub [g1]).M) (indexBkt_does (G0 := G.sub [g1]) (p := fun b => decide (b.name = v.bucket)) (hG.wf.sub [g1]) (hP.mono ((hG.le G0 (by simp)).trans (GW.le_sub _ _))).bkts (by kernel_rfl) (fun G' x hx hl hw => old1_does hw ((hG.blkG (b := ⟨1, g1, 38, (verV v (.slice Aw v.secs.length cw)).map .v⟩) (ks := [g1]) (by simp [verV]) (by simp)).mono hl))))) (QOk_body _ _ _) (by first | exact .inl rfl | exact .inr ⟨_, _, rfl, rfl⟩) ?_
  rintro _ ⟨_, G1, rfl, hn1, rfl⟩
  clear hn1
  simp only [go_sem, simprocAttr]
  refine plain_ok (N := 3000) (elem_does (R := BktG) (l := s.bkts) (m := i) rfl tySlice24 tySize42 rfl rfl (dk rfl) rfl hb (fun G hG => (hP.mono (hG.le G0 (by simp))).bkts)) (QOk_body _ _ _) (by first | exact .inl rfl | exact .inr ⟨_, _, rfl, rfl⟩) ?_
  rintro _ ⟨g4, o', cs, G2, hcl, ⟨rfl, hbz, hpz⟩, rfl⟩
  simp only [go_sem, simprocAttr]
  intro g5
  refine plain_ok (N := 3000) (callD_does (fun r _ => r = .int .i64 (age b.rule)) rfl rfl rfl rfl hf rfl (dk rfl) (fun G hG => ha G b.rule hG.wf)) (QOk_body _ _ _) (by first | exact .inl rfl | exact .inr ⟨_, _, rfl, rfl⟩) ?_
  rintro _ ⟨_, G3, rfl, hn3, rfl⟩
  clear hn3
  by_cases h0 : 0 ≤ age b.rule
  · have q0 : decide (0 ≤ age b.rule) = true := decide_eq_true h0
    simp only [go_sem, simprocAttr, q0]
    refine plain_ok (N := 3000) (call_does (fun r _ => r = .bool (prefB v.key b.rule.pre)) rfl rfl (by kernel_rfl) rfl (dk rfl) (fun G hG => hasPrefix_does hG.wf hvk hpz)) (QOk_body _ _ _) (by first | exact .inl rfl | exact .inr ⟨_, _, rfl, rfl⟩) ?_
    rintro _ ⟨_, G4, rfl, hn4, rfl⟩
    clear hn4
    cases hpf : prefB v.key b.rule.pre with
    | true =>
      simp only [go_sem, simprocAttr]
      refine ⟨by omega, ?_⟩
      refine fin_ret (G := G0) Tryz.results29 ?_
      simp only [go_sem, simprocAttr]
      intro aa w' _ _
      rfl
    | false =>
      simp only [go_sem, simprocAttr]
      refine fin_ret (G := G0) Tryz.results29 ?_
      simp only [go_sem, simprocAttr]
      intro aa w' _ _
      rfl
  · have q0 : decide (0 ≤ age b.rule) = false := decide_eq_false h0
    simp only [go_sem, simprocAttr, q0]
    refine fin_ret (G := G0) Tryz.results29 ?_
    simp only [go_sem, simprocAttr]
    intro aa w' _ _
    rfl
set_option maxRecDepth 100000 in
set_option maxHeartbeats 4000000 in
theorem freeze11_does {r : Rul} {G0 : GW} (hW : G0.Wf) : Calls Tryz.prog 30 #[.agg #[.string r.pre, .int .i64 r.freeze, .int .i64 r.drop]] G0.w (Ret G0 fun v _ => v = .int .i64 r.freeze) := by
  refine enterS (G := G0) (n := 5) 3000 hW Tryz.func30 rfl Tryz.ntmps30 (by simp) ?_
  simp only [go_sem, simprocAttr]
  intro g1
  refine fin_ret (G := G0) Tryz.results30 ?_
  simp only [go_sem, simprocAttr]
  intro aa w' _ _
  rfl
set_option maxRecDepth 100000 in
set_option maxHeartbeats 4000000 in
theorem freeze1_does {x : Ver} {vv : Value} {s : Sta} {A1 A2 A3 A4 A5 : Option Addr} {c1 c2 c3 c4 c5 g : Nat} {G0 : GW} (hW : G0.Wf) (hok : okSt s = true) (hx : x ∈ s.vers) (hv : IntsG G0 vv x.secs) (hP : StaP G0 s A1 c1 A2 c2 A3 c3 A4 c4 A5 c5) (hb : BlkG G0 g [.int .i64 s.next, .int .i64 s.clock, .slice A1 s.bkts.length c1, .slice A2 s.vers.length c2, .slice A3 s.upls.length c3, .slice A4 s.queue.length c4, .slice A5 s.gone.length c5]) :
    Calls Tryz.prog 28 #[.agg (verV x vv).toArray, .pointer (some ⟨g, 0, none⟩)] G0.w (Ret G0 fun v _ => v = .bool (frB s x)) := by
  obtain ⟨Aw, cw, rfl, _⟩ := Sq.form hv
  refine enterV (G := G0) (n := 12) 3000 [.c (.v (.agg (verV x (.slice Aw x.secs.length cw)).toArray)), .c (.q 0 g 0 0)] [⟨0, g, 0, [.int .i64 s.next, .int .i64 s.clock, .slice A1 s.bkts.length c1, .slice A2 s.vers.length c2, .slice A3 s.upls.length c3, .slice A4 s.queue.length c4, .slice A5 s.gone.length c5]⟩] hb.vw hW Tryz.func28 rfl Tryz.ntmps28 (by simp) ?_
  simp only [go_sem, simprocAttr, verV]
  intro g1
  by_cases ht : x.tier = 1
  · have q : decide (x.tier = 1) = true := decide_eq_true ht
    simp only [go_sem, simprocAttr, q]
    refine plain_ok (N := 3000) (call_does (fun v _ => v = .bool (oldB s x (·.freeze))) rfl rfl (by kernel_rfl) rfl (dk rfl) (fun G hG => old_does (age := (·.freeze)) hG.wf (hP.mono (hG.le G0 (by simp))).g hok hx (hv.mono (hG.le G0 (by simp))) (by kernel_rfl) (fun G' r hw => by simpa using freeze11_does (r := r) hw))) (QOk_body _ _ _) (by first | exact .inl rfl | exact .inr ⟨_, _, rfl, rfl⟩) ?_
    rintro _ ⟨_, G1, rfl, hn1, rfl⟩
    clear hn1
    simp only [go_sem, simprocAttr]
    refine fin_ret (G := G0) Tryz.results28 ?_
    simp only [go_sem, simprocAttr]
    intro aa w' _ _
    show _ = Value.bool (frB s x)
    unfold frB
    rw [q]
    rfl
  · have q : decide (x.tier = 1) = false := decide_eq_false ht
    simp only [go_sem, simprocAttr, q]
    refine fin_ret (G := G0) Tryz.results28 ?_
    simp only [go_sem, simprocAttr]
    intro aa w' _ _
    show _ = Value.bool (frB s x)
    unfold frB
    rw [q]
    rfl
set_option maxRecDepth 100000 in
set_option maxHeartbeats 4000000 in
theorem tFreeze_does {s : Sta} {sv : Value} {G0 : GW} (hW : G0.Wf) (hs : StaG G0 sv s) (hok : okSt s = true) :
    Calls Tryz.prog 11 #[sv] G0.w (Ret G0 fun v G => ∃ fv, v = .tuple #[fv, .int .i64 0] ∧ IntsG G fv (idsL (frB s) s.vers)) := by
  obtain ⟨A1, c1, A2, c2, A3, c3, A4, c4, A5, c5, rfl, hP⟩ := hs.form
  have hml := max_le
  have b2 := (okSt_iff.1 hok).vers_len
  refine enterS (G := G0) (n := 13) 3000 hW Tryz.func11 rfl Tryz.ntmps11 (by simp) ?_
  simp only [go_sem, simprocAttr]
  intro g1
  refine plain_ok (N := 3000) (call_does (fun v _ => v = .int .i64 0) rfl rfl (by kernel_rfl) rfl (dk rfl) (fun G hG => by rw [← errSt_ok hok]; exact check_does hG.wf (hP.mono (hG.le G0 (by simp))).g)) (QOk_body _ _ _) (by first | exact .inl rfl | exact .inr ⟨_, _, rfl, rfl⟩) ?_
  rintro _ ⟨_, G1, rfl, hn1, rfl⟩
  clear hn1
  simp only [go_sem, simprocAttr]
  refine plain_ok (N := 3000) (callH_does ([]) ([]) ([]) ([]) (fun v _ R _ => ∃ A c, v = .slice A (idsL (frB s) s.vers).length c ∧ R = [intRow (.slice A (idsL (frB s) s.vers).length c) (idsL (frB s) s.vers)]) upV rfl rfl (by kernel_rfl) rfl (dk rfl) rfl rfl (by simp [ids, Diff]) (by simp) (fun G hG hh hM => RetH.anyM (M' := (G.sub [g1]).M) (ids_does (s := s) (f := 28) (caps := #[.pointer (some ⟨g1, 0, none⟩)]) (p := frB s) (G0 := G.sub [g1]) (hG.wf.sub [g1]) ((hP.mono ((hG.le G0 (by simp)).trans (GW.le_sub _ _))).g) b2 (by kernel_rfl) (fun G' x vv hx hv hle hw => freeze1_does (s := s) (A1 := A1) (A2 := A2) (A3 := A3) (A4 := A4) (A5 := A5) (c1 := c1) (c2 := c2) (c3 := c3) (c4 := c4) (c5 := c5) hw hok hx hv (hP.mono (((hG.le G0 (by simp)).trans (GW.le_sub _ _)).trans hle)) ((hG.blkG (b := ⟨0, g1, 30, [.v (.int .i64 s.next), .v (.int .i64 s.clock), .v (.slice A1 s.bkts.length c1), .v (.slice A2 s.vers.length c2), .v (.slice A3 s.upls.length c3), .v (.slice A4 s.queue.length c4), .v (.slice A5 s.gone.length c5)]⟩) (ks := [g1]) (by simp) (by simp)).mono hle)))) (fun v css R G _ _ => upV_den css)) (QOk_body _ _ _) (by first | exact .inl rfl | exact .inr ⟨_, _, rfl, rfl⟩) ?_
  rintro _ ⟨_, css, _, G2, ⟨A, c, rfl, rfl⟩, hcs, hle, rfl⟩
  clear hcs hle
  simp only [go_sem, simprocAttr]
  refine read_ok (R1 := []) rfl (fun G8 hle8 hsl8 => ?_) (fun _ _ q => q) (by show (1 : Nat) ≠ 0; decide)
  have hO : IntsG G8 (.slice A (idsL (frB s) s.vers).length c) (idsL (frB s) s.vers) := ints_of hsl8
  refine fin_ret (G := G0) Tryz.results11 ?_
  simp only [go_sem, simprocAttr]
  intro aa w' _ hle
  exact ⟨_, rfl, hO.mono (hle G8 (by simp))⟩
set_option maxRecDepth 100000 in
set_option maxHeartbeats 4000000 in
theorem drop11_does {r : Rul} {G0 : GW} (hW : G0.Wf) : Calls Tryz.prog 32 #[.agg #[.string r.pre, .int .i64 r.freeze, .int .i64 r.drop]] G0.w (Ret G0 fun v _ => v = .int .i64 r.drop) := by
  refine enterS (G := G0) (n := 5) 3000 hW Tryz.func32 rfl Tryz.ntmps32 (by simp) ?_
  simp only [go_sem, simprocAttr]
  intro g1
  refine fin_ret (G := G0) Tryz.results32 ?_
  simp only [go_sem, simprocAttr]
  intro aa w' _ _
  rfl
set_option maxRecDepth 100000 in
set_option maxHeartbeats 4000000 in
theorem drop1_does {x : Ver} {vv : Value} {s : Sta} {A1 A2 A3 A4 A5 : Option Addr} {c1 c2 c3 c4 c5 g : Nat} {G0 : GW} (hW : G0.Wf) (hok : okSt s = true) (hx : x ∈ s.vers) (hv : IntsG G0 vv x.secs) (hP : StaP G0 s A1 c1 A2 c2 A3 c3 A4 c4 A5 c5) (hb : BlkG G0 g [.int .i64 s.next, .int .i64 s.clock, .slice A1 s.bkts.length c1, .slice A2 s.vers.length c2, .slice A3 s.upls.length c3, .slice A4 s.queue.length c4, .slice A5 s.gone.length c5]) :
    Calls Tryz.prog 31 #[.agg (verV x vv).toArray, .pointer (some ⟨g, 0, none⟩)] G0.w (Ret G0 fun v _ => v = .bool (drB s x)) := by
  obtain ⟨Aw, cw, rfl, _⟩ := Sq.form hv
  refine enterV (G := G0) (n := 7) 3000 [.c (.v (.agg (verV x (.slice Aw x.secs.length cw)).toArray)), .c (.q 0 g 0 0)] [⟨0, g, 0, [.int .i64 s.next, .int .i64 s.clock, .slice A1 s.bkts.length c1, .slice A2 s.vers.length c2, .slice A3 s.upls.length c3, .slice A4 s.queue.length c4, .slice A5 s.gone.length c5]⟩] hb.vw hW Tryz.func31 rfl Tryz.ntmps31 (by simp) ?_
  simp only [go_sem, simprocAttr, verV]
  intro g1
  refine plain_ok (N := 3000) (call_does (fun v _ => v = .bool (oldB s x (·.drop))) rfl rfl (by kernel_rfl) rfl (dk rfl) (fun G hG => old_does (age := (·.drop)) hG.wf (hP.mono (hG.le G0 (by simp))).g hok hx (hv.mono (hG.le G0 (by simp))) (by kernel_rfl) (fun G' r hw => by simpa using drop11_does (r := r) hw))) (QOk_body _ _ _) (by first | exact .inl rfl | exact .inr ⟨_, _, rfl, rfl⟩) ?_
  rintro _ ⟨_, G1, rfl, hn1, rfl⟩
  clear hn1
  simp only [go_sem, simprocAttr]
  refine fin_ret (G := G0) Tryz.results31 ?_
  simp only [go_sem, simprocAttr]
  intro aa w' _ _
  rfl
set_option maxRecDepth 100000 in
set_option maxHeartbeats 4000000 in
theorem tDrop_does {s : Sta} {sv : Value} {G0 : GW} (hW : G0.Wf) (hs : StaG G0 sv s) (hok : okSt s = true) :
    Calls Tryz.prog 12 #[sv] G0.w (Ret G0 fun v G => ∃ fv, v = .tuple #[fv, .int .i64 0] ∧ IntsG G fv (idsL (drB s) s.vers)) := by
  obtain ⟨A1, c1, A2, c2, A3, c3, A4, c4, A5, c5, rfl, hP⟩ := hs.form
  have hml := max_le
  have b2 := (okSt_iff.1 hok).vers_len
  refine enterS (G := G0) (n := 13) 3000 hW Tryz.func12 rfl Tryz.ntmps12 (by simp) ?_
  simp only [go_sem, simprocAttr]
  intro g1
  refine plain_ok (N := 3000) (call_does (fun v _ => v = .int .i64 0) rfl rfl (by kernel_rfl) rfl (dk rfl) (fun G hG => by rw [← errSt_ok hok]; exact check_does hG.wf (hP.mono (hG.le G0 (by simp))).g)) (QOk_body _ _ _) (by first | exact .inl rfl | exact .inr ⟨_, _, rfl, rfl⟩) ?_
  rintro _ ⟨_, G1, rfl, hn1, rfl⟩
  clear hn1
  simp only [go_sem, simprocAttr]
  refine plain_ok (N := 3000) (callH_does ([]) ([]) ([]) ([]) (fun v _ R _ => ∃ A c, v = .slice A (idsL (drB s) s.vers).length c ∧ R = [intRow (.slice A (idsL (drB s) s.vers).length c) (idsL (drB s) s.vers)]) upV rfl rfl (by kernel_rfl) rfl (dk rfl) rfl rfl (by simp [ids, Diff]) (by simp) (fun G hG hh hM => RetH.anyM (M' := (G.sub [g1]).M) (ids_does (s := s) (f := 31) (caps := #[.pointer (some ⟨g1, 0, none⟩)]) (p := drB s) (G0 := G.sub [g1]) (hG.wf.sub [g1]) ((hP.mono ((hG.le G0 (by simp)).trans (GW.le_sub _ _))).g) b2 (by kernel_rfl) (fun G' x vv hx hv hle hw => drop1_does (s := s) (A1 := A1) (A2 := A2) (A3 := A3) (A4 := A4) (A5 := A5) (c1 := c1) (c2 := c2) (c3 := c3) (c4 := c4) (c5 := c5) hw hok hx hv (hP.mono (((hG.le G0 (by simp)).trans (GW.le_sub _ _)).trans hle)) ((hG.blkG (b := ⟨0, g1, 30, [.v (.int .i64 s.next), .v (.int .i64 s.clock), .v (.slice A1 s.bkts.length c1), .v (.slice A2 s.vers.length c2), .v (.slice A3 s.upls.length c3), .v (.slice A4 s.queue.length c4), .v (.slice A5 s.gone.length c5)]⟩) (ks := [g1]) (by simp) (by simp)).mono hle)))) (fun v css R G _ _ => upV_den css)) (QOk_body _ _ _) (by first | exact .inl rfl | exact .inr ⟨_, _, rfl, rfl⟩) ?_
  rintro _ ⟨_, css, _, G2, ⟨A, c, rfl, rfl⟩, hcs, hle, rfl⟩
  clear hcs hle
  simp only [go_sem, simprocAttr]
  refine read_ok (R1 := []) rfl (fun G8 hle8 hsl8 => ?_) (fun _ _ q => q) (by show (1 : Nat) ≠ 0; decide)
  have hO : IntsG G8 (.slice A (idsL (drB s) s.vers).length c) (idsL (drB s) s.vers) := ints_of hsl8
  refine fin_ret (G := G0) Tryz.results12 ?_
  simp only [go_sem, simprocAttr]
  intro aa w' _ hle
  exact ⟨_, rfl, hO.mono (hle G8 (by simp))⟩
end Go.Proofs.YtefmffpidhdjoaaGreat
