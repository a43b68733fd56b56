/- 'icehousekeep.ModeOn' returns true for all raw things and numbers. Conditions: none. -/
import Derived.Test.YtefmffpidhdjoaaV1
namespace Go.Proofs.Ytefmffpidhdjoaa
open Go.RowKit
open Nat (reduceAdd reduceSub reduceMul reduceEqDiff reduceLT reduceLeDiff)
set_option linter.unusedSimpArgs false
section
variable {P : Program} {E : Env} {σ : St} {o : Oper}
/-- two bools, compared -/
theorem booleq_does {ty t2 : TypeId} {x y : Operand} {xv yv : SV} {a b : Bool} (ho : o.op = .binOp .eql ty x y t2) (ht : P.underlying ty = some .bool) (hx : ev σ x = some xv) (hxv : xv.den = .bool a) (hy : ev σ y = some yv) (hyv : yv.den = .bool b) (hd : dOk E o.dst) :
    Does P E σ o (fun σ' => σ' = σ.put o.dst (.c (.v (.bool (a == b))))) := by
  intro ac w Q next hr hn
  have hx' : ac.eval x = .bool a := (ev_den hr.see hx).trans hxv
  have hy' : ac.eval y = .bool b := (ev_den hr.see hy).trans hyv
  have he : (Op.equal ty (.bool a) (.bool b)).run P w = .ok (a == b) w := run_equalIn_bool' w _ ty a b ht
  have hb : (binOp .eql ty (.bool a) (.bool b)).run P w = .ok (.bool (a == b)) w := by
    simp only [binOp]
    rw [Sem.run_bind, he]
    rfl
  have hg : (eqGuard .eql ty x y (.bool a) (.bool b)).run P w = .ok () w := by
    unfold eqGuard
    rfl
  have hrun : (execOp ac.eval o).run P w = .ok (.value (.bool (a == b))) w := by
    unfold execOp
    simp only [ho, hx', hy', hg, hb, Sem.run_bind, Sem.run_pure, Result.andThen_ok]
  exact wp_of_value hrun (hn _ _ _ rfl (hr.put o.dst (.c (.v _)) (dOk_lt hd)))
theorem wgX_do {rec_ : Cmd → St → Prop} {k : Cont} {ops : Array Oper} {rest : List Oper} {ctx : List Bool} {z : Option (Prop × SC)} (hz : z = none) (hs : stepO P o σ = .no) (hc : ctx.all id = true) (h : Ok E σ (wpList P ops (k.den P) (o :: rest))) : WgX P E rec_ k ops rest o σ ctx z := by
  rw [hz]
  refine ⟨fun _ => ?_, fun q => by rw [hc] at q; cases q⟩
  rw [hs]
  exact h
end
def nmB (l : List Bkt) : List ByteArray := l.map (·.name)
theorem ahead_map {α β : Type} (f : α → β) (lt : β → Bool) : ∀ l : List α, ahead (fun x => lt (f x)) l = ahead lt (l.map f)
  | [] => rfl
  | a :: r => by
    unfold ahead
    rw [List.map_cons, List.takeWhile_cons, List.takeWhile_cons]
    split
    · rw [List.length_cons, List.length_cons]
      exact congrArg (· + 1) (ahead_map f lt r)
    · rfl
theorem bktIn_map (s : Sta) (t : ByteArray) : bktIn s t = hit (fun n => decide (cmpS n t < 0)) (fun n => decide (cmpS n t = 0)) (nmB s.bkts) := by
  show hitO _ s.bkts[ahead (fun x : Bkt => decide (cmpS x.name t < 0)) s.bkts]? = hitO _ (s.bkts.map (·.name))[ahead (fun n => decide (cmpS n t < 0)) (s.bkts.map (·.name))]?
  rw [ahead_map (fun x : Bkt => x.name) (fun n => decide (cmpS n t < 0)) s.bkts]
  generalize ahead (fun n => decide (cmpS n t < 0)) (s.bkts.map (·.name)) = j
  rw [List.getElem?_map]
  cases s.bkts[j]? <;> rfl
theorem bktIn_names {s t : Sta} (h : nmB s.bkts = nmB t.bkts) (x : ByteArray) : bktIn s x = bktIn t x := by rw [bktIn_map, bktIn_map, h]
theorem good_bkts {s : Sta} (hg : Good s) {l : List Bkt} (hn : nmB l = nmB s.bkts) (hb : bktsB l = true) : Good { s with bkts := l } := by
  have e : ∀ x, bktIn { s with bkts := l } x = bktIn s x := bktIn_names (s := { s with bkts := l }) (t := s) hn
  refine ⟨hg.n1, hg.n2, hg.c1, hg.c2, hg.gone, hb, fun v hv => ?_, hg.ids, hg.nul, hg.vlen, fun u hu => ?_, hg.prt, hg.uids, hg.ulen, hg.fr, ⟨hg.queue.out, hg.queue.one, hg.queue.len⟩⟩
  · have h := hg.snd v hv
    refine ⟨?_, h.2⟩
    have h1 := h.1
    unfold verOut at h1 ⊢
    rw [e]
    exact h1
  · have h1 := hg.out u hu
    unfold uplOut at h1 ⊢
    rw [e]
    exact h1
theorem map_set_same {α β : Type} {f : α → β} {l : List α} {i : Nat} {x y : α} (h : l[i]? = some x) (e : f y = f x) : (l.set i y).map f = l.map f := by
  rw [List.map_set, e]
  apply List.ext_getElem?
  intro k
  rw [List.getElem?_set]
  split
  · rename_i q
    subst q
    rw [List.getElem?_map, h]
    have := (List.getElem?_eq_some_iff.1 h).1
    rw [if_pos (by rw [List.length_map]; exact this)]
    rfl
  · rfl
theorem bktGe_name {p p' : Option Bkt} (h : p.map (·.name) = p'.map (·.name)) (b : Bkt) : bktGe p b = bktGe p' b := by
  cases p <;> cases p' <;> simp at h
  · rfl
  · unfold bktGe
    simp only [h]
theorem bktsB_mode {l : List Bkt} (h : bktsB l = true) {i : Nat} {b : Bkt} (hb : l[i]? = some b) {m : Int} (h0 : 0 ≤ m) (h2 : m ≤ 2) : bktsB (l.set i { b with mode := m }) = true := by
  have hn : nmB (l.set i { b with mode := m }) = nmB l := map_set_same hb rfl
  obtain ⟨c1, c2⟩ := Bool.and_eq_true_iff.1 h
  unfold bktsB
  rw [Bool.and_eq_true]
  refine ⟨chain_ok fun k x hx => ?_, by rw [List.length_set]; exact c2⟩
  have hprev : (if k = 0 then none else (l.set i { b with mode := m })[k - 1]?).map (·.name) = (prevO l k).map (·.name) := by
    unfold prevO
    split
    · rfl
    · have := congrArg (fun t => t[k - 1]?) hn
      unfold nmB at this
      rw [List.getElem?_map, List.getElem?_map] at this
      exact this
  have key : ∀ y, l[k]? = some y → x.name = y.name → x.rule = y.rule → 0 ≤ x.mode → x.mode ≤ 2 → bktBad (if k = 0 then none else (l.set i { b with mode := m })[k - 1]?) x = false := fun y hy e1 e2 e3 e4 => by
    have hy9 := chain_at c1 hy
    unfold bktBad bktOut at hy9 ⊢
    rw [bktGe_name hprev x]
    have e5 : bktGe (prevO l k) x = bktGe (prevO l k) y := by unfold bktGe; rw [e1]
    rw [e5, e1, e2]
    simp only [Bool.or_eq_false_iff, decide_eq_false_iff_not] at hy9 ⊢
    exact ⟨⟨⟨⟨hy9.1.1.1.1, by omega⟩, by omega⟩, hy9.1.2⟩, hy9.2⟩
  rw [List.getElem?_set] at hx
  split at hx
  · rename_i q
    subst q
    have hl := (List.getElem?_eq_some_iff.1 hb).1
    rw [if_pos hl] at hx
    cases hx
    exact key b hb rfl rfl h0 h2
  · have hy9 := chain_at c1 hx
    unfold bktBad bktOut at hy9
    simp only [Bool.or_eq_false_iff, decide_eq_false_iff_not] at hy9
    exact key x hx rfl rfl (by omega) (by omega)
/-! ### the names of the driver's buckets -/
def AB : List ByteArray := [⟨#[97]⟩, ⟨#[98]⟩]
set_option maxRecDepth 100000 in
theorem names_two : nmB (stepS (stepS (startS, []) (rawA 0)) (rawA 1)).1.bkts = AB := by kernel_rfl
theorem recK_kind (s : Sta) (r : Raw) (k : Int) : (recK s r k).kind = k := by
  unfold recK
  by_cases q : k = 1
  · rw [if_pos q]; rfl
  rw [if_neg q]
  clear q
  by_cases q : k = 2
  · rw [if_pos q]; rfl
  rw [if_neg q]
  clear q
  by_cases q : k = 3
  · rw [if_pos q]; rfl
  rw [if_neg q]
  clear q
  by_cases q : k = 4
  · rw [if_pos q]; rfl
  rw [if_neg q]
  clear q
  by_cases q : k = 5 ∨ k = 9
  · rw [if_pos q]; rfl
  rw [if_neg q]
  clear q
  by_cases q : k = 6
  · rw [if_pos q]; rfl
  rw [if_neg q]
  clear q
  by_cases q : k = 7
  · rw [if_pos q]; rfl
  rw [if_neg q]
  clear q
  by_cases q : k = 8
  · rw [if_pos q]; rfl
  rw [if_neg q]
  clear q
  by_cases q : k = 10
  · rw [if_pos q]; rfl
  rw [if_neg q]
  clear q
  by_cases q : k = 11
  · rw [if_pos q]; rfl
  rw [if_neg q]
  clear q
  by_cases q : k = 12
  · rw [if_pos q]; rfl
  rw [if_neg q]
  clear q
  by_cases q : k = 13
  · rw [if_pos q]; rfl
  rw [if_neg q]
  clear q
  rfl
theorem recS_name {s : Sta} {r : Raw} (h : (recS s r).kind = 1) : (recS s r).name = ⟨#[97]⟩ ∨ (recS s r).name = ⟨#[98]⟩ := by
  unfold recS at h ⊢
  rw [recK_kind] at h
  rw [h]
  show nameS r.a = _ ∨ nameS r.a = _
  unfold nameS
  split
  · exact .inl rfl
  · exact .inr rfl
theorem change_names {s : Sta} {r : Rec} (hb : bktsB s.bkts = true) (hn : nmB s.bkts = AB) (h1 : r.kind = 1 → r.name = ⟨#[97]⟩ ∨ r.name = ⟨#[98]⟩) (h : (changeS s r).1 = 0) : nmB (changeS s r).2.bkts = AB := by
  have key : ∀ {t : Sta}, t.bkts = s.bkts → nmB t.bkts = AB := fun e => by rw [e]; exact hn
  unfold changeS at h ⊢
  by_cases q : r.kind = 1
  · rw [if_pos q] at h
    exfalso
    have hin : bktIn s r.name = true := by
      have hm : r.name ∈ nmB s.bkts := by
        rw [hn]
        rcases h1 q with e | e <;> rw [e] <;> simp [AB]
      obtain ⟨b, hb1, hb2⟩ := List.mem_map.1 hm
      exact (bktIn_iff hb).2 ⟨b, hb1, hb2⟩
    unfold addS at h
    by_cases q2 : nameErr r.name 8 = 0
    · rw [if_pos q2, if_pos hin] at h; cases h
    · rw [if_neg q2] at h; exact q2 h
  rw [if_neg q]
  by_cases q2 : r.kind = 2 ∨ r.kind = 3
  · rw [if_pos q2]
    unfold setS
    split
    · exact hn
    · unfold setB
      split
      · exact hn
      · rename_i b hb9
        unfold setC
        repeat' split
        all_goals first | exact hn | exact (map_set_same (f := fun x : Bkt => x.name) (y := { b with rule := r.rule }) hb9 rfl).trans hn | exact (map_set_same (f := fun x : Bkt => x.name) (y := { b with mode := r.n }) hb9 rfl).trans hn
  rw [if_neg q2]
  refine key ?_
  by_cases q9 : r.kind = 4
  · rw [if_pos q9]
    unfold comeS nullS
    repeat' split
    all_goals rfl
  rw [if_neg q9]
  clear q9
  by_cases q9 : r.kind = 5
  · rw [if_pos q9]
    unfold dropOneS dropV
    repeat' split
    all_goals rfl
  rw [if_neg q9]
  clear q9
  by_cases q9 : r.kind = 6 ∨ r.kind = 8 ∨ r.kind = 9
  · rw [if_pos q9]
    unfold turnS turnV turnB
    repeat' split
    all_goals rfl
  rw [if_neg q9]
  clear q9
  by_cases q9 : r.kind = 7
  · rw [if_pos q9]
    unfold askS
    repeat' split
    all_goals rfl
  rw [if_neg q9]
  clear q9
  by_cases q9 : r.kind = 10
  · rw [if_pos q9]
    unfold beginS
    repeat' split
    all_goals rfl
  rw [if_neg q9]
  clear q9
  by_cases q9 : r.kind = 11 ∨ r.kind = 12
  · rw [if_pos q9]
    unfold sendS sendU sendC
    repeat' split
    all_goals rfl
  rw [if_neg q9]
  clear q9
  by_cases q9 : r.kind = 13
  · rw [if_pos q9]
    unfold passS
    repeat' split
    all_goals rfl
  rw [if_neg q9]
  clear q9
  by_cases q9 : r.kind = 14
  · rw [if_pos q9]
    unfold giveS
    repeat' split
    all_goals rfl
  rw [if_neg q9]
theorem applyS_fine2 {s : Sta} {r : Rec} (hok : okSt s = true) (h : (applyS s r).2 = 0) : (changeS s r).1 = 0 ∧ (applyS s r).1 = (changeS s r).2 := by
  rw [applyS_of hok] at h ⊢
  unfold applyC at h ⊢
  by_cases q1 : (changeS s r).1 = 0
  · rw [if_pos q1] at h ⊢
    by_cases q2 : okSt (changeS s r).2 = true
    · rw [if_pos q2]; exact ⟨q1, rfl⟩
    · rw [if_neg q2] at h; cases h
  · rw [if_neg q1] at h; exact absurd h q1
theorem fold_names : ∀ (l : List Raw) (p : Sta × List Rec), okSt p.1 = true → nmB p.1.bkts = AB → nmB (l.foldl stepS p).1.bkts = AB
  | [], _, _, h => h
  | r :: l, p, hk, h => by
    have hf := applyS_fine2 (r := recS p.1 r) hk
    refine fold_names l _ ?_ ?_
    · unfold stepS stepA
      split
      · rename_i q; exact applyS_ok q
      · exact hk
    · unfold stepS stepA
      split
      · rename_i q
        obtain ⟨e1, e2⟩ := hf q
        show nmB (applyS p.1 (recS p.1 r)).1.bkts = AB
        rw [e2]
        exact change_names (okSt_good.1 hk).bkts h recS_name e1
      · exact h
set_option maxRecDepth 100000 in
theorem ok_two : okSt (stepS (stepS (startS, []) (rawA 0)) (rawA 1)).1 = true := by kernel_rfl
theorem stateS_names (l : List Raw) (most : Nat) : nmB (stateS l most).1.bkts = AB := fold_names (l.take most) _ ok_two names_two
/-! ### modes -/
def mode2 (nm : ByteArray) (m : Int) : Rec := { rec0 2 with name := nm, n := m }
theorem mode2_ok {nm : ByteArray} (h : nm.size ≤ 5) {m : Int} (hm : i64 m) : RecOk (mode2 nm m) := ⟨by show nm.size ≤ maxLen; unfold maxLen; omega, Nat.zero_le _, Nat.zero_le _, Nat.zero_le _, Nat.zero_le _, Nat.zero_le _, Nat.zero_le _, Nat.zero_le _, hm⟩
theorem apply_bad {s : Sta} (h : okSt s = true) {r : Rec} {e : Int} (hc : changeS s r = (e, s)) (he : e ≠ 0) : applyS s r = (zeroS, e) := by
  rw [applyS_of h, hc]
  unfold applyC
  rw [if_neg he]
theorem first_bkt {s : Sta} (hn : nmB s.bkts = AB) : ∃ b, s.bkts[0]? = some b ∧ b.name = ⟨#[97]⟩ := by
  have h : (nmB s.bkts)[0]? = some ⟨#[97]⟩ := by rw [hn]; rfl
  unfold nmB at h
  rw [List.getElem?_map] at h
  cases e : s.bkts[0]? with
  | none => rw [e] at h; cases h
  | some b => rw [e] at h; exact ⟨b, rfl, Option.some.inj h⟩
theorem mode_change {s : Sta} (h : okSt s = true) {b : Bkt} (hb : s.bkts[0]? = some b) (hbn : b.name = ⟨#[97]⟩) (m : Int) : changeS s (mode2 ⟨#[97]⟩ m) = if (decide (m < 0) || decide (2 < m)) = true then (2, s) else if (decide (m = 0) && !decide (b.mode = 0)) = true then (9, s) else (0, setBkt s 0 { b with mode := m }) := by
  obtain ⟨e1, e2⟩ := bkt_at (okSt_good.1 h).bkts hb
  rw [hbn] at e1 e2
  show setS s (mode2 ⟨#[97]⟩ m) = _
  unfold setS
  rw [if_neg (by show ¬ bktIn s ⟨#[97]⟩ = false; rw [e2]; simp)]
  show setB s (mode2 ⟨#[97]⟩ m) s.bkts[bktAt s ⟨#[97]⟩]? = _
  rw [e1, hb]
  show setC s (mode2 ⟨#[97]⟩ m) (bktAt s ⟨#[97]⟩) b = _
  rw [e1]
  rfl
theorem mode_fine {s : Sta} (h : okSt s = true) (hn : nmB s.bkts = AB) {b : Bkt} (hb : s.bkts[0]? = some b) (hbn : b.name = ⟨#[97]⟩) {m : Int} (h0 : 0 ≤ m) (h2 : m ≤ 2) (hz : ¬ (m = 0 ∧ b.mode ≠ 0)) :
    ∃ t, applyS s (mode2 ⟨#[97]⟩ m) = (t, 0) ∧ okSt t = true ∧ nmB t.bkts = AB ∧ t.bkts[0]? = some { b with mode := m } := by
  have hc := mode_change h hb hbn m
  rw [if_neg (by simp; omega), if_neg (by simp; omega)] at hc
  have hg := okSt_good.1 h
  have hnm : nmB (s.bkts.set 0 { b with mode := m }) = nmB s.bkts := map_set_same hb rfl
  have hok2 := okSt_good.2 (good_bkts hg hnm (bktsB_mode hg.bkts hb h0 h2))
  refine ⟨setBkt s 0 { b with mode := m }, ?_, hok2, hnm.trans hn, List.getElem?_set_self (List.getElem?_eq_some_iff.1 hb).1⟩
  rw [applyS_of h, hc]
  unfold applyC
  rw [if_pos rfl, if_pos (show okSt (setBkt s 0 { b with mode := m }) = true from hok2)]
theorem mode_c {s : Sta} (h : okSt s = true) (hn : nmB s.bkts = AB) : applyS s (mode2 ⟨#[99]⟩ 0) = (zeroS, 6) := by
  refine apply_bad h ?_ (by decide)
  show setS s (mode2 ⟨#[99]⟩ 0) = _
  unfold setS
  rw [if_pos]
  show bktIn s ⟨#[99]⟩ = false
  rw [bktIn_map, hn]
  rfl
set_option maxRecDepth 100000 in
set_option maxHeartbeats 8000000 in
theorem modeOn_ret {w : World} (v0 : Value) (l0 : List Raw) (h0 : RawsG ⟨Non, w⟩ v0 l0) (n : Int) (hn : i64 n) :
    Calls Try.prog 10 #[v0, .int .i64 n] w (Ret ⟨Non, w⟩ fun v _ => v = .bool true) := by
  have hml := max_le
  have hok := stateS_ok l0 20
  have hnm := stateS_names l0 20
  obtain ⟨A0, c0, rfl, _, _⟩ := ScR.form h0
  refine enterS (G := ⟨Non, w⟩) (n := 74) 3000 (wf_nonL w) Try.func10 rfl Try.ntmps10 (by simp) ?_
  simp only [go_sem, reduceAdd, reduceSub, reduceMul, reduceEqDiff, reduceLT, reduceLeDiff, Nat.reduceBEq, Nat.reduceBNe, Int.reduceLT, Int.reduceLE, Int.reduceEq, Int.reduceAdd, Int.reduceSub, Int.reduceNeg, reduceCtorEq]
  refine plain_ok (N := 3000) (call_does (fun v G => ∃ sv ov, v = .tuple #[sv, ov] ∧ StaG G sv (stateS l0 20).1 ∧ RecsG G ov (stateS l0 20).2) rfl rfl (by kernel_rfl) rfl (dk rfl) (fun G hG => state_does (most := 20) hG.wf (ScR.mono h0 rawG_mono (hG.le ⟨Non, w⟩ (by simp))) (by omega))) (QOk_body _ _ _) (by first | exact .inl rfl | exact .inr ⟨_, _, rfl, rfl⟩) ?_
  rintro _ ⟨_, G1, ⟨sv, ov, rfl, hs, ho⟩, hn1, rfl⟩
  clear hn1
  obtain ⟨A1, c1, A2, c2, A3, c3, A4, c4, A5, c5, rfl, hP⟩ := hs.form
  obtain ⟨Ao, co, rfl, _⟩ := Sq.form ho
  obtain ⟨s, hsd⟩ : ∃ s, s = (stateS l0 20).1 := ⟨_, rfl⟩
  obtain ⟨rs, hrd⟩ : ∃ rs, rs = (stateS l0 20).2 := ⟨_, rfl⟩
  rw [← hsd] at hok hnm hP hs ⊢
  rw [← hrd] at ho ⊢
  clear hsd hrd
  obtain ⟨b, hb, hbn⟩ := first_bkt hnm
  simp only [go_sem, reduceAdd, reduceSub, reduceMul, reduceEqDiff, reduceLT, reduceLeDiff, Nat.reduceBEq, Nat.reduceBNe, Int.reduceLT, Int.reduceLE, Int.reduceEq, Int.reduceAdd, Int.reduceSub, Int.reduceNeg, reduceCtorEq]
  intro g1
  obtain ⟨k, hk⟩ : ∃ k, k = pick n 5 := ⟨_, rfl⟩
  have hkb := pick_bd n 5 (by omega)
  rw [← hk] at hkb
  refine plain_ok (N := 3000) (call_does (fun v _ => v = .int .i64 k) rfl rfl (by kernel_rfl) rfl (dk rfl) (fun G hG => by rw [hk]; exact picked_does hG.wf hn (by omega) (by omega))) (QOk_body _ _ _) (by first | exact .inl rfl | exact .inr ⟨_, _, rfl, rfl⟩) ?_
  rintro _ ⟨_, G2, rfl, hn2, rfl⟩
  clear hn2
  simp only [go_sem, reduceAdd, reduceSub, reduceMul, reduceEqDiff, reduceLT, reduceLeDiff, Nat.reduceBEq, Nat.reduceBNe, Int.reduceLT, Int.reduceLE, Int.reduceEq, Int.reduceAdd, Int.reduceSub, Int.reduceNeg, reduceCtorEq]
  refine ⟨by omega, ?_⟩
  obtain ⟨m, hm⟩ : ∃ m, m = k - 1 := ⟨_, rfl⟩
  rw [← hm]
  have hmi : i64 m := ⟨by omega, by omega⟩
  refine plain_ok (N := 3000) (call_does (fun y G => ∃ sv', y = .tuple #[sv', .int .i64 (applyS s (mode2 ⟨#[97]⟩ m)).2] ∧ StaG G sv' (applyS s (mode2 ⟨#[97]⟩ m)).1) rfl rfl (by kernel_rfl) rfl (dk rfl) (fun G hG => apply_does hG.wf (hP.mono (hG.le G1 (by simp))).g ⟨_, _, _, rfl, Sq.nil, Sq.nil, Sq.nil, mode2_ok (by decide) hmi⟩)) (QOk_body _ _ _) (by first | exact .inl rfl | exact .inr ⟨_, _, rfl, rfl⟩) ?_
  rintro _ ⟨_, G3, ⟨sv3, rfl, hs3⟩, hn3, rfl⟩
  clear hn3
  
  have hc := mode_change hok hb hbn m
  have f0 := applyS_of hok (mode2 ⟨#[97]⟩ m)
  by_cases hr : (decide (m < 0) || decide (2 < m)) = true
  · rw [if_pos hr] at hc
    have hA := apply_bad hok hc (by decide)
    rw [hA] at hs3 ⊢
    obtain ⟨B1, d1, B2, d2, B3, d3, B4, d4, B5, d5, rfl, hP3⟩ := hs3.form
    simp only [go_sem, reduceAdd, reduceSub, reduceMul, reduceEqDiff, reduceLT, reduceLeDiff, Nat.reduceBEq, Nat.reduceBNe, Int.reduceLT, Int.reduceLE, Int.reduceEq, Int.reduceAdd, Int.reduceSub, Int.reduceNeg, reduceCtorEq]
    intro g2
    refine Wb_mk (fun h1 => ?_) (fun h1 => ?_)
    · refine fin_ret (G := ⟨Non, w⟩) Try.results10 ?_
      simp only [go_sem, reduceAdd, reduceSub, reduceMul, reduceEqDiff, reduceLT, reduceLeDiff, Nat.reduceBEq, Nat.reduceBNe, Int.reduceLT, Int.reduceLE, Int.reduceEq, Int.reduceAdd, Int.reduceSub, Int.reduceNeg, reduceCtorEq]
      intro aa w' _ hle
      rfl
    · rw [hr] at h1; cases h1
  rw [if_neg hr] at hc
  have hr' := bool_no hr
  have hr2 := hr'
  simp only [Bool.or_eq_false_iff, decide_eq_false_iff_not] at hr2
  by_cases hz : m = 0 ∧ b.mode ≠ 0
  · have hmz : (decide (m = 0) && !decide (b.mode = 0)) = true := by simp [hz.1, hz.2]
    rw [if_pos hmz] at hc
    have hA := apply_bad hok hc (by decide)
    have q0 : decide (m = 0) = true := decide_eq_true hz.1
    have q1 : decide (b.mode = 0) = false := decide_eq_false hz.2
    rw [hA] at hs3 ⊢
    obtain ⟨B1, d1, B2, d2, B3, d3, B4, d4, B5, d5, rfl, hP3⟩ := hs3.form
    simp only [go_sem, reduceAdd, reduceSub, reduceMul, reduceEqDiff, reduceLT, reduceLeDiff, Nat.reduceBEq, Nat.reduceBNe, Int.reduceLT, Int.reduceLE, Int.reduceEq, Int.reduceAdd, Int.reduceSub, Int.reduceNeg, reduceCtorEq]
    intro g2
    refine Wb_mk (fun h1 => ?_) (fun h1 => ?_)
    · rw [hr'] at h1; cases h1
    · simp only [go_sem, reduceAdd, reduceSub, reduceMul, reduceEqDiff, reduceLT, reduceLeDiff, Nat.reduceBEq, Nat.reduceBNe, Int.reduceLT, Int.reduceLE, Int.reduceEq, Int.reduceAdd, Int.reduceSub, Int.reduceNeg, reduceCtorEq, q0]
      refine plain_ok (N := 3000) (elem_does (R := BktG) (l := s.bkts) (m := 0) rfl tySlice23 tySize67 rfl rfl (dk rfl) rfl hb (fun G hG => Sq.mono hP.bkts bktG_mono (hG.le G1 (by simp)))) (QOk_body _ _ _) (by first | exact .inl rfl | exact .inr ⟨_, _, rfl, rfl⟩) ?_
      rintro _ ⟨g4, o', cs, G5, hcl, ⟨rfl, hk1, hk2⟩, rfl⟩
      simp only [go_sem, reduceAdd, reduceSub, reduceMul, reduceEqDiff, reduceLT, reduceLeDiff, Nat.reduceBEq, Nat.reduceBNe, Int.reduceLT, Int.reduceLE, Int.reduceEq, Int.reduceAdd, Int.reduceSub, Int.reduceNeg, reduceCtorEq, q0, q1]
      refine fin_ret (G := ⟨Non, w⟩) Try.results10 ?_
      simp only [go_sem, reduceAdd, reduceSub, reduceMul, reduceEqDiff, reduceLT, reduceLeDiff, Nat.reduceBEq, Nat.reduceBNe, Int.reduceLT, Int.reduceLE, Int.reduceEq, Int.reduceAdd, Int.reduceSub, Int.reduceNeg, reduceCtorEq]
      intro aa w' _ hle
      rfl
  obtain ⟨t, hA, hokt, hnt, hbt⟩ := mode_fine hok hnm hb hbn (by omega) (by omega) hz
  have hC := mode_c hokt hnt
  rw [hA] at hs3 ⊢
  obtain ⟨B1, d1, B2, d2, B3, d3, B4, d4, B5, d5, rfl, hP3⟩ := hs3.form
  simp only at hP3
  simp only [go_sem, reduceAdd, reduceSub, reduceMul, reduceEqDiff, reduceLT, reduceLeDiff, Nat.reduceBEq, Nat.reduceBNe, Int.reduceLT, Int.reduceLE, Int.reduceEq, Int.reduceAdd, Int.reduceSub, Int.reduceNeg, reduceCtorEq]
  intro g2
  refine Wb_mk (fun h1 => ?_) (fun h1 => ?_)
  · rw [hr'] at h1; cases h1
  · refine plain_ok (N := 3000) (call_does (fun y G => ∃ sv', y = .tuple #[sv', .int .i64 (applyS t (mode2 ⟨#[97]⟩ 0)).2] ∧ StaG G sv' (applyS t (mode2 ⟨#[97]⟩ 0)).1) rfl rfl (by kernel_rfl) rfl (dk rfl) (fun G hG => apply_does hG.wf (hP3.mono (hG.le G3 (by simp))).g ⟨_, _, _, rfl, Sq.nil, Sq.nil, Sq.nil, mode2_ok (by decide) i64_0⟩)) (QOk_body _ _ _) (by first | exact .inl rfl | exact .inr ⟨_, _, rfl, rfl⟩) ?_
    rintro _ ⟨_, G6, ⟨sv6, rfl, hs6⟩, hn6, rfl⟩
    clear hn6
    by_cases hm0 : m = 0
    · have q0 : decide (m = 0) = true := decide_eq_true hm0
      obtain ⟨t2, hA2, _, _, _⟩ := mode_fine hokt hnt hbt hbn (m := 0) (by decide) (by decide) (fun q => q.2 hm0)
      rw [hA2] at hs6 ⊢
      obtain ⟨C1, e1, C2, e2, C3, e3, C4, e4, C5, e5, rfl, hP6⟩ := hs6.form
      simp only [go_sem, reduceAdd, reduceSub, reduceMul, reduceEqDiff, reduceLT, reduceLeDiff, Nat.reduceBEq, Nat.reduceBNe, Int.reduceLT, Int.reduceLE, Int.reduceEq, Int.reduceAdd, Int.reduceSub, Int.reduceNeg, reduceCtorEq]
      intro g6
      refine plain_ok (N := 3000) (call_does (fun y G => ∃ sv', y = .tuple #[sv', .int .i64 (applyS t (mode2 ⟨#[99]⟩ 0)).2] ∧ StaG G sv' (applyS t (mode2 ⟨#[99]⟩ 0)).1) rfl rfl (by kernel_rfl) rfl (dk rfl) (fun G hG => apply_does hG.wf (hP3.mono (hG.le G3 (by simp))).g ⟨_, _, _, rfl, Sq.nil, Sq.nil, Sq.nil, mode2_ok (by decide) i64_0⟩)) (QOk_body _ _ _) (by first | exact .inl rfl | exact .inr ⟨_, _, rfl, rfl⟩) ?_
      rintro _ ⟨_, G7, ⟨sv7, rfl, hs7⟩, hn7, rfl⟩
      clear hn7
      rw [hC] at hs7 ⊢
      obtain ⟨D1, a1, D2, a2, D3, a3, D4, a4, D5, a5, rfl, hP7⟩ := hs7.form
      simp only [go_sem, reduceAdd, reduceSub, reduceMul, reduceEqDiff, reduceLT, reduceLeDiff, Nat.reduceBEq, Nat.reduceBNe, Int.reduceLT, Int.reduceLE, Int.reduceEq, Int.reduceAdd, Int.reduceSub, Int.reduceNeg, reduceCtorEq]
      intro g7
      refine wgX_do rfl rfl rfl ?_
      refine plain_ok (N := 3000) (booleq_does rfl Try.underlying4 rfl rfl rfl rfl (dk rfl)) (QOk_body _ _ _) (by first | exact .inl rfl | exact .inr ⟨_, _, rfl, rfl⟩) ?_
      rintro _ rfl
      simp only [go_sem, reduceAdd, reduceSub, reduceMul, reduceEqDiff, reduceLT, reduceLeDiff, Nat.reduceBEq, Nat.reduceBNe, Int.reduceLT, Int.reduceLE, Int.reduceEq, Int.reduceAdd, Int.reduceSub, Int.reduceNeg, reduceCtorEq, q0]
      refine fin_ret (G := ⟨Non, w⟩) Try.results10 ?_
      simp only [go_sem, reduceAdd, reduceSub, reduceMul, reduceEqDiff, reduceLT, reduceLeDiff, Nat.reduceBEq, Nat.reduceBNe, Int.reduceLT, Int.reduceLE, Int.reduceEq, Int.reduceAdd, Int.reduceSub, Int.reduceNeg, reduceCtorEq, q0]
      intro aa w' _ hle
      rfl
    · have q0 : decide (m = 0) = false := decide_eq_false hm0
      have hc2 := mode_change hokt hbt hbn 0
      rw [if_neg (by decide), if_pos (by show (decide ((0 : Int) = 0) && !decide (m = 0)) = true; rw [q0]; rfl)] at hc2
      have hA2 := apply_bad hokt hc2 (by decide)
      rw [hA2] at hs6 ⊢
      obtain ⟨C1, e1, C2, e2, C3, e3, C4, e4, C5, e5, rfl, hP6⟩ := hs6.form
      simp only [go_sem, reduceAdd, reduceSub, reduceMul, reduceEqDiff, reduceLT, reduceLeDiff, Nat.reduceBEq, Nat.reduceBNe, Int.reduceLT, Int.reduceLE, Int.reduceEq, Int.reduceAdd, Int.reduceSub, Int.reduceNeg, reduceCtorEq]
      intro g6
      refine plain_ok (N := 3000) (call_does (fun y G => ∃ sv', y = .tuple #[sv', .int .i64 (applyS t (mode2 ⟨#[99]⟩ 0)).2] ∧ StaG G sv' (applyS t (mode2 ⟨#[99]⟩ 0)).1) rfl rfl (by kernel_rfl) rfl (dk rfl) (fun G hG => apply_does hG.wf (hP3.mono (hG.le G3 (by simp))).g ⟨_, _, _, rfl, Sq.nil, Sq.nil, Sq.nil, mode2_ok (by decide) i64_0⟩)) (QOk_body _ _ _) (by first | exact .inl rfl | exact .inr ⟨_, _, rfl, rfl⟩) ?_
      rintro _ ⟨_, G7, ⟨sv7, rfl, hs7⟩, hn7, rfl⟩
      clear hn7
      rw [hC] at hs7 ⊢
      obtain ⟨D1, a1, D2, a2, D3, a3, D4, a4, D5, a5, rfl, hP7⟩ := hs7.form
      simp only [go_sem, reduceAdd, reduceSub, reduceMul, reduceEqDiff, reduceLT, reduceLeDiff, Nat.reduceBEq, Nat.reduceBNe, Int.reduceLT, Int.reduceLE, Int.reduceEq, Int.reduceAdd, Int.reduceSub, Int.reduceNeg, reduceCtorEq]
      intro g7
      refine wgX_do rfl rfl rfl ?_
      refine plain_ok (N := 3000) (booleq_does rfl Try.underlying4 rfl rfl rfl rfl (dk rfl)) (QOk_body _ _ _) (by first | exact .inl rfl | exact .inr ⟨_, _, rfl, rfl⟩) ?_
      rintro _ rfl
      simp only [go_sem, reduceAdd, reduceSub, reduceMul, reduceEqDiff, reduceLT, reduceLeDiff, Nat.reduceBEq, Nat.reduceBNe, Int.reduceLT, Int.reduceLE, Int.reduceEq, Int.reduceAdd, Int.reduceSub, Int.reduceNeg, reduceCtorEq, q0]
      refine fin_ret (G := ⟨Non, w⟩) Try.results10 ?_
      simp only [go_sem, reduceAdd, reduceSub, reduceMul, reduceEqDiff, reduceLT, reduceLeDiff, Nat.reduceBEq, Nat.reduceBNe, Int.reduceLT, Int.reduceLE, Int.reduceEq, Int.reduceAdd, Int.reduceSub, Int.reduceNeg, reduceCtorEq, q0]
      intro aa w' _ hle
      rfl
theorem modeOn_walk {w : World} (v0 : Value) (l0 : List Raw) (h0 : RawsG ⟨Non, w⟩ v0 l0) (n : Int) (hn : i64 n) : Calls Try.prog 10 #[v0, .int .i64 n] w fun e w' => e = .returned (.bool true) ∧ Below w.heap.size w w' := ret_walk (modeOn_ret v0 l0 h0 n hn)
end Go.Proofs.Ytefmffpidhdjoaa
