/- Decode: records from their bytes. Conditions: as each law states them. -/
import Derived.Test.YtohdfcnjcpjdcaaDoorQ12q
namespace Go.Proofs.YtohdfcnjcpjdcaaDoor
open Go.RowKit
set_option linter.unusedSimpArgs false
def stR (a : List Rec) (s : RS) : List Rec × RS := (a ++ [(rc s).1], (rc s).2)
def dcM (l : List UInt8) : List Rec × RS := mny stR [] ⟨l, 0⟩
/-- records from their bytes -/
def decR (l : List UInt8) : List Rec × Int := if (en (dcM l).2).f = 0 then ((dcM l).1, 0) else ([], (en (dcM l).2).f)
structure RQ where
  r : Rec
  vs : Value
  ps : Value
  ss : Value
def recQ (x : RQ) : List Value := recV x.r x.vs x.ps x.ss
theorem recQ_len (x : RQ) : (recQ x).length = 29 := rfl
structure RQ.Ok (G : GW) (x : RQ) : Prop where
  g : RxG G x.r x.vs x.ps x.ss
  f : i64 (x.r.rule.freeze + 1)
  d : i64 (x.r.rule.drop + 1)
theorem RQ.Ok.mono {G G' : GW} {x : RQ} (h : x.Ok G) (hl : G.Le G') : x.Ok G' := ⟨h.g.mono hl, h.f, h.d⟩
theorem chunks_mapQ {α : Type} {f : α → List Value} {k : Nat} (hf : ∀ x, (f x).length = k) (l : List α) : ∀ cs ∈ l.map f, cs.length = k := by
  intro cs hcs
  obtain ⟨x, _, rfl⟩ := List.mem_map.1 hcs
  exact hf x
theorem rxs_of {G : GW} {v : Value} {l : List RQ} (h : Sl G 33 29 l.length v (l.flatMap recQ)) (hk : ∀ x ∈ l, x.Ok G) : RxsG G v (l.map (·.r)) := by
  refine ⟨l.map recQ, ⟨by simp, chunks_mapQ recQ_len l, fun i cs x h1 h2 => ?_⟩, by rw [List.length_map, ← List.flatMap_def]; exact h⟩
  rw [List.getElem?_map] at h1 h2
  cases hp : l[i]? with
  | none => rw [hp] at h2; cases h2
  | some p =>
    rw [hp] at h1 h2
    cases h1
    cases h2
    have hx := hk p (List.mem_of_getElem? hp)
    exact ⟨p.vs, p.ps, p.ss, rfl, hx.g, hx.f, hx.d⟩
theorem recQ_one (r : Rec) (A B C : Option Addr) (n m k a b c : Nat) : ∀ u ∈ recV r (.slice A n a) (.slice B m b) (.slice C k c), u.oneCell' = true :=
  fun u hu => List.all_eq_true.1 (show (recV r (.slice A n a) (.slice B m b) (.slice C k c)).all (fun u => u.oneCell') = true from rfl) u hu
theorem rc_rule (s : RS) : i64 ((rc s).1.rule.freeze + 1) ∧ i64 ((rc s).1.rule.drop + 1) := by
  have h0 : i64 ((noR).freeze + 1) ∧ i64 ((noR).drop + 1) := ⟨⟨by decide, by decide⟩, ⟨by decide, by decide⟩⟩
  unfold rc
  split
  · have h := (bd_rcT (tk 1 s).1 (rcK (tk 1 s))).2.2.2.2.1
    have e : (rcT (tk 1 s).1 (rcK (tk 1 s))).1.rule = (rcT (tk 1 s).1 (rcK (tk 1 s))).1.rule := rfl
    generalize (rcT (tk 1 s).1 (rcK (tk 1 s))).1 = r at h ⊢
    generalize (kd (tk 1 s).1).rule = b at h
    cases b with
    | true =>
      obtain ⟨_, h1, h2⟩ : okRl r.rule := h
      exact ⟨⟨by omega, by omega⟩, ⟨by omega, by omega⟩⟩
    | false =>
      have e : r.rule = noR := h
      rw [e]
      exact h0
  · exact h0
set_option maxRecDepth 100000 in
set_option maxHeartbeats 16000000 in
theorem dec_does {bv : Value} {l : List UInt8} {G0 : GW} (hW : G0.Wf) (hb0 : ByG G0 bv l) (hl : l.length ≤ 2000000) (hK : KindsG G0) :
    Calls Tryd.prog 8 #[bv] G0.w (Ret G0 fun y G => ∃ ov, y = .tuple #[ov, .int .i64 (decR l).2] ∧ RxsG G ov (decR l).1) := by
  obtain ⟨A, c, rfl, hc1, hc2⟩ := hb0.form
  have hml := max_le
  refine enterS (G := G0) (n := 36) 3000 hW Tryd.func8 rfl Tryd.ntmps8 (by simp) ?_
  simp only [go_sem, simprocAttr]
  refine plain_ok (N := 3000) (callH_does ([]) ([]) ([]) ([]) (fun y _ R _ => ∃ A c, y = .slice A l.length c ∧ R = [bytRow (.slice A l.length c) l]) upV rfl rfl (by kernel_rfl) rfl (dk rfl) rfl rfl (by simp [ids, Diff]) (by simp) (fun G hG hh hM => cloneByte_does hG.wf (Sq.mono hb0.sq byteG_mono (hG.le G0 (by simp))) (by omega)) (fun v css R G _ _ => upV_den css)) (QOk_body _ _ _) (by first | exact .inl rfl | exact .inr ⟨_, _, rfl, rfl⟩) ?_
  rintro _ ⟨_, css, _, GC, ⟨Ac, cc, rfl, rfl⟩, hcs, hle, rfl⟩
  clear hcs hle
  simp only [go_sem, simprocAttr]
  intro g
  refine read_ok (R1 := []) rfl (fun GB hleB hslB => ?_) (fun _ _ q => q) (by show (1 : Nat) ≠ 0; decide)
  have hb : ByG GB (.slice Ac l.length cc) l := by
    have h9 : Sl GB 5 1 l.length (.slice Ac l.length cc) (l.flatMap bytC) := hslB
    rw [bytC_flat] at h9
    exact h9
  simp only [St.seen, St.rowsTo, List.nil_append]
  refine plain_ok (N := 3000) (callH_does ([0]) ([]) ([]) ([]) (fun y css R G => R = [] ∧ y = .int .i64 (tk 1 (⟨l, 0⟩ : RS)).1 ∧ ∃ rv', css = [[rv', .int .i64 (tk 1 (⟨l, 0⟩ : RS)).2.f]] ∧ ByG G rv' (tk 1 (⟨l, 0⟩ : RS)).2.l) upV rfl rfl (by kernel_rfl) rfl (dk rfl) rfl rfl (by simp [ids, Diff]) (by simp) (fun G hG hh hM => take_does' (k := 1) (s := (⟨l, 0⟩ : RS)) hG.wf hh hM (hb.mono (hG.le GB (by simp))) (.inl (by omega)) (by omega)) (fun v css R G _ _ => upV_den css)) (QOk_body _ _ _) (by first | exact .inl rfl | exact .inr ⟨_, _, rfl, rfl⟩) ?_
  rintro _ ⟨_, css, _, G1, ⟨rfl, rfl, rv1, rfl, hb1⟩, hcs, hle, rfl⟩
  clear hcs hle
  have hbd := tk1_bd (⟨l, 0⟩ : RS)
  have hdm : dcM l = mn stR (tk 1 (⟨l, 0⟩ : RS)).1.toNat [] (tk 1 (⟨l, 0⟩ : RS)).2 := rfl
  obtain ⟨N, hN⟩ : ∃ N : Nat, (tk 1 (⟨l, 0⟩ : RS)).1 = (N : Int) := ⟨(tk 1 (⟨l, 0⟩ : RS)).1.toNat, by omega⟩
  rw [hN] at hbd hdm ⊢
  rw [Int.toNat_natCast] at hdm
  generalize (tk 1 (⟨l, 0⟩ : RS)).2 = s1 at hb1 hdm ⊢
  clear hN
  simp only [go_sem, simprocAttr]
  refine row_ok 33 29 ?_
  simp only [St.rowsTo]
  refine loop_ok (N := 3000) (ι := Nat × Value × RS × List RQ × (Option Addr × Nat) × GW)
    (fun i => match i with | (n, v, s, x, (B, d), G) => ⟨[(4, .c (.p 0 g 0)), (5, .c (.v (.slice B x.length d))), (6, .c (.v (.int .i64 (n : Int))))], [⟨0, g, 56, [.v v, .v (.int .i64 s.f)]⟩], [⟨.slice B x.length d, 33, 29, x.length, x.flatMap recQ⟩], [], [G, G0], 1⟩)
    (fun i => match i with | (n, v, s, x, (B, d), G) => x.length + n ≤ 255 ∧ mn stR n (x.map (·.r)) s = dcM l ∧ ByG G v s.l ∧ ∀ q ∈ x, q.Ok G) (fun i => i.1) (QOk_body _ _ _) (N, rv1, s1, [], (none, 0), G1) ⟨by show 0 + N ≤ 255; omega, hdm.symm, hb1, fun q hq => by cases hq⟩ (by simp only [go_sem, simprocAttr]; simp) ?_
  rintro ⟨n, v, s, x, ⟨B, d⟩, GA⟩ ⟨hxn, hmn, hbv, hxo⟩
  simp only
  by_cases hgo : 0 < n ∧ s.f = 0
  · obtain ⟨hn0, hs0⟩ := hgo
    have q1 : decide (0 < (n : Int)) = true := decide_eq_true (by omega)
    have q2 : decide (s.f = 0) = true := decide_eq_true hs0
    obtain ⟨k, rfl⟩ : ∃ k, n = k + 1 := ⟨n - 1, by omega⟩
    rw [mn, if_pos hs0] at hmn
    simp only [go_sem, simprocAttr, q1, q2]
    refine plain_ok (N := 3000) (callH_does ([0]) ([]) ([]) ([⟨.slice B x.length d, 33, 29, x.length, x.flatMap recQ⟩]) (fun y css R G => R = [] ∧ (∃ vs ps ss, y = .agg (recV (rc s).1 vs ps ss).toArray ∧ RxG G (rc s).1 vs ps ss) ∧ ∃ rv', css = [[rv', .int .i64 (rc s).2.f]] ∧ ByG G rv' (rc s).2.l) upV rfl rfl (by kernel_rfl) rfl (dk rfl) rfl rfl (by simp [ids, Diff]) (by simp) (fun G hG hh hM => rrecord_does (s := s) hG.wf hh hM (hbv.mono (hG.le GA (by simp))) (BlkG.mono hK (hG.le G0 (by simp)))) (fun v css R G _ _ => upV_den css)) (QOk_body _ _ _) (by first | exact .inl rfl | exact .inr ⟨_, _, rfl, rfl⟩) ?_
    rintro _ ⟨_, css, _, G2, ⟨rfl, ⟨vs, ps, ss, rfl, hx⟩, rv2, rfl, hb2⟩, hcs, hle, rfl⟩
    have hl2 : GA.Le G2 := hle GA (by simp)
    clear hcs hle
    obtain ⟨Av, cv, rfl, _⟩ := Sq.form hx.v
    obtain ⟨Ap, cp, rfl, _⟩ := Sq.form hx.p
    obtain ⟨As, cs, rfl, _⟩ := Sq.form hx.s
    have hrr := rc_rule s
    have hmn' : mn stR k ((x ++ [(⟨(rc s).1, .slice Av (rc s).1.ver.secs.length cv, .slice Ap (rc s).1.part.secs.length cp, .slice As (rc s).1.secs.length cs⟩ : RQ)]).map (·.r)) (rc s).2 = dcM l := by
      rw [List.map_append]
      exact hmn
    obtain ⟨X, hX⟩ : ∃ X, X = rc s := ⟨_, rfl⟩
    rw [← hX] at hx hb2 hrr hmn' ⊢
    clear hX hmn
    have e1 : ((k + 1 : Nat) : Int) - 1 = (k : Int) := by omega
    simp only [go_sem, simprocAttr, recV]
    intro gL
    refine plain_ok (N := 3000) (append_does (R1 := []) (R2 := []) (n := x.length) (v := .slice B x.length d) (xs := x.flatMap recQ) (m := 1) (news := recV X.1 (.slice Av X.1.ver.secs.length cv) (.slice Ap X.1.part.secs.length cp) (.slice As X.1.secs.length cs)) rfl tySlice34 tyApp33 rfl rfl rfl rfl (dk rfl) (recQ_one _ _ _ _ _ _ _ _ _ _) (by unfold maxLen; omega) (by omega) (fun G hG => tsl_blk hG List.mem_cons_self rfl (by unfold maxLen; omega))) (QOk_body _ _ _) (by first | exact .inl rfl | exact .inr ⟨_, _, rfl, rfl⟩) ?_
    rintro _ ⟨A', c', rfl⟩
    simp only [go_sem, simprocAttr, e1]
    refine ⟨by omega, ?_⟩
    refine again_ok (k, rv2, X.2, x ++ [(⟨X.1, .slice Av X.1.ver.secs.length cv, .slice Ap X.1.part.secs.length cp, .slice As X.1.secs.length cs⟩ : RQ)], (A', c'), G2) ⟨by rw [List.length_append]; show x.length + 1 + k ≤ 255; omega, hmn', hb2, fun q hq => ?_⟩ (by show k < k + 1; omega) (by simp only [go_sem, simprocAttr, List.length_append, List.length_cons, List.length_nil, List.flatMap_append, List.flatMap_cons, List.flatMap_nil, List.append_nil, recQ]; simp)
    rcases List.mem_append.1 hq with hq | hq
    · exact (hxo q hq).mono hl2
    · rw [List.mem_singleton.1 hq]
      exact ⟨hx, hrr.1, hrr.2⟩
  have hq : (decide (0 < (n : Int)) && decide (s.f = 0)) = false := by
    by_cases h1 : s.f = 0
    · have h2 : n = 0 := by
        rcases Nat.eq_zero_or_pos n with h | h
        · exact h
        · exact absurd ⟨h, h1⟩ hgo
      rw [decide_eq_false (show ¬ 0 < (n : Int) by omega)]
      rfl
    · rw [decide_eq_false h1, Bool.and_false]
  have hM2 : dcM l = (x.map (·.r), s) := by
    rw [← hmn]
    cases n with
    | zero => rfl
    | succ n =>
      rw [mn, if_neg]
      exact fun h1 => hgo ⟨by omega, h1⟩
  simp only [go_sem, simprocAttr, hq]
  refine plain_ok (N := 3000) (callH_does ([0]) ([]) ([]) ([⟨.slice B x.length d, 33, 29, x.length, x.flatMap recQ⟩]) (fun y css R G => R = [] ∧ y = .int .i64 (en s).f ∧ ∃ rv', css = [[rv', .int .i64 (en s).f]] ∧ ByG G rv' (en s).l) upV rfl rfl (by kernel_rfl) rfl (dk rfl) rfl rfl (by simp [ids, Diff]) (by simp) (fun G hG hh hM => end_does (s := s) hG.wf hh hM (hbv.mono (hG.le GA (by simp)))) (fun v css R G _ _ => upV_den css)) (QOk_body _ _ _) (by first | exact .inl rfl | exact .inr ⟨_, _, rfl, rfl⟩) ?_
  rintro _ ⟨_, css, _, G3, ⟨rfl, rfl, rv3, rfl, hb3⟩, hcs, hle, rfl⟩
  have hl3 : GA.Le G3 := hle GA (by simp)
  clear hcs hle
  by_cases he : (en s).f = 0
  · have qe : decide ((en s).f = 0) = true := decide_eq_true he
    have e : decR l = (x.map (·.r), 0) := by unfold decR; rw [hM2, if_pos he]
    rw [e]
    simp only [go_sem, simprocAttr, qe, Bool.not_true]
    refine read_ok (R1 := []) rfl (fun GF hleF hslF => ?_) (fun _ _ q => q) (by show (29 : Nat) ≠ 0; decide)
    have hrx : RxsG GF (.slice B x.length d) (x.map (·.r)) := rxs_of hslF (fun q hq => (hxo q hq).mono (hl3.trans (hleF G3 (by simp))))
    refine fin_ret (G := G0) Tryd.results8 ?_
    simp only [go_sem, simprocAttr]
    intro aa w' _ hle
    exact ⟨_, rfl, Sq.mono hrx rxCs_mono (hle GF (by simp))⟩
  · have qe : decide ((en s).f = 0) = false := decide_eq_false he
    have e : decR l = ([], (en s).f) := by unfold decR; rw [hM2, if_neg he]
    rw [e]
    simp only [go_sem, simprocAttr, qe, Bool.not_false]
    refine fin_ret (G := G0) Tryd.results8 ?_
    simp only [go_sem, simprocAttr]
    intro aa w' _ _
    exact ⟨_, rfl, Sq.nil⟩
end Go.Proofs.YtohdfcnjcpjdcaaDoor
