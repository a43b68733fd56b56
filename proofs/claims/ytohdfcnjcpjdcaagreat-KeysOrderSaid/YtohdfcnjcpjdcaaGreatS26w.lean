/- slices.BinarySearch over ints; give; add. Conditions: as each law states them. -/
import Derived.Test.YtohdfcnjcpjdcaaGreatS25w
namespace Go.Proofs.YtohdfcnjcpjdcaaGreat
open Go.RowKit
open Nat (reduceAdd reduceSub reduceMul reduceEqDiff reduceLT reduceLeDiff)
set_option linter.unusedSimpArgs false
/-- an operation that hangs on one that was not carried out -/
theorem wg_undef {P : Program} {E : Env} {k : Cont} {N : Nat} {ops : Array Oper} {rest : List Oper} {o : Oper} {σ : St} {j t : Nat} {want : Bool} {x : Option Bool} (hx : x = none) (hg : o.guard = some (j, want)) (hj : gTmp ops j = some t) (hl : look σ.tmps t = some (.c (.v undef))) (hd : dOk E o.dst) (hk : k.ok)
  (h : W P E N k (.ops ops rest) (σ.put o.dst (.c (.v undef)))) : Wg P E (W P E N k) k ops rest o σ want x := by
 rw [hx]
 intro a w hr
 have hy : yielded ops a.tmps j = none := by
  have hd' : (ops[j]?).bind (·.dst) = some t := hj
  have := hr.tmps t _ hl
  simp only [yielded, hd', Option.bind_some, this, SV.den, SC.den]
  rfl
 unfold wpList
 rw [if_neg (by simp [Region.wanted, hg, hy])]
 exact W_sound N k _ _ hk h trivial _ _ (hr.put _ (.c (.v undef)) (dOk_lt hd))
set_option maxRecDepth 100000 in
set_option maxHeartbeats 4000000 in
theorem sIsNaN_does {n : Int} {G0 : GW} (hW : G0.Wf) :
  Calls Tryz.prog 166 #[.int .i64 n] G0.w (Ret G0 fun v _ => v = .bool false) := by
 have q : decide (n = n) = true := decide_eq_true rfl
 refine enterS (G := G0) (n := 6) 3000 hW Tryz.func166 rfl Tryz.ntmps166 (by simp) ?_
 simp only [go_sem, reduceAdd, reduceSub, reduceMul, reduceEqDiff, reduceLT, reduceLeDiff, Nat.reduceBEq, Nat.reduceBNe, Int.reduceLT, Int.reduceLE, Int.reduceEq, Int.reduceAdd, Int.reduceSub, Int.reduceNeg, reduceCtorEq, q]
 refine fin_ret (G := G0) Tryz.results166 ?_
 simp only [go_sem, reduceAdd, reduceSub, reduceMul, reduceEqDiff, reduceLT, reduceLeDiff, Nat.reduceBEq, Nat.reduceBNe, Int.reduceLT, Int.reduceLE, Int.reduceEq, Int.reduceAdd, Int.reduceSub, Int.reduceNeg, reduceCtorEq]
 intro aa w' _ _
 rfl
set_option maxRecDepth 100000 in
set_option maxHeartbeats 4000000 in
theorem less_does {a b : Int} {G0 : GW} (hW : G0.Wf) :
  Calls Tryz.prog 165 #[.int .i64 a, .int .i64 b] G0.w (Ret G0 fun v _ => v = .bool (decide (a < b))) := by
 refine enterS (G := G0) (n := 17) 3000 hW Tryz.func165 rfl Tryz.ntmps165 (by simp) ?_
 simp only [go_sem, reduceAdd, reduceSub, reduceMul, reduceEqDiff, reduceLT, reduceLeDiff, Nat.reduceBEq, Nat.reduceBNe, Int.reduceLT, Int.reduceLE, Int.reduceEq, Int.reduceAdd, Int.reduceSub, Int.reduceNeg, reduceCtorEq]
 refine pk (call_does (fun v _ => v = .bool false) rfl rfl (by kernel_rfl) rfl (dk rfl) (fun G hG => isNaN_does hG.wf)) ?_
 rintro _ ⟨_, G1, rfl, hn1, rfl⟩
 clear hn1
 simp only [go_sem, reduceAdd, reduceSub, reduceMul, reduceEqDiff, reduceLT, reduceLeDiff, Nat.reduceBEq, Nat.reduceBNe, Int.reduceLT, Int.reduceLE, Int.reduceEq, Int.reduceAdd, Int.reduceSub, Int.reduceNeg, reduceCtorEq]
 refine fin_ret (G := G0) Tryz.results165 ?_
 simp only [go_sem, reduceAdd, reduceSub, reduceMul, reduceEqDiff, reduceLT, reduceLeDiff, Nat.reduceBEq, Nat.reduceBNe, Int.reduceLT, Int.reduceLE, Int.reduceEq, Int.reduceAdd, Int.reduceSub, Int.reduceNeg, reduceCtorEq]
 intro aa w' _ _
 rfl
set_option maxRecDepth 100000 in
set_option maxHeartbeats 8000000 in
theorem bsInt_does {l : List Int} {lv : Value} {t : Int} {G0 : GW} (hW : G0.Wf) (h : IntsG G0 lv l) (ho : Ordered (ltInt t) l) (hn : l.length ≤ 1000000) :
  Calls Tryz.prog 138 #[lv, .int .i64 t] G0.w (Ret G0 fun v _ => v = .tuple #[.int .i64 (ahead (ltInt t) l : Int), .bool (hit (ltInt t) (eqInt t) l)]) := by
 obtain ⟨A, c, rfl, hc1, hc2⟩ := Sq.form h
 have hml := max_le
 refine enter (G := G0) (n := 54) 3000 hW Tryz.func138 rfl Tryz.ntmps138 (by simp) ?_
 simp only [go_sem, reduceAdd, reduceSub, reduceMul, reduceEqDiff, reduceLT, reduceLeDiff, Nat.reduceBEq, Nat.reduceBNe, Int.reduceLT, Int.reduceLE, Int.reduceEq, Int.reduceAdd, Int.reduceSub, Int.reduceNeg, reduceCtorEq]
 refine loop_ok (N := 3000) (ι := Nat × Nat × GW) (fun i => match i with | (i, j, G) => ⟨[(0, .c (.v (.slice A l.length c))), (1, .c (.v (.int .i64 t))), (6, .c (.v (.int .i64 (l.length : Int)))), (7, .c (.v (.int .i64 (i : Int)))), (8, .c (.v (.int .i64 (j : Int))))], [], [], [], [G, G0], 0⟩)
  (fun i => match i with | (i, j, G) => i ≤ j ∧ j ≤ l.length ∧ IntsG G (.slice A l.length c) l ∧ (∀ k x, k < i → l[k]? = some x → ltInt t x = true) ∧ ∀ k x, j ≤ k → l[k]? = some x → ltInt t x = false)
  (fun i => i.2.1 - i.1) (QOk_body _ _ _) (0, l.length, G0) ⟨by omega, by omega, h, fun k x hk => absurd hk (by omega), fun k x hk hx => by have := (List.getElem?_eq_some_iff.1 hx).1; omega⟩ (by simp only [go_sem, reduceAdd, reduceSub, reduceMul, reduceEqDiff, reduceLT, reduceLeDiff, Nat.reduceBEq, Nat.reduceBNe, Int.reduceLT, Int.reduceLE, Int.reduceEq, Int.reduceAdd, Int.reduceSub, Int.reduceNeg, reduceCtorEq]; simp) ?_
 rintro ⟨i, j, G1⟩ ⟨hij, hj, hl1, hlo, hhi⟩
 simp only
 by_cases hlt : i < j
 ·have q : decide ((i : Int) < (j : Int)) = true := decide_eq_true (by omega)
  obtain ⟨b1, b2⟩ := half_bd i j hlt
  simp only [go_sem, reduceAdd, reduceSub, reduceMul, reduceEqDiff, reduceLT, reduceLeDiff, Nat.reduceBEq, Nat.reduceBNe, Int.reduceLT, Int.reduceLE, Int.reduceEq, Int.reduceAdd, Int.reduceSub, Int.reduceNeg, reduceCtorEq, q, half_cast]
  refine ⟨by omega, by omega, by omega, by omega, ?_⟩
  obtain ⟨m, hm⟩ : ∃ m, m = (i + j) / 2 := ⟨_, rfl⟩
  rw [← hm] at b1 b2 ⊢
  obtain ⟨x, hx⟩ : ∃ x, l[m]? = some x := ⟨_, List.getElem?_eq_getElem (by omega)⟩
  refine pk (elem_does (R := IntG) (l := l) (m := m) rfl tySlice28 tySize3 rfl rfl (dk rfl) rfl hx (fun G hG => IntsG.mono hl1 (hG.le G1 (by simp)))) ?_
  rintro _ ⟨g, o', cs, G2, hcl, hcs, rfl⟩
  obtain rfl := hcs
  simp only [go_sem, reduceAdd, reduceSub, reduceMul, reduceEqDiff, reduceLT, reduceLeDiff, Nat.reduceBEq, Nat.reduceBNe, Int.reduceLT, Int.reduceLE, Int.reduceEq, Int.reduceAdd, Int.reduceSub, Int.reduceNeg, reduceCtorEq]
  refine pk (call_does (fun v _ => v = .bool (decide (x < t))) rfl rfl (by kernel_rfl) rfl (dk rfl) (fun G hG => less_does hG.wf)) ?_
  rintro _ ⟨_, G3, rfl, hn3, rfl⟩
  simp only [go_sem, reduceAdd, reduceSub, reduceMul, reduceEqDiff, reduceLT, reduceLeDiff, Nat.reduceBEq, Nat.reduceBNe, Int.reduceLT, Int.reduceLE, Int.reduceEq, Int.reduceAdd, Int.reduceSub, Int.reduceNeg, reduceCtorEq]
  refine Wb_mk (fun h2 => ⟨by omega, ?_⟩) (fun h2 => ?_)
  ·refine again_ok (m + 1, j, G1) ⟨(by show m + 1 ≤ j; omega), hj, hl1, fun k y hk hy => ?_, hhi⟩ (by show j - (m + 1) < j - i; omega) (by simp only [go_sem, reduceAdd, reduceSub, reduceMul, reduceEqDiff, reduceLT, reduceLeDiff, Nat.reduceBEq, Nat.reduceBNe, Int.reduceLT, Int.reduceLE, Int.reduceEq, Int.reduceAdd, Int.reduceSub, Int.reduceNeg, reduceCtorEq]; simp)
   by_cases e : k = m
   ·subst e
    rw [hx] at hy; cases hy; exact h2
   ·exact ho k m y x (by omega) hy hx h2
  ·refine again_ok (i, m, G1) ⟨b1, (by show m ≤ l.length; omega), hl1, hlo, fun k y hk hy => ?_⟩ (by show m - i < j - i; omega) (by simp only [go_sem, reduceAdd, reduceSub, reduceMul, reduceEqDiff, reduceLT, reduceLeDiff, Nat.reduceBEq, Nat.reduceBNe, Int.reduceLT, Int.reduceLE, Int.reduceEq, Int.reduceAdd, Int.reduceSub, Int.reduceNeg, reduceCtorEq]; simp)
   by_cases e : k = m
   ·subst e
    rw [hx] at hy; cases hy; exact h2
   ·cases hq : ltInt t y with
    | false => rfl
    | true => exact absurd (ho m k x y (by have : m ≤ k := hk; omega) hx hy hq) (by rw [show ltInt t x = false from h2]; simp)
 ·have q : decide ((i : Int) < (j : Int)) = false := decide_eq_false (by omega)
  have e : i = j := by omega
  subst e
  have ha : ahead (ltInt t) l = i := ahead_is hj hlo (fun x hx => hhi i x (Nat.le_refl _) hx)
  have hh : hit (ltInt t) (eqInt t) l = hitO (eqInt t) l[i]? := by unfold hit; rw [ha]
  rw [ha]
  by_cases hlt2 : i < l.length
  ·have q2 : decide ((i : Int) < (l.length : Int)) = true := decide_eq_true (by omega)
   obtain ⟨x, hx⟩ : ∃ x, l[i]? = some x := ⟨_, List.getElem?_eq_getElem hlt2⟩
   rw [hx] at hh
   rw [hh]
   clear hh ha
   simp only [go_sem, reduceAdd, reduceSub, reduceMul, reduceEqDiff, reduceLT, reduceLeDiff, Nat.reduceBEq, Nat.reduceBNe, Int.reduceLT, Int.reduceLE, Int.reduceEq, Int.reduceAdd, Int.reduceSub, Int.reduceNeg, reduceCtorEq, q, q2]
   refine pk (elem_does (R := IntG) (l := l) (m := i) rfl tySlice28 tySize3 rfl rfl (dk rfl) rfl hx (fun G hG => IntsG.mono hl1 (hG.le G1 (by simp)))) ?_
   rintro _ ⟨g, o', cs, G2, hcl, hcs, rfl⟩
   obtain rfl := hcs
   by_cases hxt : x = t
   ·have q3 : decide (x = t) = true := decide_eq_true hxt
    simp only [go_sem, reduceAdd, reduceSub, reduceMul, reduceEqDiff, reduceLT, reduceLeDiff, Nat.reduceBEq, Nat.reduceBNe, Int.reduceLT, Int.reduceLE, Int.reduceEq, Int.reduceAdd, Int.reduceSub, Int.reduceNeg, reduceCtorEq, q3]
    refine wg_undef rfl rfl rfl rfl (dk rfl) (by exact QOk_body _ _ _) ?_
    simp only [go_sem, reduceAdd, reduceSub, reduceMul, reduceEqDiff, reduceLT, reduceLeDiff, Nat.reduceBEq, Nat.reduceBNe, Int.reduceLT, Int.reduceLE, Int.reduceEq, Int.reduceAdd, Int.reduceSub, Int.reduceNeg, reduceCtorEq, q3]
    refine wg_undef rfl rfl rfl rfl (dk rfl) (by exact QOk_body _ _ _) ?_
    simp only [go_sem, reduceAdd, reduceSub, reduceMul, reduceEqDiff, reduceLT, reduceLeDiff, Nat.reduceBEq, Nat.reduceBNe, Int.reduceLT, Int.reduceLE, Int.reduceEq, Int.reduceAdd, Int.reduceSub, Int.reduceNeg, reduceCtorEq, q3]
    refine fin_ret (G := G0) Tryz.results138 ?_
    simp only [go_sem, reduceAdd, reduceSub, reduceMul, reduceEqDiff, reduceLT, reduceLeDiff, Nat.reduceBEq, Nat.reduceBNe, Int.reduceLT, Int.reduceLE, Int.reduceEq, Int.reduceAdd, Int.reduceSub, Int.reduceNeg, reduceCtorEq]
    intro aa w' _ _
    show _ = Value.tuple #[_, .bool (decide (x = t))]
    rw [q3]
    rfl
   ·have q3 : decide (x = t) = false := decide_eq_false hxt
    simp only [go_sem, reduceAdd, reduceSub, reduceMul, reduceEqDiff, reduceLT, reduceLeDiff, Nat.reduceBEq, Nat.reduceBNe, Int.reduceLT, Int.reduceLE, Int.reduceEq, Int.reduceAdd, Int.reduceSub, Int.reduceNeg, reduceCtorEq, q3]
    refine pk (elem_does (R := IntG) (l := l) (m := i) rfl tySlice28 tySize3 rfl rfl (dk rfl) rfl hx (fun G hG => IntsG.mono hl1 (hG.le G1 (by simp)))) ?_
    rintro _ ⟨g', o'', cs', G5, hcl', hcs', rfl⟩
    obtain rfl := hcs'
    simp only [go_sem, reduceAdd, reduceSub, reduceMul, reduceEqDiff, reduceLT, reduceLeDiff, Nat.reduceBEq, Nat.reduceBNe, Int.reduceLT, Int.reduceLE, Int.reduceEq, Int.reduceAdd, Int.reduceSub, Int.reduceNeg, reduceCtorEq, q3]
    refine pk (call_does (fun v _ => v = .bool false) rfl rfl (by kernel_rfl) rfl (dk rfl) (fun G hG => sIsNaN_does hG.wf)) ?_
    rintro _ ⟨_, G3, rfl, hn3, rfl⟩
    clear hn3
    simp only [go_sem, reduceAdd, reduceSub, reduceMul, reduceEqDiff, reduceLT, reduceLeDiff, Nat.reduceBEq, Nat.reduceBNe, Int.reduceLT, Int.reduceLE, Int.reduceEq, Int.reduceAdd, Int.reduceSub, Int.reduceNeg, reduceCtorEq, q3]
    refine fin_ret (G := G0) Tryz.results138 ?_
    simp only [go_sem, reduceAdd, reduceSub, reduceMul, reduceEqDiff, reduceLT, reduceLeDiff, Nat.reduceBEq, Nat.reduceBNe, Int.reduceLT, Int.reduceLE, Int.reduceEq, Int.reduceAdd, Int.reduceSub, Int.reduceNeg, reduceCtorEq]
    intro aa w' _ _
    show _ = Value.tuple #[_, .bool (decide (x = t))]
    rw [q3]
    rfl
  ·have q2 : decide ((i : Int) < (l.length : Int)) = false := decide_eq_false (by omega)
   rw [List.getElem?_eq_none (by omega)] at hh
   rw [hh]
   clear hh ha
   simp only [go_sem, reduceAdd, reduceSub, reduceMul, reduceEqDiff, reduceLT, reduceLeDiff, Nat.reduceBEq, Nat.reduceBNe, Int.reduceLT, Int.reduceLE, Int.reduceEq, Int.reduceAdd, Int.reduceSub, Int.reduceNeg, reduceCtorEq, q, q2]
   repeat (refine wg_undef rfl rfl rfl rfl (dk rfl) (by exact QOk_body _ _ _) ?_; simp only [go_sem, reduceAdd, reduceSub, reduceMul, reduceEqDiff, reduceLT, reduceLeDiff, Nat.reduceBEq, Nat.reduceBNe, Int.reduceLT, Int.reduceLE, Int.reduceEq, Int.reduceAdd, Int.reduceSub, Int.reduceNeg, reduceCtorEq, q, q2])
   refine fin_ret (G := G0) Tryz.results138 ?_
   simp only [go_sem, reduceAdd, reduceSub, reduceMul, reduceEqDiff, reduceLT, reduceLeDiff, Nat.reduceBEq, Nat.reduceBNe, Int.reduceLT, Int.reduceLE, Int.reduceEq, Int.reduceAdd, Int.reduceSub, Int.reduceNeg, reduceCtorEq]
   intro aa w' _ _
   rfl
theorem ints_of {G : GW} {v : Value} {l : List Int} (h : Sl G 3 1 l.length v (l.flatMap intC)) : IntsG G v l := sq_of_flat (f := intC) (fun _ _ => rfl) (fun _ => rfl) h
theorem bkts_of {G : GW} {v : Value} {l : List Bkt} (h : Sl G 42 5 l.length v (l.flatMap bktC)) (hz : ∀ b ∈ l, b.name.size ≤ maxLen ∧ b.rule.pre.size ≤ maxLen) : BktsG G v l := by
 refine ⟨l.map bktC, ⟨by simp, chunks_map bktC_len l, fun i cs x h1 h2 => ?_⟩, by rw [← List.flatMap_def]; exact h⟩
 rw [List.getElem?_map, h2] at h1
 cases h1
 exact ⟨rfl, hz x (List.mem_of_getElem? h2)⟩
/-- a block of the call's own that nobody writes for the time of a call -/
theorem Now.varG {E : Env} {σ : St} {G : GW} (hn : Now E σ G) {b : Bl} (hb : b ∈ σ.blks) {ks : List Nat} (hk : b.g ∈ ks) : VarG (G.sub ks) b.g b.t (b.cs.map SC.den) := ⟨fun q => q.2 hk, hn.blks b hb⟩
theorem ahead_le {α : Type} (lt : α → Bool) : ∀ l : List α, ahead lt l ≤ l.length
 | [] => Nat.le_refl _
 | x :: r => by
  unfold ahead
  rw [List.takeWhile_cons]
  split
  ·rw [List.length_cons, List.length_cons]; exact Nat.succ_le_succ (ahead_le lt r)
  ·exact Nat.zero_le _
set_option maxRecDepth 100000 in
set_option maxHeartbeats 8000000 in
theorem give_does {g : Nat} {s : Sta} {o : OwnSt} {x : Int} {G0 : GW} (hW : G0.Wf) (hh : HandsOk G0.w (o.hands g s)) (hM : ∀ k, (o.hands g s).A k → G0.M k) (ho : o.Ok G0 s) (hu : s.gone.length ≤ 100) (hgo : ∀ t, Ordered (ltInt t) s.gone) :
  Calls Tryz.prog 107 #[.pointer (some ⟨g, 0, none⟩), .int .i64 x] G0.w (RetH G0 (o.hands g s) (ChgT (giveS s x))) := by
 have hml := max_le
 obtain ⟨bv, qv, gv, vv, uv, vx, ux⟩ := o
 obtain ⟨Ag, cg, q1, _⟩ := row_form (hh.rows (intRow gv s.gone) (by simp [OwnSt.hands, OwnSt.rows])) (by show (1 : Nat) ≠ 0; decide)
 obtain rfl : gv = .slice Ag s.gone.length cg := q1
 refine enterH (n := 28) 3000 ([.c (.p 0 g 0), .c (.v (.int .i64 x))]) ([⟨0, g, 30, [.v (.int .i64 s.next), .v (.int .i64 s.clock), .v bv, .v vv, .v uv, .v qv, .v (.slice Ag s.gone.length cg)]⟩]) rfl hW hh hM Tryz.func107 rfl Tryz.ntmps107 (by simp) ?_
 simp only [go_sem, reduceAdd, reduceSub, reduceMul, reduceEqDiff, reduceLT, reduceLeDiff, Nat.reduceBEq, Nat.reduceBNe, Int.reduceLT, Int.reduceLE, Int.reduceEq, Int.reduceAdd, Int.reduceSub, Int.reduceNeg, reduceCtorEq, OwnSt.rows]
 refine pk (call_does (fun r _ => r = .tuple #[.int .i64 (goneAt s x : Int), .bool (goneIn s x)]) rfl rfl (by kernel_rfl) rfl (dk rfl) (fun G hG => Ret.anyM (M' := (G.less ((ux.map UX.row).reverse ++ [uplRow uv ux, verRow vv vx, intRow (.slice Ag s.gone.length cg) s.gone, askRow qv s.queue, bktRow bv s.bkts])).M) (bsInt_does (G0 := G.less ((ux.map UX.row).reverse ++ [uplRow uv ux, verRow vv vx, intRow (.slice Ag s.gone.length cg) s.gone, askRow qv s.queue, bktRow bv s.bkts])) (t := x) (l := s.gone) (hG.wf.less _) (ints_of (hG.sl (r := intRow (.slice Ag s.gone.length cg) s.gone) (by simp) (by show (1 : Nat) ≠ 0; decide))) (hgo _) (by omega)))) ?_
 rintro _ ⟨_, G2, rfl, hn2, rfl⟩
 clear hn2
 simp only [go_sem, reduceAdd, reduceSub, reduceMul, reduceEqDiff, reduceLT, reduceLeDiff, Nat.reduceBEq, Nat.reduceBNe, Int.reduceLT, Int.reduceLE, Int.reduceEq, Int.reduceAdd, Int.reduceSub, Int.reduceNeg, reduceCtorEq]
 refine Wb_mk (fun hin => ?_) (fun hin => ?_)
 ·refine fin_retH (G := G0) Tryz.results107 ?_
  simp only [go_sem, reduceAdd, reduceSub, reduceMul, reduceEqDiff, reduceLT, reduceLeDiff, Nat.reduceBEq, Nat.reduceBNe, Int.reduceLT, Int.reduceLE, Int.reduceEq, Int.reduceAdd, Int.reduceSub, Int.reduceNeg, reduceCtorEq]
  intro aa w' _ _
  unfold giveS
  rw [if_pos hin]
  exact ⟨rfl, fun q => by simp at q⟩
 ·have hia : goneAt s x ≤ s.gone.length := ahead_le _ _
  intro g1
  refine pk (callH_does ([]) (((ux.map UX.row).reverse ++ [uplRow uv ux, verRow vv vx])) ([intRow (.slice Ag s.gone.length cg) s.gone]) ([askRow qv s.queue, bktRow bv s.bkts]) (fun v _ R _ => ∃ A c, v = .slice A (s.gone.length + 1) c ∧ R = [intRow (.slice A (s.gone.length + 1) c) (s.gone.insertIdx (goneAt s x) x)]) upV rfl rfl (by kernel_rfl) rfl (dk rfl) rfl (by simp) (by simp [ids, Diff]) (by simp) (fun G hG hh hM => RetH.anyM (T := fun v _ R => ∃ A c, v = .slice A (s.gone.length + 1) c ∧ R = [intRow (.slice A (s.gone.length + 1) c) (s.gone.insertIdx (goneAt s x) x)]) (M' := (G.sub [g1]).M) (insertInt_does (lv := .slice Ag s.gone.length cg) (G0 := G.sub [g1]) (i := goneAt s x) (x := x) (hG.wf.sub _) hh (hG.subM (b := ⟨1, g1, 3, [.v (.int .i64 x)]⟩) (by simp) (by simp) hM) (by omega) hia (intC_one _) (fun u hu => by rw [List.mem_singleton.1 hu]; rfl) (hG.varG (b := ⟨1, g1, 3, [.v (.int .i64 x)]⟩) (ks := [g1]) (by simp) (by simp)))) (fun v css R G _ _ => upV_den css)) ?_
  rintro _ ⟨_, css, _, G3, ⟨A2, c2, rfl, rfl⟩, hcs, hle, rfl⟩
  clear hcs hle
  simp only [go_sem, reduceAdd, reduceSub, reduceMul, reduceEqDiff, reduceLT, reduceLeDiff, Nat.reduceBEq, Nat.reduceBNe, Int.reduceLT, Int.reduceLE, Int.reduceEq, Int.reduceAdd, Int.reduceSub, Int.reduceNeg, reduceCtorEq]
  refine fin_retH (G := G0) Tryz.results107 ?_
  simp only [go_sem, reduceAdd, reduceSub, reduceMul, reduceEqDiff, reduceLT, reduceLeDiff, Nat.reduceBEq, Nat.reduceBNe, Int.reduceLT, Int.reduceLE, Int.reduceEq, Int.reduceAdd, Int.reduceSub, Int.reduceNeg, reduceCtorEq]
  intro aa w' _ hle
  have h0 := ho.mono (hle G0 (by simp))
  unfold giveS
  rw [if_neg (by rw [hin]; simp)]
  refine ⟨rfl, fun _ => ⟨⟨bv, qv, .slice A2 (s.gone.length + 1) c2, vv, uv, vx, ux⟩, rfl, by simp [OwnSt.rows], ⟨ho.vers, ho.upls, h0.vok, h0.uok⟩⟩⟩
set_option maxRecDepth 100000 in
set_option maxHeartbeats 8000000 in
theorem add_does {g : Nat} {s : Sta} {o : OwnSt} {r : Rec} {vs ps ss : Value} {G0 : GW} (hW : G0.Wf) (hh : HandsOk G0.w (o.hands g s)) (hM : ∀ k, (o.hands g s).A k → G0.M k) (ho : o.Ok G0 s) (hu : s.bkts.length ≤ 100) (hbz : ∀ b ∈ s.bkts, b.name.size ≤ maxLen ∧ b.rule.pre.size ≤ maxLen) (hbo : ∀ t, Ordered (ltBkt t) s.bkts) (hnz : r.name.size ≤ maxLen) :
  Calls Tryz.prog 97 #[.pointer (some ⟨g, 0, none⟩), .agg (recV r vs ps ss).toArray] G0.w (RetH G0 (o.hands g s) (ChgT (addS s r))) := by
 have hml := max_le
 obtain ⟨bv, qv, gv, vv, uv, vx, ux⟩ := o
 obtain ⟨Ab, cb, q1, _⟩ := row_form (hh.rows (bktRow bv s.bkts) (by simp [OwnSt.hands, OwnSt.rows])) (by show (5 : Nat) ≠ 0; decide)
 obtain rfl : bv = .slice Ab s.bkts.length cb := q1
 refine enterH (n := 46) 3000 ([.c (.p 0 g 0), .c (.v (.agg (recV r vs ps ss).toArray))]) ([⟨0, g, 30, [.v (.int .i64 s.next), .v (.int .i64 s.clock), .v (.slice Ab s.bkts.length cb), .v vv, .v uv, .v qv, .v gv]⟩]) rfl hW hh hM Tryz.func97 rfl Tryz.ntmps97 (by simp) ?_
 simp only [go_sem, reduceAdd, reduceSub, reduceMul, reduceEqDiff, reduceLT, reduceLeDiff, Nat.reduceBEq, Nat.reduceBNe, Int.reduceLT, Int.reduceLE, Int.reduceEq, Int.reduceAdd, Int.reduceSub, Int.reduceNeg, reduceCtorEq, recV]
 intro g1
 refine pk (call_does (fun x _ => x = .int .i64 (nameErr r.name 8)) rfl rfl (by kernel_rfl) rfl (dk rfl) (fun G hG => checkName_does hG.wf hnz)) ?_
 rintro _ ⟨_, G1, rfl, hn1, rfl⟩
 clear hn1
 simp only [go_sem, reduceAdd, reduceSub, reduceMul, reduceEqDiff, reduceLT, reduceLeDiff, Nat.reduceBEq, Nat.reduceBNe, Int.reduceLT, Int.reduceLE, Int.reduceEq, Int.reduceAdd, Int.reduceSub, Int.reduceNeg, reduceCtorEq]
 refine Wb_mk (fun he => ?_) (fun he => ?_)
 ·have he' : ¬ nameErr r.name 8 = 0 := of_decide_eq_false (nt he)
  refine fin_retH (G := G0) Tryz.results97 ?_
  simp only [go_sem, reduceAdd, reduceSub, reduceMul, reduceEqDiff, reduceLT, reduceLeDiff, Nat.reduceBEq, Nat.reduceBNe, Int.reduceLT, Int.reduceLE, Int.reduceEq, Int.reduceAdd, Int.reduceSub, Int.reduceNeg, reduceCtorEq]
  intro aa w' _ _
  unfold addS
  rw [if_neg he']
  exact ⟨rfl, fun q => absurd q he'⟩
 ·have he' : nameErr r.name 8 = 0 := of_decide_eq_true (nf he)
  refine draw_ok (N := 3000) (.take 0 (.take 1 (.take 2 (.take 3 (.take 4 (.alt 5 (.take 6 (.take 7 (.take 8 (.take 9 (.take 10 .done))))) .last)))))) [] (QOk_body _ _ _) follows_mixed (by kernel_rfl) (by kernel_rfl) ?_
  simp only [go_sem, reduceAdd, reduceSub, reduceMul, reduceEqDiff, reduceLT, reduceLeDiff, Nat.reduceBEq, Nat.reduceBNe, Int.reduceLT, Int.reduceLE, Int.reduceEq, Int.reduceAdd, Int.reduceSub, Int.reduceNeg, reduceCtorEq, OwnSt.rows]
  refine anyc_ok (N := 3000) (call_does (fun x _ => x = .tuple #[.int .i64 (bktAt s r.name : Int), .bool (bktIn s r.name)]) rfl rfl (by kernel_rfl) rfl (dk rfl) (fun G hG => Ret.anyM (M' := (G.less ((ux.map UX.row).reverse ++ [uplRow uv ux, verRow vv vx, intRow gv s.gone, askRow qv s.queue, bktRow (.slice Ab s.bkts.length cb) s.bkts])).M) (bucket_does (G0 := G.less ((ux.map UX.row).reverse ++ [uplRow uv ux, verRow vv vx, intRow gv s.gone, askRow qv s.queue, bktRow (.slice Ab s.bkts.length cb) s.bkts])) (s := s) (hG.wf.less _) (bkts_of (hG.sl (r := bktRow (.slice Ab s.bkts.length cb) s.bkts) (by simp) (by show (5 : Nat) ≠ 0; decide)) hbz) (hbo _) (by omega)))) (QOk_body _ _ _) rfl (by first | exact .inl rfl | exact .inr ⟨_, _, rfl, rfl⟩) ?_
  rintro _ ⟨_, G2, rfl, hn2, rfl⟩
  clear hn2
  simp only [go_sem, reduceAdd, reduceSub, reduceMul, reduceEqDiff, reduceLT, reduceLeDiff, Nat.reduceBEq, Nat.reduceBNe, Int.reduceLT, Int.reduceLE, Int.reduceEq, Int.reduceAdd, Int.reduceSub, Int.reduceNeg, reduceCtorEq]
  refine Wb_mk (fun hin => ?_) (fun hin => ?_)
  ·refine fin_retH (G := G0) Tryz.results97 ?_
   simp only [go_sem, reduceAdd, reduceSub, reduceMul, reduceEqDiff, reduceLT, reduceLeDiff, Nat.reduceBEq, Nat.reduceBNe, Int.reduceLT, Int.reduceLE, Int.reduceEq, Int.reduceAdd, Int.reduceSub, Int.reduceNeg, reduceCtorEq]
   intro aa w' _ _
   unfold addS
   rw [if_pos he', if_pos hin]
   exact ⟨rfl, fun q => by simp at q⟩
  ·refine Wb_mk (fun h4 => ?_) (fun h4 => ?_)
   ·refine fin_retH (G := G0) Tryz.results97 ?_
    simp only [go_sem, reduceAdd, reduceSub, reduceMul, reduceEqDiff, reduceLT, reduceLeDiff, Nat.reduceBEq, Nat.reduceBNe, Int.reduceLT, Int.reduceLE, Int.reduceEq, Int.reduceAdd, Int.reduceSub, Int.reduceNeg, reduceCtorEq]
    intro aa w' _ _
    unfold addS
    rw [if_pos he', if_neg (by rw [hin]; simp), if_pos (of_decide_eq_true h4)]
    exact ⟨rfl, fun q => by simp at q⟩
   ·have hia : bktAt s r.name ≤ s.bkts.length := ahead_le _ _
    refine draw_ok (N := 3000) (.take 0 (.take 1 (.take 2 (.take 3 (.take 5 (.take 6 (.take 7 (.take 8 (.take 9 (.alt 4 (.alt 10 (.alt 11 (.take 12 (.take 13 (.alt 14 .done .last))) .last) .last) (.alt 10 (.alt 4 (.alt 11 (.take 12 (.take 13 (.alt 14 .done .last))) .last) .last) .last))))))))))) [0] (QOk_body _ _ _) follows_mixed (by kernel_rfl) (by kernel_rfl) ?_
    simp only [go_sem, reduceAdd, reduceSub, reduceMul, reduceEqDiff, reduceLT, reduceLeDiff, Nat.reduceBEq, Nat.reduceBNe, Int.reduceLT, Int.reduceLE, Int.reduceEq, Int.reduceAdd, Int.reduceSub, Int.reduceNeg, reduceCtorEq]
    refine ⟨?_, fun g2 => ?_⟩
    ·intro g2
     refine anyH_ok (N := 3000) (callH_does [] ((ux.map UX.row).reverse ++ [uplRow uv ux, verRow vv vx, intRow gv s.gone, askRow qv s.queue]) [bktRow (.slice Ab s.bkts.length cb) s.bkts] [] (fun v _ R _ => ∃ A c, v = .slice A (s.bkts.length + 1) c ∧ R = [bktRow (.slice A (s.bkts.length + 1) c) (s.bkts.insertIdx (bktAt s r.name) (newBkt r.name))]) upV rfl rfl (by kernel_rfl) rfl (dk rfl) rfl (by simp) (by simp [ids, Diff]) (by simp) (fun G hG hh hM => RetH.anyM (T := fun v _ R => ∃ A c, v = .slice A (s.bkts.length + 1) c ∧ R = [bktRow (.slice A (s.bkts.length + 1) c) (s.bkts.insertIdx (bktAt s r.name) (newBkt r.name))]) (M' := (G.sub [g2]).M) (insertBkt_does (lv := .slice Ab s.bkts.length cb) (G0 := G.sub [g2]) (i := bktAt s r.name) (x := newBkt r.name) (hG.wf.sub _) hh (hG.subM (b := ⟨2, g2, 42, [.v (.string r.name), .v (.int .i64 0), .v (.string ⟨#[]⟩), .v (.int .i64 (-1)), .v (.int .i64 (-1))]⟩) (by simp) (by simp) hM) (by omega) hia (bktC_one _) (fun u hu => bktC_one [newBkt r.name] u (by simpa using hu)) (hG.varG (b := ⟨2, g2, 42, [.v (.string r.name), .v (.int .i64 0), .v (.string ⟨#[]⟩), .v (.int .i64 (-1)), .v (.int .i64 (-1))]⟩) (ks := [g2]) (by simp) (by simp)))) (fun v css R G _ _ => upV_den css)) (QOk_body _ _ _) rfl (by first | exact .inl rfl | exact .inr ⟨_, _, rfl, rfl⟩) ?_
     rintro _ ⟨_, _, G7, ⟨A2, c2, rfl, rfl⟩, hle7, rfl⟩
     clear hle7
     simp only [go_sem, reduceAdd, reduceSub, reduceMul, reduceEqDiff, reduceLT, reduceLeDiff, Nat.reduceBEq, Nat.reduceBNe, Int.reduceLT, Int.reduceLE, Int.reduceEq, Int.reduceAdd, Int.reduceSub, Int.reduceNeg, reduceCtorEq]
     refine fin_retH (G := G0) Tryz.results97 ?_
     simp only [go_sem, reduceAdd, reduceSub, reduceMul, reduceEqDiff, reduceLT, reduceLeDiff, Nat.reduceBEq, Nat.reduceBNe, Int.reduceLT, Int.reduceLE, Int.reduceEq, Int.reduceAdd, Int.reduceSub, Int.reduceNeg, reduceCtorEq]
     intro aa w' _ hle
     have h0 := ho.mono (hle G0 (by simp))
     unfold addS
     rw [if_pos he', if_neg (by rw [hin]; simp), if_neg (of_decide_eq_false h4)]
     refine ⟨rfl, fun _ => ⟨⟨.slice A2 (s.bkts.length + 1) c2, qv, gv, vv, uv, vx, ux⟩, rfl, by simp [OwnSt.rows], ⟨ho.vers, ho.upls, h0.vok, h0.uok⟩⟩⟩
    ·refine anyH_ok (N := 3000) (callH_does [] ((ux.map UX.row).reverse ++ [uplRow uv ux, verRow vv vx, intRow gv s.gone, askRow qv s.queue]) [bktRow (.slice Ab s.bkts.length cb) s.bkts] [] (fun v _ R _ => ∃ A c, v = .slice A (s.bkts.length + 1) c ∧ R = [bktRow (.slice A (s.bkts.length + 1) c) (s.bkts.insertIdx (bktAt s r.name) (newBkt r.name))]) upV rfl rfl (by kernel_rfl) rfl (dk rfl) rfl (by simp) (by simp [ids, Diff]) (by simp) (fun G hG hh hM => RetH.anyM (T := fun v _ R => ∃ A c, v = .slice A (s.bkts.length + 1) c ∧ R = [bktRow (.slice A (s.bkts.length + 1) c) (s.bkts.insertIdx (bktAt s r.name) (newBkt r.name))]) (M' := (G.sub [g2]).M) (insertBkt_does (lv := .slice Ab s.bkts.length cb) (G0 := G.sub [g2]) (i := bktAt s r.name) (x := newBkt r.name) (hG.wf.sub _) hh (hG.subM (b := ⟨2, g2, 42, [.v (.string r.name), .v (.int .i64 0), .v (.string ⟨#[]⟩), .v (.int .i64 (-1)), .v (.int .i64 (-1))]⟩) (by simp) (by simp) hM) (by omega) hia (bktC_one _) (fun u hu => bktC_one [newBkt r.name] u (by simpa using hu)) (hG.varG (b := ⟨2, g2, 42, [.v (.string r.name), .v (.int .i64 0), .v (.string ⟨#[]⟩), .v (.int .i64 (-1)), .v (.int .i64 (-1))]⟩) (ks := [g2]) (by simp) (by simp)))) (fun v css R G _ _ => upV_den css)) (QOk_body _ _ _) rfl (by first | exact .inl rfl | exact .inr ⟨_, _, rfl, rfl⟩) ?_
     rintro _ ⟨_, _, G7, ⟨A2, c2, rfl, rfl⟩, hle7, rfl⟩
     clear hle7
     simp only [go_sem, reduceAdd, reduceSub, reduceMul, reduceEqDiff, reduceLT, reduceLeDiff, Nat.reduceBEq, Nat.reduceBNe, Int.reduceLT, Int.reduceLE, Int.reduceEq, Int.reduceAdd, Int.reduceSub, Int.reduceNeg, reduceCtorEq]
     refine fin_retH (G := G0) Tryz.results97 ?_
     simp only [go_sem, reduceAdd, reduceSub, reduceMul, reduceEqDiff, reduceLT, reduceLeDiff, Nat.reduceBEq, Nat.reduceBNe, Int.reduceLT, Int.reduceLE, Int.reduceEq, Int.reduceAdd, Int.reduceSub, Int.reduceNeg, reduceCtorEq]
     intro aa w' _ hle
     have h0 := ho.mono (hle G0 (by simp))
     unfold addS
     rw [if_pos he', if_neg (by rw [hin]; simp), if_neg (of_decide_eq_false h4)]
     refine ⟨rfl, fun _ => ⟨⟨.slice A2 (s.bkts.length + 1) c2, qv, gv, vv, uv, vx, ux⟩, rfl, by simp [OwnSt.rows], ⟨ho.vers, ho.upls, h0.vok, h0.uok⟩⟩⟩
end Go.Proofs.YtohdfcnjcpjdcaaGreat
