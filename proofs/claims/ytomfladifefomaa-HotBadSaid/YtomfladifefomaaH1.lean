/- Slices of ints; Sectors, first, Index, Contains, room. Conditions: as each law states them. -/
import Derived.Test.YtomfladifefomaaC3
namespace Go.Proofs.Ytomfladifefomaa
open Go.RowKit
set_option linter.unusedSimpArgs false
/-- a block of the call's own that is only read from now on, in a region that draws -/
theorem anyRead_ok {P : Program} {E : Env} {σ : St} {k : Cont} {ops : Array Oper} {B : List Bl} {V : List Vw} {fu i : Nat} {listed : Array Bool} {p : Plan} {o : Oper} {B1 B2 : List Bl} {b : Bl} (hB : σ.blks = B1 ++ b :: B2) (kc n cap : Nat) (hn : n ≤ cap) (hc : cap ≤ maxLen) (hl : b.cs.length = cap * kc)
    (hA : ¬ E.A b.g) (hid : ∀ q ∈ B, q.id ≠ b.id) (h : ∀ G : GW, (∀ s ∈ σ.snaps, s.Le G) → Sl G b.t kc n (.slice (some ⟨b.g, 0, none⟩) n cap) ((b.cs.map SC.den).take (n * kc)) → AnyStop P E k ops B V fu listed i p o (St.seen { σ with blks := B1 ++ B2 } G)) : AnyStop P E k ops B V fu listed i p o σ :=
  fun hI => blkRead_ok hB kc n cap hn hc hl hA fun G hle hs => h G hle hs ⟨hI.1, hI.2.1, fun q hq => by
    have hq' := hI.2.2.1 q hq
    rw [hB] at hq'
    rcases List.mem_append.1 hq' with r | r
    · exact List.mem_append_left _ r
    · rcases List.mem_cons.1 r with r | r
      · exact absurd (congrArg Bl.id r) (hid q hq)
      · exact List.mem_append_right _ r, hI.2.2.2⟩
def IntG (_ : GW) (x : Int) (cs : List Value) : Prop := cs = [.int .i64 x]
theorem intG_mono : MonoR IntG := fun _ _ _ _ _ h => h
def IntsG (G : GW) (v : Value) (l : List Int) : Prop := Sq IntG 3 1 G v l
theorem IntsG.mono {G G' : GW} {v : Value} {l : List Int} (h : IntsG G v l) (hl : G.Le G') : IntsG G' v l := Sq.mono h intG_mono hl
theorem IntsG.form {G : GW} {v : Value} {l : List Int} (h : IntsG G v l) : ∃ A c, v = .slice A l.length c ∧ l.length ≤ c ∧ c ≤ maxLen := ScR.form (Sq.sc h)
theorem ints_flat {G : GW} {css : List (List Value)} {l : List Int} (h : ElG IntG 1 G css l) : css.flatten = l.map (Value.int .i64) := by
  obtain ⟨h1, _, h3⟩ := h
  have : css = l.map fun x => [Value.int .i64 x] := by
    apply List.ext_getElem?
    intro i
    rw [List.getElem?_map]
    by_cases hi : i < l.length
    · have hc : i < css.length := by omega
      have := h3 i css[i] l[i] (List.getElem?_eq_getElem hc) (List.getElem?_eq_getElem hi)
      rw [List.getElem?_eq_getElem hc, List.getElem?_eq_getElem hi, this]
      rfl
    · rw [List.getElem?_eq_none (by omega), List.getElem?_eq_none (by omega)]
      rfl
  rw [this]
  clear h1 h3 this
  induction l with
  | nil => rfl
  | cons a r ih => simp [ih]
theorem IntsG.sl {G : GW} {v : Value} {l : List Int} (h : IntsG G v l) : Sl G 3 1 l.length v (l.map (Value.int .i64)) := by
  obtain ⟨css, he, hs⟩ := h
  rw [ints_flat he] at hs
  exact hs
theorem IntsG.of {G : GW} {v : Value} {l : List Int} (h : Sl G 3 1 l.length v (l.map (Value.int .i64))) : IntsG G v l := by
  refine ⟨l.map fun x => [.int .i64 x], ⟨by simp, by simp, fun i cs x h1 h2 => ?_⟩, ?_⟩
  · rw [List.getElem?_map, h2] at h1
    cases h1
    rfl
  · have : (l.map fun x => [Value.int .i64 x]).flatten = l.map (Value.int .i64) := by
      clear h
      induction l with
      | nil => rfl
      | cons a r ih => simp [ih]
    rw [this]
    exact h
theorem IntsG.cut {G : GW} {A : Option Addr} {n m c : Nat} {l : List Int} (h : Sl G 3 1 n (.slice A n c) (((l.map (Value.int .i64)).drop (m * 1)).take (n * 1))) (hn : m + n ≤ l.length) : IntsG G (.slice A n c) ((l.drop m).take n) := by
  have e : ((l.drop m).take n).length = n := by simp; omega
  refine IntsG.of ?_
  rw [e, List.map_take, List.map_drop]
  simpa using h
theorem max_le : maxLen ≤ 9223372036854775807 := by decide
set_option maxRecDepth 100000 in
set_option maxHeartbeats 4000000 in
theorem index_does {lv : Value} {l : List Int} {x : Int} {G0 : GW} (hW : G0.Wf) (h : IntsG G0 lv l) :
    Calls Try.prog 92 #[lv, .int .i64 x] G0.w (Ret G0 fun v _ => ∃ r : Int, v = .int .i64 r ∧ (0 ≤ r ↔ x ∈ l)) := by
  obtain ⟨A, c, rfl, hc1, hc2⟩ := h.form
  have hml := max_le
  refine enter (G := G0) (n := 19) 3000 hW Try.func92 rfl Try.ntmps92 (by simp) ?_
  simp only [go_sem, Nat.reduceAdd, Nat.reduceSub, Nat.reduceMul, Nat.reduceEqDiff, Nat.reduceLT, Nat.reduceLeDiff, Nat.reduceBEq, Nat.reduceBNe, Int.reduceLT, Int.reduceLE, Int.reduceEq, Int.reduceAdd, Int.reduceSub, Int.reduceNeg, decide_true, decide_false, Bool.not_true, Bool.not_false, cond_true, cond_false, beq_self_eq_true, and_self, ne_eq, not_true_eq_false, not_false_eq_true, reduceCtorEq, Bool.true_beq, Bool.false_beq]
  refine loop_ok (N := 3000) (ι := Nat × GW) (fun i => match i with | (v, G) => ⟨[(0, .c (.v (.slice A l.length c))), (1, .c (.v (.int .i64 x))), (7, .c (.v (.int .i64 (l.length : Int)))), (8, .c (.v (.int .i64 (v : Int))))], [], [], [], [G], 0⟩)
    (fun i => match i with | (v, G) => v ≤ l.length ∧ IntsG G (.slice A l.length c) l ∧ ∀ j, j < v → l[j]? ≠ some x)
    (fun i => l.length - i.1) (QOk_body _ _ _) (0, G0) ⟨by omega, h, fun j hj => absurd hj (by omega)⟩ (by simp only [go_sem, Nat.reduceAdd, Nat.reduceSub, Nat.reduceMul, Nat.reduceEqDiff, Nat.reduceLT, Nat.reduceLeDiff, Nat.reduceBEq, Nat.reduceBNe, Int.reduceLT, Int.reduceLE, Int.reduceEq, Int.reduceAdd, Int.reduceSub, Int.reduceNeg, decide_true, decide_false, Bool.not_true, Bool.not_false, cond_true, cond_false, beq_self_eq_true, and_self, ne_eq, not_true_eq_false, not_false_eq_true, reduceCtorEq, Bool.true_beq, Bool.false_beq]; simp) ?_
  rintro ⟨v, G1⟩ ⟨hv, hl1, hno⟩
  simp only
  by_cases hlt : v < l.length
  · have q1 : decide ((v : Int) < (l.length : Int)) = true := decide_eq_true (by omega)
    obtain ⟨y, hy⟩ : ∃ y, l[v]? = some y := ⟨_, List.getElem?_eq_getElem hlt⟩
    simp only [go_sem, Nat.reduceAdd, Nat.reduceSub, Nat.reduceMul, Nat.reduceEqDiff, Nat.reduceLT, Nat.reduceLeDiff, Nat.reduceBEq, Nat.reduceBNe, Int.reduceLT, Int.reduceLE, Int.reduceEq, Int.reduceAdd, Int.reduceSub, Int.reduceNeg, decide_true, decide_false, Bool.not_true, Bool.not_false, cond_true, cond_false, beq_self_eq_true, and_self, ne_eq, not_true_eq_false, not_false_eq_true, reduceCtorEq, Bool.true_beq, Bool.false_beq, q1]
    refine plain_ok (N := 3000) (elem_does (R := IntG) (l := l) (m := v) rfl tySlice28 tySize3 rfl rfl (by simp only [dOk_some, dOk_none, Nat.reduceLT]) rfl hy (fun G hG => hl1.mono (hG.le G1 (by simp)))) (QOk_body _ _ _) (by first | exact .inl rfl | exact .inr ⟨_, _, rfl, rfl⟩) ?_
    rintro _ ⟨gw, ow, cs, G2, hcl, rfl, rfl⟩
    by_cases exy : x = y
    · have q2 : decide (x = y) = true := decide_eq_true exy
      simp only [go_sem, Nat.reduceAdd, Nat.reduceSub, Nat.reduceMul, Nat.reduceEqDiff, Nat.reduceLT, Nat.reduceLeDiff, Nat.reduceBEq, Nat.reduceBNe, Int.reduceLT, Int.reduceLE, Int.reduceEq, Int.reduceAdd, Int.reduceSub, Int.reduceNeg, decide_true, decide_false, Bool.not_true, Bool.not_false, cond_true, cond_false, beq_self_eq_true, and_self, ne_eq, not_true_eq_false, not_false_eq_true, reduceCtorEq, Bool.true_beq, Bool.false_beq, q2]
      refine fin_ret (G := G0) Try.results92 ?_
      simp only [go_sem, Nat.reduceAdd, Nat.reduceSub, Nat.reduceMul, Nat.reduceEqDiff, Nat.reduceLT, Nat.reduceLeDiff, Nat.reduceBEq, Nat.reduceBNe, Int.reduceLT, Int.reduceLE, Int.reduceEq, Int.reduceAdd, Int.reduceSub, Int.reduceNeg, decide_true, decide_false, Bool.not_true, Bool.not_false, cond_true, cond_false, beq_self_eq_true, and_self, ne_eq, not_true_eq_false, not_false_eq_true, reduceCtorEq, Bool.true_beq, Bool.false_beq]
      intro a w' _ _
      exact ⟨_, rfl, fun _ => exy ▸ List.mem_of_getElem? hy, fun _ => by omega⟩
    · have q2 : decide (x = y) = false := decide_eq_false exy
      simp only [go_sem, Nat.reduceAdd, Nat.reduceSub, Nat.reduceMul, Nat.reduceEqDiff, Nat.reduceLT, Nat.reduceLeDiff, Nat.reduceBEq, Nat.reduceBNe, Int.reduceLT, Int.reduceLE, Int.reduceEq, Int.reduceAdd, Int.reduceSub, Int.reduceNeg, decide_true, decide_false, Bool.not_true, Bool.not_false, cond_true, cond_false, beq_self_eq_true, and_self, ne_eq, not_true_eq_false, not_false_eq_true, reduceCtorEq, Bool.true_beq, Bool.false_beq, q2]
      exact ⟨by omega, again_ok (v + 1, G1) ⟨by omega, hl1, fun j hj e => by
        rcases Nat.lt_or_ge j v with q | q
        · exact hno j q e
        · have : j = v := by omega
          subst this
          rw [hy] at e
          exact exy (Option.some.inj e).symm⟩ (by simp only; omega) (by simp only [go_sem, Nat.reduceAdd, Nat.reduceSub, Nat.reduceMul, Nat.reduceEqDiff, Nat.reduceLT, Nat.reduceLeDiff, Nat.reduceBEq, Nat.reduceBNe, Int.reduceLT, Int.reduceLE, Int.reduceEq, Int.reduceAdd, Int.reduceSub, Int.reduceNeg, decide_true, decide_false, Bool.not_true, Bool.not_false, cond_true, cond_false, beq_self_eq_true, and_self, ne_eq, not_true_eq_false, not_false_eq_true, reduceCtorEq, Bool.true_beq, Bool.false_beq]; simp)⟩
  · have q1 : decide ((v : Int) < (l.length : Int)) = false := decide_eq_false (by omega)
    simp only [go_sem, Nat.reduceAdd, Nat.reduceSub, Nat.reduceMul, Nat.reduceEqDiff, Nat.reduceLT, Nat.reduceLeDiff, Nat.reduceBEq, Nat.reduceBNe, Int.reduceLT, Int.reduceLE, Int.reduceEq, Int.reduceAdd, Int.reduceSub, Int.reduceNeg, decide_true, decide_false, Bool.not_true, Bool.not_false, cond_true, cond_false, beq_self_eq_true, and_self, ne_eq, not_true_eq_false, not_false_eq_true, reduceCtorEq, Bool.true_beq, Bool.false_beq, q1]
    refine fin_ret (G := G0) Try.results92 ?_
    simp only [go_sem, Nat.reduceAdd, Nat.reduceSub, Nat.reduceMul, Nat.reduceEqDiff, Nat.reduceLT, Nat.reduceLeDiff, Nat.reduceBEq, Nat.reduceBNe, Int.reduceLT, Int.reduceLE, Int.reduceEq, Int.reduceAdd, Int.reduceSub, Int.reduceNeg, decide_true, decide_false, Bool.not_true, Bool.not_false, cond_true, cond_false, beq_self_eq_true, and_self, ne_eq, not_true_eq_false, not_false_eq_true, reduceCtorEq, Bool.true_beq, Bool.false_beq]
    intro a w' _ _
    refine ⟨_, rfl, fun e => absurd e (by decide), fun e => ?_⟩
    obtain ⟨j, hj⟩ := List.mem_iff_getElem?.1 e
    have := (List.getElem?_eq_some_iff.1 hj).1
    exact absurd hj (hno j (by omega))
set_option maxRecDepth 100000 in
set_option maxHeartbeats 4000000 in
theorem contains_does {lv : Value} {l : List Int} {x : Int} {G0 : GW} (hW : G0.Wf) (h : IntsG G0 lv l) :
    Calls Try.prog 88 #[lv, .int .i64 x] G0.w (Ret G0 fun v _ => v = .bool (decide (x ∈ l))) := by
  obtain ⟨A, c, rfl, hc1, hc2⟩ := h.form
  refine enter (G := G0) (n := 9) 3000 hW Try.func88 rfl Try.ntmps88 (by simp) ?_
  simp only [go_sem, Nat.reduceAdd, Nat.reduceSub, Nat.reduceMul, Nat.reduceEqDiff, Nat.reduceLT, Nat.reduceLeDiff, Nat.reduceBEq, Nat.reduceBNe, Int.reduceLT, Int.reduceLE, Int.reduceEq, Int.reduceAdd, Int.reduceSub, Int.reduceNeg, decide_true, decide_false, Bool.not_true, Bool.not_false, cond_true, cond_false, beq_self_eq_true, and_self, ne_eq, not_true_eq_false, not_false_eq_true, reduceCtorEq, Bool.true_beq, Bool.false_beq]
  refine plain_ok (N := 3000) (call_does (fun v _ => ∃ r : Int, v = .int .i64 r ∧ (0 ≤ r ↔ x ∈ l)) rfl rfl (by kernel_rfl) rfl (by simp only [dOk_some, dOk_none, Nat.reduceLT]) (fun G hG => index_does hG.wf (h.mono (hG.le G0 (by simp))))) (QOk_body _ _ _) (by first | exact .inl rfl | exact .inr ⟨_, _, rfl, rfl⟩) ?_
  rintro _ ⟨_, G1, ⟨r, rfl, hr⟩, hn1, rfl⟩
  clear hn1
  have hq : decide (0 ≤ r) = decide (x ∈ l) := decide_eq_decide.2 hr
  simp only [go_sem, Nat.reduceAdd, Nat.reduceSub, Nat.reduceMul, Nat.reduceEqDiff, Nat.reduceLT, Nat.reduceLeDiff, Nat.reduceBEq, Nat.reduceBNe, Int.reduceLT, Int.reduceLE, Int.reduceEq, Int.reduceAdd, Int.reduceSub, Int.reduceNeg, decide_true, decide_false, Bool.not_true, Bool.not_false, cond_true, cond_false, beq_self_eq_true, and_self, ne_eq, not_true_eq_false, not_false_eq_true, reduceCtorEq, Bool.true_beq, Bool.false_beq, hq]
  refine fin_ret (G := G0) Try.results88 ?_
  simp only [go_sem, Nat.reduceAdd, Nat.reduceSub, Nat.reduceMul, Nat.reduceEqDiff, Nat.reduceLT, Nat.reduceLeDiff, Nat.reduceBEq, Nat.reduceBNe, Int.reduceLT, Int.reduceLE, Int.reduceEq, Int.reduceAdd, Int.reduceSub, Int.reduceNeg, decide_true, decide_false, Bool.not_true, Bool.not_false, cond_true, cond_false, beq_self_eq_true, and_self, ne_eq, not_true_eq_false, not_false_eq_true, reduceCtorEq, Bool.true_beq, Bool.false_beq]
  intro a w' _ _
  rfl
set_option maxRecDepth 100000 in
theorem secs_does {n : Int} {G0 : GW} (hW : G0.Wf) (h0 : 0 ≤ n) (h1 : n ≤ 1000000) :
    Calls Try.prog 42 #[.int .i64 n] G0.w (Ret G0 fun v _ => v = .int .i64 ((n + 63) / 64)) := by
  refine enter (G := G0) (n := 7) 3000 hW Try.func42 rfl Try.ntmps42 (by simp) ?_
  simp only [go_sem, Nat.reduceAdd, Nat.reduceSub, Nat.reduceMul, Nat.reduceEqDiff, Nat.reduceLT, Nat.reduceLeDiff, Nat.reduceBEq, Nat.reduceBNe, Int.reduceLT, Int.reduceLE, Int.reduceEq, Int.reduceAdd, Int.reduceSub, Int.reduceNeg, decide_true, decide_false, Bool.not_true, Bool.not_false, cond_true, cond_false, beq_self_eq_true, and_self, ne_eq, not_true_eq_false, not_false_eq_true, reduceCtorEq, Bool.true_beq, Bool.false_beq]
  have e : (n + 64 - 1).tdiv 64 = (n + 63) / 64 := by rw [Int.tdiv_eq_ediv_of_nonneg (by omega)]; congr 1; omega
  rw [e]
  refine ⟨by omega, by omega, by omega, ?_⟩
  refine fin_ret (G := G0) Try.results42 ?_
  simp only [go_sem, Nat.reduceAdd, Nat.reduceSub, Nat.reduceMul, Nat.reduceEqDiff, Nat.reduceLT, Nat.reduceLeDiff, Nat.reduceBEq, Nat.reduceBNe, Int.reduceLT, Int.reduceLE, Int.reduceEq, Int.reduceAdd, Int.reduceSub, Int.reduceNeg, decide_true, decide_false, Bool.not_true, Bool.not_false, cond_true, cond_false, beq_self_eq_true, and_self, ne_eq, not_true_eq_false, not_false_eq_true, reduceCtorEq, Bool.true_beq, Bool.false_beq]
  intro a w' _ _
  rfl
set_option maxRecDepth 100000 in
theorem first_does {g : Geo} (hg : GoodGeo g) {G0 : GW} (hW : G0.Wf) :
    Calls Try.prog 72 #[geoV g] G0.w (Ret G0 fun v _ => v = .int .i64 (2 + g.ring + 2 * g.area)) := by
  have := hg.r1; have := hg.r2; have := hg.a1; have := hg.a2
  refine enter (G := G0) (n := 10) 3000 hW Try.func72 rfl Try.ntmps72 (by simp) ?_
  simp only [go_sem, Nat.reduceAdd, Nat.reduceSub, Nat.reduceMul, Nat.reduceEqDiff, Nat.reduceLT, Nat.reduceLeDiff, Nat.reduceBEq, Nat.reduceBNe, Int.reduceLT, Int.reduceLE, Int.reduceEq, Int.reduceAdd, Int.reduceSub, Int.reduceNeg, decide_true, decide_false, Bool.not_true, Bool.not_false, cond_true, cond_false, beq_self_eq_true, and_self, ne_eq, not_true_eq_false, not_false_eq_true, reduceCtorEq, Bool.true_beq, Bool.false_beq, geoV]
  intro g1
  refine ⟨by omega, by omega, by omega, ?_⟩
  refine fin_ret (G := G0) Try.results72 ?_
  simp only [go_sem, Nat.reduceAdd, Nat.reduceSub, Nat.reduceMul, Nat.reduceEqDiff, Nat.reduceLT, Nat.reduceLeDiff, Nat.reduceBEq, Nat.reduceBNe, Int.reduceLT, Int.reduceLE, Int.reduceEq, Int.reduceAdd, Int.reduceSub, Int.reduceNeg, decide_true, decide_false, Bool.not_true, Bool.not_false, cond_true, cond_false, beq_self_eq_true, and_self, ne_eq, not_true_eq_false, not_false_eq_true, reduceCtorEq, Bool.true_beq, Bool.false_beq]
  intro a w' _ _
  rfl
def okAt (hot : Int) (l : List Int) (j : Nat) : Bool := match l[j]? with
  | some n => !(decide (n < 0) || decide (hot ≤ n) || decide (n ∈ l.take j))
  | none => true
def roomB (g : Geo) (l : List Int) (size : Int) : Bool := decide (∀ j, j < l.length → okAt g.hot l j = true) && decide (0 ≤ size ∧ size ≤ 600 ∧ (l.length : Int) = (size + 63) / 64)
theorem roomB_bad {g : Geo} {l : List Int} {size : Int} {j : Nat} (hj : j < l.length) (h : okAt g.hot l j = false) : roomB g l size = false := by
  unfold roomB
  rw [decide_eq_false (fun q => by rw [q j hj] at h; cases h)]
  rfl
theorem roomB_no {g : Geo} {l : List Int} {size : Int} (h : ¬ (0 ≤ size ∧ size ≤ 600 ∧ (l.length : Int) = (size + 63) / 64)) : roomB g l size = false := by
  unfold roomB
  rw [decide_eq_false h, Bool.and_false]
theorem roomB_yes {g : Geo} {l : List Int} {size : Int} (h1 : ∀ j, j < l.length → okAt g.hot l j = true) (h2 : 0 ≤ size ∧ size ≤ 600 ∧ (l.length : Int) = (size + 63) / 64) : roomB g l size = true := by
  unfold roomB
  rw [decide_eq_true h1, decide_eq_true h2]
  rfl
set_option maxRecDepth 100000 in
set_option maxHeartbeats 8000000 in
theorem room_does {g : Geo} {lv : Value} {l : List Int} {size : Int} {G0 : GW} (hW : G0.Wf) (h : IntsG G0 lv l) :
    Calls Try.prog 71 #[geoV g, lv, .int .i64 size] G0.w (Ret G0 fun v _ => v = .bool (roomB g l size)) := by
  obtain ⟨A, c, rfl, hc1, hc2⟩ := h.form
  have hml := max_le
  refine enter (G := G0) (n := 45) 3000 hW Try.func71 rfl Try.ntmps71 (by simp) ?_
  simp only [go_sem, Nat.reduceAdd, Nat.reduceSub, Nat.reduceMul, Nat.reduceEqDiff, Nat.reduceLT, Nat.reduceLeDiff, Nat.reduceBEq, Nat.reduceBNe, Int.reduceLT, Int.reduceLE, Int.reduceEq, Int.reduceAdd, Int.reduceSub, Int.reduceNeg, decide_true, decide_false, Bool.not_true, Bool.not_false, cond_true, cond_false, beq_self_eq_true, and_self, ne_eq, not_true_eq_false, not_false_eq_true, reduceCtorEq, Bool.true_beq, Bool.false_beq, geoV]
  intro g1
  refine loop_ok (N := 3000) (ι := Nat × GW) (fun i => match i with | (v, G) => ⟨[(1, .c (.v (.slice A l.length c))), (2, .c (.v (.int .i64 size))), (3, .c (.p 0 g1 0)), (9, .c (.v (.slice A l.length c))), (10, .c (.v (.int .i64 (l.length : Int)))), (11, .c (.v (.int .i64 (v : Int))))],
      [⟨0, g1, 32, [.v (.int .i64 g.ring), .v (.int .i64 g.area), .v (.int .i64 g.hot), .v (.int .i64 g.volume), .v (.int .i64 g.volumes)]⟩], [], [], [G], 1⟩)
    (fun i => match i with | (v, G) => v ≤ l.length ∧ IntsG G (.slice A l.length c) l ∧ ∀ j, j < v → okAt g.hot l j = true)
    (fun i => l.length - i.1) (QOk_body _ _ _) (0, G0) ⟨by omega, h, fun j hj => absurd hj (by omega)⟩ (by simp only [go_sem, Nat.reduceAdd, Nat.reduceSub, Nat.reduceMul, Nat.reduceEqDiff, Nat.reduceLT, Nat.reduceLeDiff, Nat.reduceBEq, Nat.reduceBNe, Int.reduceLT, Int.reduceLE, Int.reduceEq, Int.reduceAdd, Int.reduceSub, Int.reduceNeg, decide_true, decide_false, Bool.not_true, Bool.not_false, cond_true, cond_false, beq_self_eq_true, and_self, ne_eq, not_true_eq_false, not_false_eq_true, reduceCtorEq, Bool.true_beq, Bool.false_beq]; simp) ?_
  rintro ⟨v, G1⟩ ⟨hv, hl1, hok⟩
  simp only
  by_cases hlt : v < l.length
  · have q1 : decide ((v : Int) < (l.length : Int)) = true := decide_eq_true (by omega)
    obtain ⟨y, hy⟩ : ∃ y, l[v]? = some y := ⟨_, List.getElem?_eq_getElem hlt⟩
    simp only [go_sem, Nat.reduceAdd, Nat.reduceSub, Nat.reduceMul, Nat.reduceEqDiff, Nat.reduceLT, Nat.reduceLeDiff, Nat.reduceBEq, Nat.reduceBNe, Int.reduceLT, Int.reduceLE, Int.reduceEq, Int.reduceAdd, Int.reduceSub, Int.reduceNeg, decide_true, decide_false, Bool.not_true, Bool.not_false, cond_true, cond_false, beq_self_eq_true, and_self, ne_eq, not_true_eq_false, not_false_eq_true, reduceCtorEq, Bool.true_beq, Bool.false_beq, q1]
    refine plain_ok (N := 3000) (elem_does (R := IntG) (l := l) (m := v) rfl tySlice28 tySize3 rfl rfl (by simp only [dOk_some, dOk_none, Nat.reduceLT]) rfl hy (fun G hG => hl1.mono (hG.le G1 (by simp)))) (QOk_body _ _ _) (by first | exact .inl rfl | exact .inr ⟨_, _, rfl, rfl⟩) ?_
    rintro _ ⟨gw, ow, cs, G2, hcl, rfl, rfl⟩
    by_cases y0 : y < 0
    · have q2 : decide (y < 0) = true := decide_eq_true y0
      simp only [go_sem, Nat.reduceAdd, Nat.reduceSub, Nat.reduceMul, Nat.reduceEqDiff, Nat.reduceLT, Nat.reduceLeDiff, Nat.reduceBEq, Nat.reduceBNe, Int.reduceLT, Int.reduceLE, Int.reduceEq, Int.reduceAdd, Int.reduceSub, Int.reduceNeg, decide_true, decide_false, Bool.not_true, Bool.not_false, cond_true, cond_false, beq_self_eq_true, and_self, ne_eq, not_true_eq_false, not_false_eq_true, reduceCtorEq, Bool.true_beq, Bool.false_beq, q2]
      have hres : roomB g l size = false := roomB_bad hlt (by unfold okAt; rw [hy]; simp only [q2]; rfl)
      refine fin_ret (G := G0) Try.results71 ?_
      simp only [go_sem, Nat.reduceAdd, Nat.reduceSub, Nat.reduceMul, Nat.reduceEqDiff, Nat.reduceLT, Nat.reduceLeDiff, Nat.reduceBEq, Nat.reduceBNe, Int.reduceLT, Int.reduceLE, Int.reduceEq, Int.reduceAdd, Int.reduceSub, Int.reduceNeg, decide_true, decide_false, Bool.not_true, Bool.not_false, cond_true, cond_false, beq_self_eq_true, and_self, ne_eq, not_true_eq_false, not_false_eq_true, reduceCtorEq, Bool.true_beq, Bool.false_beq]
      intro a w' _ _
      rw [hres]
      rfl
    have q2 : decide (y < 0) = false := decide_eq_false y0
    by_cases y1 : g.hot ≤ y
    · have q3 : decide (g.hot ≤ y) = true := decide_eq_true y1
      simp only [go_sem, Nat.reduceAdd, Nat.reduceSub, Nat.reduceMul, Nat.reduceEqDiff, Nat.reduceLT, Nat.reduceLeDiff, Nat.reduceBEq, Nat.reduceBNe, Int.reduceLT, Int.reduceLE, Int.reduceEq, Int.reduceAdd, Int.reduceSub, Int.reduceNeg, decide_true, decide_false, Bool.not_true, Bool.not_false, cond_true, cond_false, beq_self_eq_true, and_self, ne_eq, not_true_eq_false, not_false_eq_true, reduceCtorEq, Bool.true_beq, Bool.false_beq, q2, q3]
      have hres : roomB g l size = false := roomB_bad hlt (by unfold okAt; rw [hy]; simp only [q2, q3]; rfl)
      refine fin_ret (G := G0) Try.results71 ?_
      simp only [go_sem, Nat.reduceAdd, Nat.reduceSub, Nat.reduceMul, Nat.reduceEqDiff, Nat.reduceLT, Nat.reduceLeDiff, Nat.reduceBEq, Nat.reduceBNe, Int.reduceLT, Int.reduceLE, Int.reduceEq, Int.reduceAdd, Int.reduceSub, Int.reduceNeg, decide_true, decide_false, Bool.not_true, Bool.not_false, cond_true, cond_false, beq_self_eq_true, and_self, ne_eq, not_true_eq_false, not_false_eq_true, reduceCtorEq, Bool.true_beq, Bool.false_beq]
      intro a w' _ _
      rw [hres]
      rfl
    have q3 : decide (g.hot ≤ y) = false := decide_eq_false y1
    simp only [go_sem, Nat.reduceAdd, Nat.reduceSub, Nat.reduceMul, Nat.reduceEqDiff, Nat.reduceLT, Nat.reduceLeDiff, Nat.reduceBEq, Nat.reduceBNe, Int.reduceLT, Int.reduceLE, Int.reduceEq, Int.reduceAdd, Int.reduceSub, Int.reduceNeg, decide_true, decide_false, Bool.not_true, Bool.not_false, cond_true, cond_false, beq_self_eq_true, and_self, ne_eq, not_true_eq_false, not_false_eq_true, reduceCtorEq, Bool.true_beq, Bool.false_beq, q2, q3]
    refine plain_ok (N := 3000) (cut_does 0 v c rfl tySlice28 tySize3 rfl rfl ⟨_, _, rfl, by omega⟩ (show 0 + c = c from by omega) (by simp) (by simp only [dOk_some, dOk_none, Nat.reduceLT]) (by omega) (by omega) (by omega) (fun G hG => (hl1.mono (hG.le G1 (by simp))).sl)) (QOk_body _ _ _) (by first | exact .inl rfl | exact .inr ⟨_, _, rfl, rfl⟩) ?_
    rintro _ ⟨A3, G3, hs3, hn3, rfl⟩
    clear hn3
    have hi3 := IntsG.cut hs3 (by omega)
    have hlen : (List.take v (List.drop 0 l)).length = v := by simp; omega
    simp only [go_sem, Nat.reduceAdd, Nat.reduceSub, Nat.reduceMul, Nat.reduceEqDiff, Nat.reduceLT, Nat.reduceLeDiff, Nat.reduceBEq, Nat.reduceBNe, Int.reduceLT, Int.reduceLE, Int.reduceEq, Int.reduceAdd, Int.reduceSub, Int.reduceNeg, decide_true, decide_false, Bool.not_true, Bool.not_false, cond_true, cond_false, beq_self_eq_true, and_self, ne_eq, not_true_eq_false, not_false_eq_true, reduceCtorEq, Bool.true_beq, Bool.false_beq]
    refine plain_ok (N := 3000) (call_does (fun u _ => u = .bool (decide (y ∈ l.take v))) rfl rfl (by kernel_rfl) rfl (by simp only [dOk_some, dOk_none, Nat.reduceLT]) (fun G hG => contains_does hG.wf (hi3.mono (hG.le G3 (by simp))))) (QOk_body _ _ _) (by first | exact .inl rfl | exact .inr ⟨_, _, rfl, rfl⟩) ?_
    rintro _ ⟨_, G4, rfl, hn4, rfl⟩
    clear hn4
    by_cases ym : y ∈ l.take v
    · have q4 : decide (y ∈ l.take v) = true := decide_eq_true ym
      simp only [go_sem, Nat.reduceAdd, Nat.reduceSub, Nat.reduceMul, Nat.reduceEqDiff, Nat.reduceLT, Nat.reduceLeDiff, Nat.reduceBEq, Nat.reduceBNe, Int.reduceLT, Int.reduceLE, Int.reduceEq, Int.reduceAdd, Int.reduceSub, Int.reduceNeg, decide_true, decide_false, Bool.not_true, Bool.not_false, cond_true, cond_false, beq_self_eq_true, and_self, ne_eq, not_true_eq_false, not_false_eq_true, reduceCtorEq, Bool.true_beq, Bool.false_beq, q4]
      have hres : roomB g l size = false := roomB_bad hlt (by unfold okAt; rw [hy]; simp only [q2, q3, q4]; rfl)
      refine fin_ret (G := G0) Try.results71 ?_
      simp only [go_sem, Nat.reduceAdd, Nat.reduceSub, Nat.reduceMul, Nat.reduceEqDiff, Nat.reduceLT, Nat.reduceLeDiff, Nat.reduceBEq, Nat.reduceBNe, Int.reduceLT, Int.reduceLE, Int.reduceEq, Int.reduceAdd, Int.reduceSub, Int.reduceNeg, decide_true, decide_false, Bool.not_true, Bool.not_false, cond_true, cond_false, beq_self_eq_true, and_self, ne_eq, not_true_eq_false, not_false_eq_true, reduceCtorEq, Bool.true_beq, Bool.false_beq]
      intro a w' _ _
      rw [hres]
      rfl
    have q4 : decide (y ∈ l.take v) = false := decide_eq_false ym
    simp only [go_sem, Nat.reduceAdd, Nat.reduceSub, Nat.reduceMul, Nat.reduceEqDiff, Nat.reduceLT, Nat.reduceLeDiff, Nat.reduceBEq, Nat.reduceBNe, Int.reduceLT, Int.reduceLE, Int.reduceEq, Int.reduceAdd, Int.reduceSub, Int.reduceNeg, decide_true, decide_false, Bool.not_true, Bool.not_false, cond_true, cond_false, beq_self_eq_true, and_self, ne_eq, not_true_eq_false, not_false_eq_true, reduceCtorEq, Bool.true_beq, Bool.false_beq, q4]
    exact ⟨by omega, again_ok (v + 1, G1) ⟨by omega, hl1, fun j hj => by
      rcases Nat.lt_or_ge j v with q | q
      · exact hok j q
      · have : j = v := by omega
        subst this
        unfold okAt
        rw [hy]
        simp only [q2, q3, q4]
        rfl⟩ (by simp only; omega) (by simp only [go_sem, Nat.reduceAdd, Nat.reduceSub, Nat.reduceMul, Nat.reduceEqDiff, Nat.reduceLT, Nat.reduceLeDiff, Nat.reduceBEq, Nat.reduceBNe, Int.reduceLT, Int.reduceLE, Int.reduceEq, Int.reduceAdd, Int.reduceSub, Int.reduceNeg, decide_true, decide_false, Bool.not_true, Bool.not_false, cond_true, cond_false, beq_self_eq_true, and_self, ne_eq, not_true_eq_false, not_false_eq_true, reduceCtorEq, Bool.true_beq, Bool.false_beq]; simp)⟩
  · have q1 : decide ((v : Int) < (l.length : Int)) = false := decide_eq_false (by omega)
    obtain rfl : v = l.length := by omega
    by_cases s0 : 0 ≤ size
    · have p0 : decide (0 ≤ size) = true := decide_eq_true s0
      by_cases s1 : size ≤ 600
      · have p1 : decide (size ≤ 600) = true := decide_eq_true s1
        simp only [go_sem, Nat.reduceAdd, Nat.reduceSub, Nat.reduceMul, Nat.reduceEqDiff, Nat.reduceLT, Nat.reduceLeDiff, Nat.reduceBEq, Nat.reduceBNe, Int.reduceLT, Int.reduceLE, Int.reduceEq, Int.reduceAdd, Int.reduceSub, Int.reduceNeg, decide_true, decide_false, Bool.not_true, Bool.not_false, cond_true, cond_false, beq_self_eq_true, and_self, ne_eq, not_true_eq_false, not_false_eq_true, reduceCtorEq, Bool.true_beq, Bool.false_beq, q1, p0, p1]
        refine plain_ok (N := 3000) (call_does (fun v _ => v = .int .i64 ((size + 63) / 64)) rfl rfl (by kernel_rfl) rfl (by simp only [dOk_some, dOk_none, Nat.reduceLT]) (fun G hG => secs_does hG.wf s0 (by omega))) (QOk_body _ _ _) (by first | exact .inl rfl | exact .inr ⟨_, _, rfl, rfl⟩) ?_
        rintro _ ⟨_, G4, rfl, hn4, rfl⟩
        clear hn4
        by_cases s2 : (l.length : Int) = (size + 63) / 64
        · have p2 : decide ((l.length : Int) = (size + 63) / 64) = true := decide_eq_true s2
          simp only [go_sem, Nat.reduceAdd, Nat.reduceSub, Nat.reduceMul, Nat.reduceEqDiff, Nat.reduceLT, Nat.reduceLeDiff, Nat.reduceBEq, Nat.reduceBNe, Int.reduceLT, Int.reduceLE, Int.reduceEq, Int.reduceAdd, Int.reduceSub, Int.reduceNeg, decide_true, decide_false, Bool.not_true, Bool.not_false, cond_true, cond_false, beq_self_eq_true, and_self, ne_eq, not_true_eq_false, not_false_eq_true, reduceCtorEq, Bool.true_beq, Bool.false_beq, p2]
          have hres : roomB g l size = true := roomB_yes hok ⟨s0, s1, s2⟩
          refine fin_ret (G := G0) Try.results71 ?_
          simp only [go_sem, Nat.reduceAdd, Nat.reduceSub, Nat.reduceMul, Nat.reduceEqDiff, Nat.reduceLT, Nat.reduceLeDiff, Nat.reduceBEq, Nat.reduceBNe, Int.reduceLT, Int.reduceLE, Int.reduceEq, Int.reduceAdd, Int.reduceSub, Int.reduceNeg, decide_true, decide_false, Bool.not_true, Bool.not_false, cond_true, cond_false, beq_self_eq_true, and_self, ne_eq, not_true_eq_false, not_false_eq_true, reduceCtorEq, Bool.true_beq, Bool.false_beq]
          intro a w' _ _
          rw [hres]
          rfl
        · have p2 : decide ((l.length : Int) = (size + 63) / 64) = false := decide_eq_false s2
          simp only [go_sem, Nat.reduceAdd, Nat.reduceSub, Nat.reduceMul, Nat.reduceEqDiff, Nat.reduceLT, Nat.reduceLeDiff, Nat.reduceBEq, Nat.reduceBNe, Int.reduceLT, Int.reduceLE, Int.reduceEq, Int.reduceAdd, Int.reduceSub, Int.reduceNeg, decide_true, decide_false, Bool.not_true, Bool.not_false, cond_true, cond_false, beq_self_eq_true, and_self, ne_eq, not_true_eq_false, not_false_eq_true, reduceCtorEq, Bool.true_beq, Bool.false_beq, p2]
          have hres : roomB g l size = false := roomB_no fun q => s2 q.2.2
          refine fin_ret (G := G0) Try.results71 ?_
          simp only [go_sem, Nat.reduceAdd, Nat.reduceSub, Nat.reduceMul, Nat.reduceEqDiff, Nat.reduceLT, Nat.reduceLeDiff, Nat.reduceBEq, Nat.reduceBNe, Int.reduceLT, Int.reduceLE, Int.reduceEq, Int.reduceAdd, Int.reduceSub, Int.reduceNeg, decide_true, decide_false, Bool.not_true, Bool.not_false, cond_true, cond_false, beq_self_eq_true, and_self, ne_eq, not_true_eq_false, not_false_eq_true, reduceCtorEq, Bool.true_beq, Bool.false_beq]
          intro a w' _ _
          rw [hres]
          rfl
      · have p1 : decide (size ≤ 600) = false := decide_eq_false s1
        simp only [go_sem, Nat.reduceAdd, Nat.reduceSub, Nat.reduceMul, Nat.reduceEqDiff, Nat.reduceLT, Nat.reduceLeDiff, Nat.reduceBEq, Nat.reduceBNe, Int.reduceLT, Int.reduceLE, Int.reduceEq, Int.reduceAdd, Int.reduceSub, Int.reduceNeg, decide_true, decide_false, Bool.not_true, Bool.not_false, cond_true, cond_false, beq_self_eq_true, and_self, ne_eq, not_true_eq_false, not_false_eq_true, reduceCtorEq, Bool.true_beq, Bool.false_beq, q1, p0, p1]
        have hres : roomB g l size = false := roomB_no fun q => s1 q.2.1
        refine fin_ret (G := G0) Try.results71 ?_
        simp only [go_sem, Nat.reduceAdd, Nat.reduceSub, Nat.reduceMul, Nat.reduceEqDiff, Nat.reduceLT, Nat.reduceLeDiff, Nat.reduceBEq, Nat.reduceBNe, Int.reduceLT, Int.reduceLE, Int.reduceEq, Int.reduceAdd, Int.reduceSub, Int.reduceNeg, decide_true, decide_false, Bool.not_true, Bool.not_false, cond_true, cond_false, beq_self_eq_true, and_self, ne_eq, not_true_eq_false, not_false_eq_true, reduceCtorEq, Bool.true_beq, Bool.false_beq]
        intro a w' _ _
        rw [hres]
        rfl
    · have p0 : decide (0 ≤ size) = false := decide_eq_false s0
      simp only [go_sem, Nat.reduceAdd, Nat.reduceSub, Nat.reduceMul, Nat.reduceEqDiff, Nat.reduceLT, Nat.reduceLeDiff, Nat.reduceBEq, Nat.reduceBNe, Int.reduceLT, Int.reduceLE, Int.reduceEq, Int.reduceAdd, Int.reduceSub, Int.reduceNeg, decide_true, decide_false, Bool.not_true, Bool.not_false, cond_true, cond_false, beq_self_eq_true, and_self, ne_eq, not_true_eq_false, not_false_eq_true, reduceCtorEq, Bool.true_beq, Bool.false_beq, q1, p0]
      have hres : roomB g l size = false := roomB_no fun q => s0 q.1
      refine fin_ret (G := G0) Try.results71 ?_
      simp only [go_sem, Nat.reduceAdd, Nat.reduceSub, Nat.reduceMul, Nat.reduceEqDiff, Nat.reduceLT, Nat.reduceLeDiff, Nat.reduceBEq, Nat.reduceBNe, Int.reduceLT, Int.reduceLE, Int.reduceEq, Int.reduceAdd, Int.reduceSub, Int.reduceNeg, decide_true, decide_false, Bool.not_true, Bool.not_false, cond_true, cond_false, beq_self_eq_true, and_self, ne_eq, not_true_eq_false, not_false_eq_true, reduceCtorEq, Bool.true_beq, Bool.false_beq]
      intro a w' _ _
      rw [hres]
      rfl
end Go.Proofs.Ytomfladifefomaa
