/- Mark, Append. Conditions: as each law states them. -/
import Derived.Test.YtomfladifefomaaC1
import Derived.Test.YtomfladifefomaaA3
-- D4: dev.Mark, over devices that may be: a total contract. Conditions: as each law states them.
namespace Go.Proofs.Ytomfladifefomaa
open Go.RowKit
set_option linter.unusedSimpArgs false
def marked (x : Vol) : Vol := ⟨x.data, (x.data.length : Int), x.gone⟩
theorem volk {G : GW} {S : List Value} {l : List Vol} {j : Nat} {x : Vol} (h : PWk VolG 3 G S l) (hx : l[j]? = some x) : ∃ A c, S[j * 3]? = some (.slice A x.data.length c) ∧ S[j * 3 + 1]? = some (.int .i64 x.synced) ∧ S[j * 3 + 2]? = some (.bool x.gone) ∧ ByG G (.slice A x.data.length c) x.data := by
  obtain ⟨cs, h1, h2, h3⟩ := h j x hx
  obtain ⟨A, c, rfl, hb⟩ := volcells h2
  exact ⟨A, c, h3 0 _ rfl, h3 1 _ rfl, h3 2 _ rfl, hb⟩
theorem volk_len {G : GW} {S : List Value} {l : List Vol} {j : Nat} {x : Vol} (h : PWk VolG 3 G S l) (hx : l[j]? = some x) : j * 3 + 3 ≤ S.length := by
  obtain ⟨_, _, _, _, h3, _⟩ := volk h hx
  have := (List.getElem?_eq_some_iff.1 h3).1
  omega
theorem volk_sync {G : GW} {S : List Value} {l : List Vol} {j : Nat} {x : Vol} (h : PWk VolG 3 G S l) (hx : l[j]? = some x) (n : Int) : PWk VolG 3 G (S.set (j * 3 + 1) (.int .i64 n)) (l.set j ⟨x.data, n, x.gone⟩) :=
  h.set_ (i := 1) hx (by omega) fun cs _ ⟨u, e, hb⟩ _ => ⟨u, by rw [e]; rfl, hb⟩
theorem volk_data {G : GW} {S : List Value} {l : List Vol} {j : Nat} {x : Vol} (h : PWk VolG 3 G S l) (hx : l[j]? = some x) {u : Value} {bs : List UInt8} (hu : ByG G u bs) : PWk VolG 3 G (S.set (j * 3) u) (l.set j ⟨bs, x.synced, x.gone⟩) :=
  h.set_ (i := 0) hx (by omega) fun cs _ ⟨_, e, _⟩ _ => ⟨u, by rw [e]; rfl, hu⟩
set_option maxRecDepth 100000 in
set_option maxHeartbeats 4000000 in
theorem mark_does {g : Geo} (hg : GoodGeo g) {d : Dev} (hd : GoodDev g d) {dv : Value} {G0 : GW} (hW : G0.Wf) (hT : Tid bX G0) (h : DevG G0 dv d) :
    Calls Try.prog 32 #[geoV g, dv] G0.w (Ret G0 fun v G => DevE G v (downErr d) (markDev d)) := by
  obtain ⟨A1, k1, A2, k2, A3, k3, rfl, hs, hc, hv⟩ := h.form
  refine enter (G := G0) (n := 39) 3000 hW Try.func32 rfl Try.ntmps32 (by simp) ?_
  simp only [go_sem, Nat.reduceAdd, Nat.reduceSub, Nat.reduceMul, Nat.reduceEqDiff, Nat.reduceLT, Nat.reduceLeDiff, Nat.reduceBEq, Nat.reduceBNe, Int.reduceLT, Int.reduceLE, Int.reduceEq, Int.reduceAdd, Int.reduceSub, Int.reduceNeg, decide_true, decide_false, Bool.not_true, Bool.not_false, cond_true, cond_false, beq_self_eq_true, and_self, ne_eq, not_true_eq_false, not_false_eq_true, reduceCtorEq, Bool.true_beq, Bool.false_beq, geoV]
  intro g1 g2 g3
  by_cases e5 : d.fuel = 0
  · have he : downErr d = 10 := by unfold downErr; rw [if_pos e5]
    refine plain_ok (N := 3000) (call_does (fun v G => v = .tuple #[.agg #[.slice none 0 0, .slice none 0 0, .slice none 0 0, .int .i64 0], .int .i64 10]) rfl rfl (by kernel_rfl) rfl (by simp only [dOk_some, dOk_none, Nat.reduceLT]) (fun G hG => ret_of (spend_down g hg d hd e5 _ _ (h.mono (hG.le G0 (by simp))).r) fun _ _ ⟨he, hb⟩ => ⟨_, he, rfl, hb⟩)) (QOk_body _ _ _) (by first | exact .inl rfl | exact .inr ⟨_, _, rfl, rfl⟩) ?_
    rintro _ ⟨v, G2, rfl, hn2, rfl⟩
    clear hn2
    simp only [go_sem, Nat.reduceAdd, Nat.reduceSub, Nat.reduceMul, Nat.reduceEqDiff, Nat.reduceLT, Nat.reduceLeDiff, Nat.reduceBEq, Nat.reduceBNe, Int.reduceLT, Int.reduceLE, Int.reduceEq, Int.reduceAdd, Int.reduceSub, Int.reduceNeg, decide_true, decide_false, Bool.not_true, Bool.not_false, cond_true, cond_false, beq_self_eq_true, and_self, ne_eq, not_true_eq_false, not_false_eq_true, reduceCtorEq, Bool.true_beq, Bool.false_beq]
    intro g4
    refine fin_ret (G := G0) Try.results32 ?_
    simp only [go_sem, Nat.reduceAdd, Nat.reduceSub, Nat.reduceMul, Nat.reduceEqDiff, Nat.reduceLT, Nat.reduceLeDiff, Nat.reduceBEq, Nat.reduceBNe, Int.reduceLT, Int.reduceLE, Int.reduceEq, Int.reduceAdd, Int.reduceSub, Int.reduceNeg, decide_true, decide_false, Bool.not_true, Bool.not_false, cond_true, cond_false, beq_self_eq_true, and_self, ne_eq, not_true_eq_false, not_false_eq_true, reduceCtorEq, Bool.true_beq, Bool.false_beq]
    intro a w' _ _
    exact he.symm ▸ dev_err _ _ (by decide)
  have he : downErr d = 0 := by unfold downErr; rw [if_neg e5]
  refine plain_ok (N := 3000) (callO_does (fun v R G => ∃ u, v = .tuple #[u, .int .i64 0] ∧ OwnT (spent d) u R G) rfl rfl (by kernel_rfl) rfl (by simp only [dOk_some, dOk_none, Nat.reduceLT]) (fun G hG => spend_does g hg d hd e5 _ _ (h.mono (hG.le G0 (by simp))) (tidB hG (fun _ h => h) hT hW rfl rfl (by simp) (by simp; decide)) hG.wf)) (QOk_body _ _ _) (by first | exact .inl rfl | exact .inr ⟨_, _, rfl, rfl⟩) ?_
  rintro _ ⟨v, R, G2, ⟨u, rfl, A4, c4, A5, c5, A6, c6, C1, C2, C3, rfl, rfl, E1, E2, E3⟩, hn2, rfl⟩
  clear hn2
  simp only [List.cons_append, List.nil_append]
  simp only [go_sem, Nat.reduceAdd, Nat.reduceSub, Nat.reduceMul, Nat.reduceEqDiff, Nat.reduceLT, Nat.reduceLeDiff, Nat.reduceBEq, Nat.reduceBNe, Int.reduceLT, Int.reduceLE, Int.reduceEq, Int.reduceAdd, Int.reduceSub, Int.reduceNeg, decide_true, decide_false, Bool.not_true, Bool.not_false, cond_true, cond_false, beq_self_eq_true, and_self, ne_eq, not_true_eq_false, not_false_eq_true, reduceCtorEq, Bool.true_beq, Bool.false_beq]
  intro g4
  by_cases hn0 : 0 < d.vols.length
  · refine rowBlk_ok (R1 := [_, _]) (r := ⟨.slice A6 (spent d).vols.length c6, 104, 3, (spent d).vols.length, C3.flatten⟩) rfl hn0 fun gs cap S hAs hcap hmax hSl hS => ?_
    cases hAs
    have hP0 : PWk VolG 3 G2 S (setTo marked d.vols 0) := PWk.of (l := d.vols) E3 hS
    have hS0 : S.length = c6 * 3 := hSl
    have hcap' : d.vols.length ≤ c6 := hcap
    clear hS hSl hcap E3
    simp only [List.cons_append, List.nil_append]
    simp only [go_sem, Nat.reduceAdd, Nat.reduceSub, Nat.reduceMul, Nat.reduceEqDiff, Nat.reduceLT, Nat.reduceLeDiff, Nat.reduceBEq, Nat.reduceBNe, Int.reduceLT, Int.reduceLE, Int.reduceEq, Int.reduceAdd, Int.reduceSub, Int.reduceNeg, decide_true, decide_false, Bool.not_true, Bool.not_false, cond_true, cond_false, beq_self_eq_true, and_self, ne_eq, not_true_eq_false, not_false_eq_true, reduceCtorEq, Bool.true_beq, Bool.false_beq]
    refine loop_ok (N := 3000) (ι := Nat × List Value)
      (fun i => match i with | (v, S) => ⟨[(4, .c (.p 2 g3 0)), (6, .c (.p 3 g4 0)), (21, .c (.v (.int .i64 (d.vols.length : Int)))), (22, .c (.v (.int .i64 (v : Int))))],
        [⟨4, gs, 104, S.map .v⟩, ⟨3, g4, 37, [.v (.slice A4 d.safe.length c4), .v (.slice A5 d.cache.length c5), .v (.slice (some ⟨gs, 0, none⟩) d.vols.length c6), .v (.int .i64 (spent d).fuel)]⟩, ⟨2, g3, 37, [.v (.slice none 0 0), .v (.slice none 0 0), .v (.slice none 0 0), .v (.int .i64 0)]⟩],
        [⟨.slice A4 d.safe.length c4, 23, 1, d.safe.length, C1.flatten⟩, ⟨.slice A5 d.cache.length c5, 61, 2, d.cache.length, C2.flatten⟩], [], [G2], 5⟩)
      (fun i => match i with | (v, S) => v ≤ d.vols.length ∧ S.length = c6 * 3 ∧ PWk VolG 3 G2 S (setTo marked d.vols v))
      (fun i => d.vols.length - i.1) (QOk_body _ _ _) (0, S) ⟨by omega, hS0, hP0⟩ (by simp only [go_sem, Nat.reduceAdd, Nat.reduceSub, Nat.reduceMul, Nat.reduceEqDiff, Nat.reduceLT, Nat.reduceLeDiff, Nat.reduceBEq, Nat.reduceBNe, Int.reduceLT, Int.reduceLE, Int.reduceEq, Int.reduceAdd, Int.reduceSub, Int.reduceNeg, decide_true, decide_false, Bool.not_true, Bool.not_false, cond_true, cond_false, beq_self_eq_true, and_self, ne_eq, not_true_eq_false, not_false_eq_true, reduceCtorEq, Bool.true_beq, Bool.false_beq]; simp) ?_
    clear hS0 hP0 S
    rintro ⟨v, S⟩ ⟨hv, hS0, hP0⟩
    simp only
    simp only [go_sem, Nat.reduceAdd, Nat.reduceSub, Nat.reduceMul, Nat.reduceEqDiff, Nat.reduceLT, Nat.reduceLeDiff, Nat.reduceBEq, Nat.reduceBNe, Int.reduceLT, Int.reduceLE, Int.reduceEq, Int.reduceAdd, Int.reduceSub, Int.reduceNeg, decide_true, decide_false, Bool.not_true, Bool.not_false, cond_true, cond_false, beq_self_eq_true, and_self, ne_eq, not_true_eq_false, not_false_eq_true, reduceCtorEq, Bool.true_beq, Bool.false_beq]
    refine Wb_mk (fun hlt => ?_) (fun hge => ?_)
    · have hlt' : v < d.vols.length := by simpa using hlt
      obtain ⟨x, hx⟩ : ∃ x, d.vols[v]? = some x := ⟨_, List.getElem?_eq_getElem hlt'⟩
      have hx' : (setTo marked d.vols v)[v]? = some x := by rw [setTo_here]; exact hx
      obtain ⟨A7, c7, p0, p1, p2, hb⟩ := volk hP0 hx'
      have hl := volk_len hP0 hx'
      have hmany := hd.many
      have hn2 := hg.n2
      refine draw_ok (N := 3000) (.take 0 (.take 1 (.take 2 (.take 3 (.take 4 (.take 5 (.alt 6 (.take 7 (.alt 8 (.take 9 (.alt 10 (.take 11 (.alt 12 .done .last)) .last)) .last)) .last))))))) [4] (QOk_body _ _ _) follows_mixed (by kernel_rfl) (by kernel_rfl) ?_
      simp only [go_sem, Nat.reduceAdd, Nat.reduceSub, Nat.reduceMul, Nat.reduceEqDiff, Nat.reduceLT, Nat.reduceLeDiff, Nat.reduceBEq, Nat.reduceBNe, Int.reduceLT, Int.reduceLE, Int.reduceEq, Int.reduceAdd, Int.reduceSub, Int.reduceNeg, decide_true, decide_false, Bool.not_true, Bool.not_false, cond_true, cond_false, beq_self_eq_true, and_self, ne_eq, not_true_eq_false, not_false_eq_true, reduceCtorEq, Bool.true_beq, Bool.false_beq]
      refine any_ok2 (N := 3000) (own_elem_does (id := 4) (m := v) rfl tySlice35 tySize104 rfl rfl (by simp only [dOk_some, dOk_none, Nat.reduceLT]) rfl hlt') (QOk_body _ _ _) rfl (by first | exact .inl rfl | exact .inr ⟨_, _, rfl, rfl⟩) (by intro _ hK; first | (obtain ⟨_, _, _, _, rfl⟩ := hK; exact ⟨rfl, fun _ h => h⟩) | (obtain ⟨_, _, rfl⟩ := hK; exact ⟨rfl, fun _ h => h⟩) | (obtain ⟨_, _, _, _, _, _, rfl⟩ := hK; exact ⟨rfl, fun _ h => List.mem_cons_of_mem _ h⟩) | (obtain ⟨_, _, _, _, _, _, _, rfl⟩ := hK; exact ⟨rfl, fun _ h => List.mem_cons_of_mem _ h⟩) | (obtain rfl := hK; exact ⟨rfl, fun _ h => h⟩)) ?_
      rintro _ rfl
      simp only [go_sem, Nat.reduceAdd, Nat.reduceSub, Nat.reduceMul, Nat.reduceEqDiff, Nat.reduceLT, Nat.reduceLeDiff, Nat.reduceBEq, Nat.reduceBNe, Int.reduceLT, Int.reduceLE, Int.reduceEq, Int.reduceAdd, Int.reduceSub, Int.reduceNeg, decide_true, decide_false, Bool.not_true, Bool.not_false, cond_true, cond_false, beq_self_eq_true, and_self, ne_eq, not_true_eq_false, not_false_eq_true, reduceCtorEq, Bool.true_beq, Bool.false_beq, Nat.add_zero, List.getElem?_map, p0, Option.map_some]
      have hl2 : v * 3 + 1 + 1 ≤ S.length := by omega
      refine any_ok2 (N := 3000) (own_elem_does (id := 4) (m := v) rfl tySlice35 tySize104 rfl rfl (by simp only [dOk_some, dOk_none, Nat.reduceLT]) rfl hlt') (QOk_body _ _ _) rfl (by first | exact .inl rfl | exact .inr ⟨_, _, rfl, rfl⟩) (by intro _ hK; first | (obtain ⟨_, _, _, _, rfl⟩ := hK; exact ⟨rfl, fun _ h => h⟩) | (obtain ⟨_, _, rfl⟩ := hK; exact ⟨rfl, fun _ h => h⟩) | (obtain ⟨_, _, _, _, _, _, rfl⟩ := hK; exact ⟨rfl, fun _ h => List.mem_cons_of_mem _ h⟩) | (obtain ⟨_, _, _, _, _, _, _, rfl⟩ := hK; exact ⟨rfl, fun _ h => List.mem_cons_of_mem _ h⟩) | (obtain rfl := hK; exact ⟨rfl, fun _ h => h⟩)) ?_
      rintro _ rfl
      simp only [go_sem, Nat.reduceAdd, Nat.reduceSub, Nat.reduceMul, Nat.reduceEqDiff, Nat.reduceLT, Nat.reduceLeDiff, Nat.reduceBEq, Nat.reduceBNe, Int.reduceLT, Int.reduceLE, Int.reduceEq, Int.reduceAdd, Int.reduceSub, Int.reduceNeg, decide_true, decide_false, Bool.not_true, Bool.not_false, cond_true, cond_false, beq_self_eq_true, and_self, ne_eq, not_true_eq_false, not_false_eq_true, reduceCtorEq, Bool.true_beq, Bool.false_beq, List.length_map, hl2]
      refine ⟨by omega, again_ok (v + 1, S.set (v * 3 + 1) (.int .i64 (x.data.length : Int))) ⟨by omega, by simpa using hS0, ?_⟩ (by simp only; omega) (by simp only [go_sem, Nat.reduceAdd, Nat.reduceSub, Nat.reduceMul, Nat.reduceEqDiff, Nat.reduceLT, Nat.reduceLeDiff, Nat.reduceBEq, Nat.reduceBNe, Int.reduceLT, Int.reduceLE, Int.reduceEq, Int.reduceAdd, Int.reduceSub, Int.reduceNeg, decide_true, decide_false, Bool.not_true, Bool.not_false, cond_true, cond_false, beq_self_eq_true, and_self, ne_eq, not_true_eq_false, not_false_eq_true, reduceCtorEq, Bool.true_beq, Bool.false_beq]; simp)⟩
      rw [setTo_succ _ hx]
      exact volk_sync hP0 hx' _
    · have hv2 : v = d.vols.length := by simp at hge; omega
      subst hv2
      rw [setTo_all] at hP0
      refine blkRead_ok (B1 := []) rfl 3 d.vols.length c6 hcap' hmax (by simpa using hS0) id fun G5 hle5 hs5 => ?_
      clear hle5
      simp only [go_sem, Nat.reduceAdd, Nat.reduceSub, Nat.reduceMul, Nat.reduceEqDiff, Nat.reduceLT, Nat.reduceLeDiff, Nat.reduceBEq, Nat.reduceBNe, Int.reduceLT, Int.reduceLE, Int.reduceEq, Int.reduceAdd, Int.reduceSub, Int.reduceNeg, decide_true, decide_false, Bool.not_true, Bool.not_false, cond_true, cond_false, beq_self_eq_true, and_self, ne_eq, not_true_eq_false, not_false_eq_true, reduceCtorEq, Bool.true_beq, Bool.false_beq]
      refine read_ok (R1 := []) rfl fun G6 _ hs6 => ?_
      simp only [go_sem, Nat.reduceAdd, Nat.reduceSub, Nat.reduceMul, Nat.reduceEqDiff, Nat.reduceLT, Nat.reduceLeDiff, Nat.reduceBEq, Nat.reduceBNe, Int.reduceLT, Int.reduceLE, Int.reduceEq, Int.reduceAdd, Int.reduceSub, Int.reduceNeg, decide_true, decide_false, Bool.not_true, Bool.not_false, cond_true, cond_false, beq_self_eq_true, and_self, ne_eq, not_true_eq_false, not_false_eq_true, reduceCtorEq, Bool.true_beq, Bool.false_beq]
      refine read_ok (R1 := []) rfl fun G7 _ hs7 => ?_
      simp only [go_sem, Nat.reduceAdd, Nat.reduceSub, Nat.reduceMul, Nat.reduceEqDiff, Nat.reduceLT, Nat.reduceLeDiff, Nat.reduceBEq, Nat.reduceBNe, Int.reduceLT, Int.reduceLE, Int.reduceEq, Int.reduceAdd, Int.reduceSub, Int.reduceNeg, decide_true, decide_false, Bool.not_true, Bool.not_false, cond_true, cond_false, beq_self_eq_true, and_self, ne_eq, not_true_eq_false, not_false_eq_true, reduceCtorEq, Bool.true_beq, Bool.false_beq]
      refine fin_ret (G := G0) Try.results32 ?_
      simp only [go_sem, Nat.reduceAdd, Nat.reduceSub, Nat.reduceMul, Nat.reduceEqDiff, Nat.reduceLT, Nat.reduceLeDiff, Nat.reduceBEq, Nat.reduceBNe, Int.reduceLT, Int.reduceLE, Int.reduceEq, Int.reduceAdd, Int.reduceSub, Int.reduceNeg, decide_true, decide_false, Bool.not_true, Bool.not_false, cond_true, cond_false, beq_self_eq_true, and_self, ne_eq, not_true_eq_false, not_false_eq_true, reduceCtorEq, Bool.true_beq, Bool.false_beq]
      intro a w' _ hl
      refine dev_ok he ⟨_, rfl, _, _, _, rfl, sq_row E1 rowG_mono (hl G2 (by simp)) rfl (hs6.mono (hl G6 (by simp))), sq_row E2 wrG_mono (hl G2 (by simp)) rfl (hs7.mono (hl G7 (by simp))), ?_⟩
      simp only [map_den_v] at hs5
      exact (hP0.mono volG_mono (hl G2 (by simp))).sq (t := 104) (n := d.vols.length) (by omega) (by simp) (hs5.mono (hl G5 (by simp)))
  · have hn1 : d.vols = [] := List.eq_nil_of_length_eq_zero (by omega)
    have hlen : d.vols.length = 0 := by omega
    refine loop_ok (N := 3000) (ι := Unit)
      (fun _ => ⟨[(4, .c (.p 2 g3 0)), (6, .c (.p 3 g4 0)), (21, .c (.v (.int .i64 (d.vols.length : Int)))), (22, .c (.v (.int .i64 0)))],
        [⟨3, g4, 37, [.v (.slice A4 d.safe.length c4), .v (.slice A5 d.cache.length c5), .v (.slice A6 d.vols.length c6), .v (.int .i64 (spent d).fuel)]⟩, ⟨2, g3, 37, [.v (.slice none 0 0), .v (.slice none 0 0), .v (.slice none 0 0), .v (.int .i64 0)]⟩],
        [⟨.slice A4 d.safe.length c4, 23, 1, d.safe.length, C1.flatten⟩, ⟨.slice A5 d.cache.length c5, 61, 2, d.cache.length, C2.flatten⟩, ⟨.slice A6 d.vols.length c6, 104, 3, d.vols.length, C3.flatten⟩], [], [G2], 5⟩)
      (fun _ => True) (fun _ => 0) (QOk_body _ _ _) () trivial (by simp only [go_sem, Nat.reduceAdd, Nat.reduceSub, Nat.reduceMul, Nat.reduceEqDiff, Nat.reduceLT, Nat.reduceLeDiff, Nat.reduceBEq, Nat.reduceBNe, Int.reduceLT, Int.reduceLE, Int.reduceEq, Int.reduceAdd, Int.reduceSub, Int.reduceNeg, decide_true, decide_false, Bool.not_true, Bool.not_false, cond_true, cond_false, beq_self_eq_true, and_self, ne_eq, not_true_eq_false, not_false_eq_true, reduceCtorEq, Bool.true_beq, Bool.false_beq]; simp) ?_
    rintro _ _
    have q : decide ((0 : Int) < (d.vols.length : Int)) = false := by simp; omega
    simp only [go_sem, Nat.reduceAdd, Nat.reduceSub, Nat.reduceMul, Nat.reduceEqDiff, Nat.reduceLT, Nat.reduceLeDiff, Nat.reduceBEq, Nat.reduceBNe, Int.reduceLT, Int.reduceLE, Int.reduceEq, Int.reduceAdd, Int.reduceSub, Int.reduceNeg, decide_true, decide_false, Bool.not_true, Bool.not_false, cond_true, cond_false, beq_self_eq_true, and_self, ne_eq, not_true_eq_false, not_false_eq_true, reduceCtorEq, Bool.true_beq, Bool.false_beq, q]
    refine read_ok (R1 := []) rfl fun G6 _ hs6 => ?_
    simp only [go_sem, Nat.reduceAdd, Nat.reduceSub, Nat.reduceMul, Nat.reduceEqDiff, Nat.reduceLT, Nat.reduceLeDiff, Nat.reduceBEq, Nat.reduceBNe, Int.reduceLT, Int.reduceLE, Int.reduceEq, Int.reduceAdd, Int.reduceSub, Int.reduceNeg, decide_true, decide_false, Bool.not_true, Bool.not_false, cond_true, cond_false, beq_self_eq_true, and_self, ne_eq, not_true_eq_false, not_false_eq_true, reduceCtorEq, Bool.true_beq, Bool.false_beq]
    refine read_ok (R1 := []) rfl fun G7 _ hs7 => ?_
    simp only [go_sem, Nat.reduceAdd, Nat.reduceSub, Nat.reduceMul, Nat.reduceEqDiff, Nat.reduceLT, Nat.reduceLeDiff, Nat.reduceBEq, Nat.reduceBNe, Int.reduceLT, Int.reduceLE, Int.reduceEq, Int.reduceAdd, Int.reduceSub, Int.reduceNeg, decide_true, decide_false, Bool.not_true, Bool.not_false, cond_true, cond_false, beq_self_eq_true, and_self, ne_eq, not_true_eq_false, not_false_eq_true, reduceCtorEq, Bool.true_beq, Bool.false_beq]
    refine read_ok (R1 := []) rfl fun G8 _ hs8 => ?_
    simp only [go_sem, Nat.reduceAdd, Nat.reduceSub, Nat.reduceMul, Nat.reduceEqDiff, Nat.reduceLT, Nat.reduceLeDiff, Nat.reduceBEq, Nat.reduceBNe, Int.reduceLT, Int.reduceLE, Int.reduceEq, Int.reduceAdd, Int.reduceSub, Int.reduceNeg, decide_true, decide_false, Bool.not_true, Bool.not_false, cond_true, cond_false, beq_self_eq_true, and_self, ne_eq, not_true_eq_false, not_false_eq_true, reduceCtorEq, Bool.true_beq, Bool.false_beq]
    refine fin_ret (G := G0) Try.results32 ?_
    simp only [go_sem, Nat.reduceAdd, Nat.reduceSub, Nat.reduceMul, Nat.reduceEqDiff, Nat.reduceLT, Nat.reduceLeDiff, Nat.reduceBEq, Nat.reduceBNe, Int.reduceLT, Int.reduceLE, Int.reduceEq, Int.reduceAdd, Int.reduceSub, Int.reduceNeg, decide_true, decide_false, Bool.not_true, Bool.not_false, cond_true, cond_false, beq_self_eq_true, and_self, ne_eq, not_true_eq_false, not_false_eq_true, reduceCtorEq, Bool.true_beq, Bool.false_beq]
    intro a w' _ hl
    have hcut : markDev d = spent d := by simp [markDev, hn1, spent]
    rw [hcut]
    exact dev_ok he ⟨_, rfl, _, _, _, rfl, sq_row E1 rowG_mono (hl G2 (by simp)) rfl (hs6.mono (hl G6 (by simp))), sq_row E2 wrG_mono (hl G2 (by simp)) rfl (hs7.mono (hl G7 (by simp))), sq_row E3 volG_mono (hl G2 (by simp)) rfl (hs8.mono (hl G8 (by simp)))⟩
end Go.Proofs.Ytomfladifefomaa
-- D5: What spend hands over when a volume's bytes are to be written: a row more. Conditions: as each law states them.
namespace Go.Proofs.Ytomfladifefomaa
open Go.RowKit
set_option linter.unusedSimpArgs false
def OwnV (d : Dev) (k : Nat) (x : Vol) (u : Value) (R : List Rw) (G : GW) : Prop := ∃ (A1 : Option Addr) (k1 : Nat) (A2 : Option Addr) (k2 : Nat) (A3 : Option Addr) (k3 : Nat) (A4 : Option Addr) (k4 : Nat) (c1 c2 c3 : List (List Value)), u = .agg #[.slice A1 d.safe.length k1, .slice A2 d.cache.length k2, .slice A3 d.vols.length k3, .int .i64 d.fuel] ∧
  R = [⟨.slice A1 d.safe.length k1, 23, 1, d.safe.length, c1.flatten⟩, ⟨.slice A2 d.cache.length k2, 61, 2, d.cache.length, c2.flatten⟩, ⟨.slice A3 d.vols.length k3, 104, 3, d.vols.length, c3.flatten⟩, ⟨.slice A4 x.data.length k4, 5, 1, x.data.length, x.data.map enc8⟩] ∧
  ElG RowG 1 G c1 d.safe ∧ ElG WrG 2 G c2 d.cache ∧ c3.length = d.vols.length ∧ (∀ cs ∈ c3, List.length cs = 3) ∧ c3[k]? = some [.slice A4 x.data.length k4, .int .i64 x.synced, .bool x.gone] ∧ ∀ j cs y, j ≠ k → c3[j]? = some cs → d.vols[j]? = some y → VolG G y cs
theorem own_rowsV {G : GW} {w' : World} {dv : Value} {d : Dev} {k : Nat} {x : Vol} (hx : d.vols[k]? = some x) (h : OwnDev G.w.heap.size w' dv d) (hT : Tid bX G) (hW : G.Wf) (hc : Chg Non G.w w') :
    ∃ R, (∀ r ∈ R, w'.ownsRow G.w.heap.size r.t r.k r.v r.n r.xs) ∧ RApart R ∧ OwnV d k x dv R ⟨fun k => G.M k ∨ ∃ r ∈ R, r.v.ownBlock = some k, w'⟩ := by
  obtain ⟨s, c, v, V, css, rfl, ⟨c1, e1, o1⟩, ⟨c2, e2, o2⟩, hk, hb, e3, o3, hp⟩ := h
  obtain ⟨A1, k1, rfl, _⟩ := ownsRow_form o1
  obtain ⟨A2, k2, rfl, _⟩ := ownsRow_form o2
  obtain ⟨A3, k3, rfl, _⟩ := ownsRow_form o3
  obtain ⟨cs, hcs, hcl, u, rfl, o4⟩ := e3.at_ hx
  obtain ⟨A4, k4, rfl, _⟩ := ownsRow_form o4
  have o1' := ownsRow_keep o1 hk rfl
  have o2' := ownsRow_keep o2 hk rfl
  have o4' := ownsRow_base o4 hb
  obtain ⟨R, hR⟩ : ∃ R : List Rw, R = [⟨.slice A1 d.safe.length k1, 23, 1, d.safe.length, c1.flatten⟩, ⟨.slice A2 d.cache.length k2, 61, 2, d.cache.length, c2.flatten⟩, ⟨.slice A3 d.vols.length k3, 104, 3, d.vols.length, css.flatten⟩, ⟨.slice A4 x.data.length k4, 5, 1, x.data.length, x.data.map enc8⟩] := ⟨_, rfl⟩
  have hown : ∀ r ∈ R, w'.ownsRow G.w.heap.size r.t r.k r.v r.n r.xs := by
    rw [hR]
    simp only [List.forall_mem_cons]
    exact ⟨o1', o2', o3, o4', fun _ h => by cases h⟩
  have hTG := tid_chg hT hW hc
  have hno : ∀ g cur fr, w'.heap[g]? = some (.cells cur 5 fr) → (Value.slice A4 x.data.length k4).ownBlock ≠ some g → ¬ (G.M g ∨ ∃ r ∈ R, r.v.ownBlock = some g) := by
    intro g cur fr hg hne hm
    rcases hm with hm | ⟨r, hr, e⟩
    · have := hTG g hm cur _ fr hg
      exact absurd this (by decide)
    · rw [hR] at hr
      simp only [List.mem_cons, List.not_mem_nil, or_false] at hr
      rcases hr with rfl | rfl | rfl | rfl
      · obtain ⟨cur', h'⟩ := owns_type o1' e
        rw [h'] at hg; cases hg
      · obtain ⟨cur', h'⟩ := owns_type o2' e
        rw [h'] at hg; cases hg
      · obtain ⟨cur', h'⟩ := owns_type o3 e
        rw [h'] at hg; cases hg
      · exact hne e
  have hbyV : ∀ u bs, BytesR V u bs → ByG ⟨fun k => G.M k ∨ ∃ r ∈ R, r.v.ownBlock = some k, w'⟩ u bs := by
    rintro u bs ⟨A, c, rfl, q1, q2, q3, q4⟩
    refine ⟨A, c, rfl, q1, q2, q3, fun hn => ?_⟩
    obtain ⟨g, o, cur, fr, rfl, hb', hc'⟩ := q4 hn
    have hg := hk.2 g cur _ fr hb' rfl
    refine ⟨g, o, cur, fr, rfl, hno g cur fr hg fun e => ?_, hg, hc'⟩
    have := (ownsRow_lt o4 e).1
    have := lt_of_block hb'
    omega
  refine ⟨R, hown, ?_, A1, k1, A2, k2, A3, k3, A4, k4, c1, c2, css, rfl, hR, ?_, ?_, e3.1, e3.2.1, hcs, ?_⟩
  · rw [hR]
    refine List.Pairwise.cons (fun r hr => ?_) (List.Pairwise.cons (fun r hr => ?_) (List.Pairwise.cons (fun r hr => ?_) (List.pairwise_singleton _ _)))
    · simp only [List.mem_cons, List.not_mem_nil, or_false] at hr
      rcases hr with rfl | rfl | rfl
      · exact owns_apart o1' o2' (by decide)
      · exact owns_apart o1' o3 (by decide)
      · exact owns_apart o1' o4' (by decide)
    · simp only [List.mem_cons, List.not_mem_nil, or_false] at hr
      rcases hr with rfl | rfl
      · exact owns_apart o2' o3 (by decide)
      · exact owns_apart o2' o4' (by decide)
    · simp only [List.mem_cons, List.not_mem_nil, or_false] at hr
      subst hr
      exact owns_apart o3 o4' (by decide)
  · exact ⟨e1.1, e1.2.1, fun i cs x h1 h2 => let ⟨u, e, h⟩ := e1.2.2 i cs x h1 h2; ⟨u, e, hbyV _ _ h⟩⟩
  · exact ⟨e2.1, e2.2.1, fun i cs x h1 h2 => let ⟨u, e, h⟩ := e2.2.2 i cs x h1 h2; ⟨u, e, hbyV _ _ h⟩⟩
  · intro j cs y hj h1 h2
    obtain ⟨u, rfl, h⟩ := e3.2.2 j cs y h1 h2
    refine ⟨u, rfl, ?_⟩
    obtain ⟨A, c, rfl, q1, q2, q3, q4⟩ := TSl.of_own h
    refine ⟨A, c, rfl, q1, q2, q3, fun hn => ?_⟩
    obtain ⟨g, o, cur, fr, rfl, hb', hc'⟩ := q4 hn
    refine ⟨g, o, cur, fr, rfl, hno g cur fr hb' fun e => ?_, hb', hc'⟩
    have ho : (Value.slice (some ⟨g, o, none⟩) y.data.length c).ownBlock = some g := by
      rcases h.2 with ⟨e', _⟩ | ⟨g', cap, cur', e', _⟩
      · cases e'
      · cases e'; rfl
    exact hp k j _ _ g (Ne.symm hj) hcs h1 e ho
theorem spendV_does (g : Geo) (hg : GoodGeo g) (d : Dev) (hd : GoodDev g d) (hf : d.fuel ≠ 0) {k : Nat} {x : Vol} (hx : d.vols[k]? = some x) (dv : Value) (G : GW) (h : DevG G dv d) (hT : Tid bX G) (hW : G.Wf) :
    Calls Try.prog 60 #[geoV g, dv] G.w (RetO G fun v R G' => ∃ u, v = .tuple #[u, .int .i64 0] ∧ OwnV (spent d) k x u R G') := by
  refine (spend_ok g hg d hd hf dv G.w h.r).mono ?_
  rintro e w' ⟨dv', rfl, ho, hb⟩
  obtain ⟨R, h1, h2, h3⟩ := own_rowsV (d := spent d) (x := x) hx ho hT hW (Chg.of_below hb)
  exact ⟨_, R, rfl, h1, h2, ⟨dv', rfl, h3⟩, Chg.of_below hb⟩
/-- an element whose own part was open is whole again -/
theorem PWk.fill {α : Type} {R : GW → α → List Value → Prop} {G : GW} {S : List Value} {l : List α} {k m i : Nat} {u : Value} {y : α} {cs0 : List Value}
    (h : ∀ (j : Nat) (x : α), j ≠ m → l[j]? = some x → ∃ cs : List Value, cs.length = k ∧ R G x cs ∧ ∀ (i : Nat) (u : Value), cs[i]? = some u → S[j * k + i]? = some u) (hm : m < l.length)
    (h0 : ∀ (i : Nat) (u : Value), cs0[i]? = some u → S[m * k + i]? = some u) (hl : cs0.length = k) (hi : i < k) (hr : R G y (cs0.set i u)) : PWk R k G (S.set (m * k + i) u) (l.set m y) := by
  intro j z hz
  by_cases e : m = j
  · subst e
    rw [List.getElem?_set_self hm] at hz
    cases hz
    refine ⟨cs0.set i u, by simpa using hl, hr, fun i' u' hu => ?_⟩
    by_cases e' : i = i'
    · subst e'
      rw [List.getElem?_set_self (by omega)] at hu
      cases hu
      have hS : m * k + i < S.length := by
        have := h0 i cs0[i] (List.getElem?_eq_getElem (by omega))
        exact (List.getElem?_eq_some_iff.1 this).1
      exact List.getElem?_set_self hS
    · rw [List.getElem?_set_ne e'] at hu
      rw [List.getElem?_set_ne (by omega)]
      exact h0 i' u' hu
  · rw [List.getElem?_set_ne e] at hz
    obtain ⟨cs, h1, h2, h3⟩ := h j z (fun q => e q.symm) hz
    refine ⟨cs, h1, h2, fun i' u' hu => ?_⟩
    have hi' : i' < k := by rw [← h1]; exact (List.getElem?_eq_some_iff.1 hu).1
    rw [List.getElem?_set_ne (fun q => e ?_)]
    · exact h3 i' u' hu
    · have q1 : (m * k + i) / k = m := by rw [Nat.mul_comm, Nat.mul_add_div (by omega), Nat.div_eq_of_lt hi, Nat.add_zero]
      have q2 : (j * k + i') / k = j := by rw [Nat.mul_comm, Nat.mul_add_div (by omega), Nat.div_eq_of_lt hi', Nat.add_zero]
      rw [← q1, ← q2, q]
end Go.Proofs.Ytomfladifefomaa
-- D6: dev.Append, over devices that may be: a total contract. Conditions: as each law states them.
namespace Go.Proofs.Ytomfladifefomaa
open Go.RowKit
set_option linter.unusedSimpArgs false
set_option maxRecDepth 100000 in
set_option maxHeartbeats 4000000 in
theorem append_does' {g : Geo} (hg : GoodGeo g) {d : Dev} (hd : GoodDev g d) {dv bv : Value} {v : Int} {bs : List UInt8} (hbs : bs.length ≤ 1000000) {G0 : GW} (hW : G0.Wf) (hT : Tid bX G0) (h : DevG G0 dv d) (hb : ByG G0 bv bs) :
    Calls Try.prog 29 #[geoV g, dv, .int .i64 v, bv] G0.w (Ret G0 fun u G => DevE G u (appErr g d v bs.length) (appDev g d v bs)) := by
  obtain ⟨A, c, rfl, _, _⟩ := hb.form
  obtain ⟨A1, k1, A2, k2, A3, k3, rfl, hs, hc, hv⟩ := h.form
  have hmany := hd.many
  have hn2 := hg.n2
  have hv4 := hg.v2
  refine enter (G := G0) (n := 97) 3000 hW Try.func29 rfl Try.ntmps29 (by simp) ?_
  simp only [go_sem, Nat.reduceAdd, Nat.reduceSub, Nat.reduceMul, Nat.reduceEqDiff, Nat.reduceLT, Nat.reduceLeDiff, Nat.reduceBEq, Nat.reduceBNe, Int.reduceLT, Int.reduceLE, Int.reduceEq, Int.reduceAdd, Int.reduceSub, Int.reduceNeg, decide_true, decide_false, Bool.not_true, Bool.not_false, cond_true, cond_false, beq_self_eq_true, and_self, ne_eq, not_true_eq_false, not_false_eq_true, reduceCtorEq, Bool.true_beq, Bool.false_beq, geoV]
  intro g1 g2 g3
  refine plain_ok (N := 3000) (call_does (fun v G => v = .int .i64 0) rfl rfl (by kernel_rfl) rfl (by simp only [dOk_some, dOk_none, Nat.reduceLT]) (fun G hG => chk hg hd (h.mono (hG.le G0 (by simp))))) (QOk_body _ _ _) (by first | exact .inl rfl | exact .inr ⟨_, _, rfl, rfl⟩) ?_
  rintro _ ⟨_, G1, rfl, hn1, rfl⟩
  clear hn1
  by_cases e1 : v = (d.vols.length : Int)
  · have q1 : decide (v = (d.vols.length : Int)) = true := by simpa using e1
    by_cases e2 : v < g.volumes
    · have q2 : decide (v < g.volumes) = true := by simpa using e2
      have hf : appFresh g d v = true := by simp [appFresh, e1, e1 ▸ e2]
      have hal : appLen g d v bs.length = bs.length := by simp [appLen, hf]
      by_cases e3 : g.volume < (bs.length : Int)
      · have he : appErr g d v bs.length = 8 := by unfold appErr; rw [if_neg (by simp [hf]), if_pos (by rw [hal]; exact e3)]
        have q3 : decide (g.volume < (bs.length : Int)) = true := by simpa using e3
        simp only [go_sem, Nat.reduceAdd, Nat.reduceSub, Nat.reduceMul, Nat.reduceEqDiff, Nat.reduceLT, Nat.reduceLeDiff, Nat.reduceBEq, Nat.reduceBNe, Int.reduceLT, Int.reduceLE, Int.reduceEq, Int.reduceAdd, Int.reduceSub, Int.reduceNeg, decide_true, decide_false, Bool.not_true, Bool.not_false, cond_true, cond_false, beq_self_eq_true, and_self, ne_eq, not_true_eq_false, not_false_eq_true, reduceCtorEq, Bool.true_beq, Bool.false_beq, q1, q2, q3]
        refine fin_ret (G := G0) Try.results29 ?_
        simp only [go_sem, Nat.reduceAdd, Nat.reduceSub, Nat.reduceMul, Nat.reduceEqDiff, Nat.reduceLT, Nat.reduceLeDiff, Nat.reduceBEq, Nat.reduceBNe, Int.reduceLT, Int.reduceLE, Int.reduceEq, Int.reduceAdd, Int.reduceSub, Int.reduceNeg, decide_true, decide_false, Bool.not_true, Bool.not_false, cond_true, cond_false, beq_self_eq_true, and_self, ne_eq, not_true_eq_false, not_false_eq_true, reduceCtorEq, Bool.true_beq, Bool.false_beq]
        intro a w' _ _
        exact he.symm ▸ dev_err _ _ (by decide)
      have q3 : decide (g.volume < (bs.length : Int)) = false := by simpa using e3
      have q4 : decide (g.volume < 0 + (bs.length : Int)) = false := by simp; omega
      by_cases e5 : d.fuel = 0
      · have he : appErr g d v bs.length = 10 := by unfold appErr; rw [if_neg (by simp [hf]), if_neg (by rw [hal]; exact e3), if_pos e5]
        simp only [go_sem, Nat.reduceAdd, Nat.reduceSub, Nat.reduceMul, Nat.reduceEqDiff, Nat.reduceLT, Nat.reduceLeDiff, Nat.reduceBEq, Nat.reduceBNe, Int.reduceLT, Int.reduceLE, Int.reduceEq, Int.reduceAdd, Int.reduceSub, Int.reduceNeg, decide_true, decide_false, Bool.not_true, Bool.not_false, cond_true, cond_false, beq_self_eq_true, and_self, ne_eq, not_true_eq_false, not_false_eq_true, reduceCtorEq, Bool.true_beq, Bool.false_beq, q1, q2, q3, q4]
        refine ⟨by omega, ?_⟩
        refine plain_ok (N := 3000) (call_does (fun v G => v = .tuple #[.agg #[.slice none 0 0, .slice none 0 0, .slice none 0 0, .int .i64 0], .int .i64 10]) rfl rfl (by kernel_rfl) rfl (by simp only [dOk_some, dOk_none, Nat.reduceLT]) (fun G hG => ret_of (spend_down g hg d hd e5 _ _ (h.mono (hG.le G0 (by simp))).r) fun _ _ ⟨he, hb⟩ => ⟨_, he, rfl, hb⟩)) (QOk_body _ _ _) (by first | exact .inl rfl | exact .inr ⟨_, _, rfl, rfl⟩) ?_
        rintro _ ⟨_, G3, rfl, hn3, rfl⟩
        clear hn3
        simp only [go_sem, Nat.reduceAdd, Nat.reduceSub, Nat.reduceMul, Nat.reduceEqDiff, Nat.reduceLT, Nat.reduceLeDiff, Nat.reduceBEq, Nat.reduceBNe, Int.reduceLT, Int.reduceLE, Int.reduceEq, Int.reduceAdd, Int.reduceSub, Int.reduceNeg, decide_true, decide_false, Bool.not_true, Bool.not_false, cond_true, cond_false, beq_self_eq_true, and_self, ne_eq, not_true_eq_false, not_false_eq_true, reduceCtorEq, Bool.true_beq, Bool.false_beq]
        intro g4
        refine fin_ret (G := G0) Try.results29 ?_
        simp only [go_sem, Nat.reduceAdd, Nat.reduceSub, Nat.reduceMul, Nat.reduceEqDiff, Nat.reduceLT, Nat.reduceLeDiff, Nat.reduceBEq, Nat.reduceBNe, Int.reduceLT, Int.reduceLE, Int.reduceEq, Int.reduceAdd, Int.reduceSub, Int.reduceNeg, decide_true, decide_false, Bool.not_true, Bool.not_false, cond_true, cond_false, beq_self_eq_true, and_self, ne_eq, not_true_eq_false, not_false_eq_true, reduceCtorEq, Bool.true_beq, Bool.false_beq]
        intro a w' _ _
        exact he.symm ▸ dev_err _ _ (by decide)
      have he : appErr g d v bs.length = 0 := by unfold appErr; rw [if_neg (by simp [hf]), if_neg (by rw [hal]; exact e3), if_neg e5]
      simp only [go_sem, Nat.reduceAdd, Nat.reduceSub, Nat.reduceMul, Nat.reduceEqDiff, Nat.reduceLT, Nat.reduceLeDiff, Nat.reduceBEq, Nat.reduceBNe, Int.reduceLT, Int.reduceLE, Int.reduceEq, Int.reduceAdd, Int.reduceSub, Int.reduceNeg, decide_true, decide_false, Bool.not_true, Bool.not_false, cond_true, cond_false, beq_self_eq_true, and_self, ne_eq, not_true_eq_false, not_false_eq_true, reduceCtorEq, Bool.true_beq, Bool.false_beq, q1, q2, q3, q4]
      refine ⟨by omega, ?_⟩
      refine plain_ok (N := 3000) (callO_does (fun v R G => ∃ u, v = .tuple #[u, .int .i64 0] ∧ OwnT (spent d) u R G) rfl rfl (by kernel_rfl) rfl (by simp only [dOk_some, dOk_none, Nat.reduceLT]) (fun G hG => spend_does g hg d hd e5 _ _ (h.mono (hG.le G0 (by simp))) (tidB hG (fun _ h => h) hT hW rfl rfl (by simp) (by simp; decide)) hG.wf)) (QOk_body _ _ _) (by first | exact .inl rfl | exact .inr ⟨_, _, rfl, rfl⟩) ?_
      rintro _ ⟨_, R, G2, ⟨u, rfl, A4, c4, A5, c5, A6, c6, C1, C2, C3, rfl, rfl, E1, E2, E3⟩, hn2', rfl⟩
      clear hn2'
      simp only [List.cons_append, List.nil_append]
      simp only [go_sem, Nat.reduceAdd, Nat.reduceSub, Nat.reduceMul, Nat.reduceEqDiff, Nat.reduceLT, Nat.reduceLeDiff, Nat.reduceBEq, Nat.reduceBNe, Int.reduceLT, Int.reduceLE, Int.reduceEq, Int.reduceAdd, Int.reduceSub, Int.reduceNeg, decide_true, decide_false, Bool.not_true, Bool.not_false, cond_true, cond_false, beq_self_eq_true, and_self, ne_eq, not_true_eq_false, not_false_eq_true, reduceCtorEq, Bool.true_beq, Bool.false_beq]
      intro g4 g5
      refine plain_ok (N := 3000) (append_does (R1 := [_, _]) (news := [.slice none 0 0, .int .i64 0, .bool false]) rfl tySlice35 tyApp104 rfl rfl rfl rfl (by simp only [dOk_some, dOk_none, Nat.reduceLT]) (by intro u hu; simp at hu; rcases hu with rfl | rfl | rfl <;> rfl) (by unfold maxLen; omega) (by omega) (fun G hG => tsl_blk hG (b := ⟨4, g5, 104, [.v (.slice none 0 0), .v (.int .i64 0), .v (.bool false)]⟩) (by simp) rfl (by unfold maxLen; omega))) (QOk_body _ _ _) (by first | exact .inl rfl | exact .inr ⟨_, _, rfl, rfl⟩) ?_
      rintro _ ⟨A8, c8, rfl⟩
      simp only [List.cons_append, List.nil_append]
      simp only [go_sem, Nat.reduceAdd, Nat.reduceSub, Nat.reduceMul, Nat.reduceEqDiff, Nat.reduceLT, Nat.reduceLeDiff, Nat.reduceBEq, Nat.reduceBNe, Int.reduceLT, Int.reduceLE, Int.reduceEq, Int.reduceAdd, Int.reduceSub, Int.reduceNeg, decide_true, decide_false, Bool.not_true, Bool.not_false, cond_true, cond_false, beq_self_eq_true, and_self, ne_eq, not_true_eq_false, not_false_eq_true, reduceCtorEq, Bool.true_beq, Bool.false_beq]
      refine rowBlk_ok (R1 := [_, _]) (r := ⟨.slice A8 (d.vols.length + 1) c8, 104, 3, d.vols.length + 1, C3.flatten ++ [.slice none 0 0, .int .i64 0, .bool false]⟩) rfl (Nat.succ_pos _) fun gs cap S hAs hcap hmax hSl hS => ?_
      cases hAs
      have hP0 : PWk VolG 3 G2 S (d.vols ++ [⟨[], 0, false⟩]) := PWk.of (css := C3 ++ [[.slice none 0 0, .int .i64 0, .bool false]]) (ElG.snoc E3 rfl ⟨_, rfl, Sl.nil _ _ _⟩) (by simpa using hS)
      have hS' : S.take ((d.vols.length + 1) * 3) = C3.flatten ++ [.slice none 0 0, .int .i64 0, .bool false] := hS
      have hfl : C3.flatten.length = d.vols.length * 3 := by rw [flatten_len C3 E3.2.1, E3.1]; rfl
      have p0 : S[d.vols.length * 3]? = some (.slice none 0 0) := by
        rw [← List.getElem?_take_of_lt (show d.vols.length * 3 < (d.vols.length + 1) * 3 by omega), hS', List.getElem?_append_right (by omega), hfl, Nat.sub_self]; rfl
      have hS0 : S.length = c8 * 3 := hSl
      have hcap' : d.vols.length + 1 ≤ c8 := hcap
      clear hS hS' hfl hSl hcap E3
      refine row_ok 5 1 ?_
      simp only [List.cons_append, List.nil_append]
      simp only [go_sem, Nat.reduceAdd, Nat.reduceSub, Nat.reduceMul, Nat.reduceEqDiff, Nat.reduceLT, Nat.reduceLeDiff, Nat.reduceBEq, Nat.reduceBNe, Int.reduceLT, Int.reduceLE, Int.reduceEq, Int.reduceAdd, Int.reduceSub, Int.reduceNeg, decide_true, decide_false, Bool.not_true, Bool.not_false, cond_true, cond_false, beq_self_eq_true, and_self, ne_eq, not_true_eq_false, not_false_eq_true, reduceCtorEq, Bool.true_beq, Bool.false_beq]
      have hx : (d.vols ++ [(⟨[], 0, false⟩ : Vol)])[d.vols.length]? = some ⟨[], 0, false⟩ := by simp
      have hl := volk_len hP0 hx
      refine draw_ok (N := 3000) (.take 0 (.take 1 (.take 2 (.take 3 (.take 4 (.take 5 (.take 9 (.alt 6 (.take 7 (.alt 8 (.alt 10 (.alt 11 (.take 12 (.alt 13 .done .last)) .last) .last) .last)) .last)))))))) [5] (QOk_body _ _ _) follows_mixed (by kernel_rfl) (by kernel_rfl) ?_
      simp only [go_sem, Nat.reduceAdd, Nat.reduceSub, Nat.reduceMul, Nat.reduceEqDiff, Nat.reduceLT, Nat.reduceLeDiff, Nat.reduceBEq, Nat.reduceBNe, Int.reduceLT, Int.reduceLE, Int.reduceEq, Int.reduceAdd, Int.reduceSub, Int.reduceNeg, decide_true, decide_false, Bool.not_true, Bool.not_false, cond_true, cond_false, beq_self_eq_true, and_self, ne_eq, not_true_eq_false, not_false_eq_true, reduceCtorEq, Bool.true_beq, Bool.false_beq]
      refine any_ok2 (N := 3000) (own_elem_does (id := 5) (m := d.vols.length) rfl tySlice35 tySize104 rfl rfl (by simp only [dOk_some, dOk_none, Nat.reduceLT]) e1 (Nat.lt_succ_self _)) (QOk_body _ _ _) rfl (by first | exact .inl rfl | exact .inr ⟨_, _, rfl, rfl⟩) (by intro _ hK; first | (obtain ⟨_, _, _, _, rfl⟩ := hK; exact ⟨rfl, fun _ h => h⟩) | (obtain ⟨_, _, rfl⟩ := hK; exact ⟨rfl, fun _ h => h⟩) | (obtain ⟨_, _, _, _, _, _, rfl⟩ := hK; exact ⟨rfl, fun _ h => List.mem_cons_of_mem _ h⟩) | (obtain ⟨_, _, _, _, _, _, _, rfl⟩ := hK; exact ⟨rfl, fun _ h => List.mem_cons_of_mem _ h⟩) | (obtain rfl := hK; exact ⟨rfl, fun _ h => h⟩)) ?_
      rintro _ rfl
      simp only [go_sem, Nat.reduceAdd, Nat.reduceSub, Nat.reduceMul, Nat.reduceEqDiff, Nat.reduceLT, Nat.reduceLeDiff, Nat.reduceBEq, Nat.reduceBNe, Int.reduceLT, Int.reduceLE, Int.reduceEq, Int.reduceAdd, Int.reduceSub, Int.reduceNeg, decide_true, decide_false, Bool.not_true, Bool.not_false, cond_true, cond_false, beq_self_eq_true, and_self, ne_eq, not_true_eq_false, not_false_eq_true, reduceCtorEq, Bool.true_beq, Bool.false_beq, Nat.add_zero, List.getElem?_map, p0, Option.map_some]
      refine any_ok2 (N := 3000) (append_does (R1 := []) (news := bs.map enc8) rfl tySlice23 tyApp5 rfl rfl rfl rfl (by simp only [dOk_some, dOk_none, Nat.reduceLT]) (enc8_one _) (by unfold maxLen; omega) (by omega) (fun G hG => (hb.mono (hG.le G0 (by simp))).r)) (QOk_body _ _ _) rfl (by first | exact .inl rfl | exact .inr ⟨_, _, rfl, rfl⟩) (by intro _ hK; first | (obtain ⟨_, _, _, _, rfl⟩ := hK; exact ⟨rfl, fun _ h => h⟩) | (obtain ⟨_, _, rfl⟩ := hK; exact ⟨rfl, fun _ h => h⟩) | (obtain ⟨_, _, _, _, _, _, rfl⟩ := hK; exact ⟨rfl, fun _ h => List.mem_cons_of_mem _ h⟩) | (obtain ⟨_, _, _, _, _, _, _, rfl⟩ := hK; exact ⟨rfl, fun _ h => List.mem_cons_of_mem _ h⟩) | (obtain rfl := hK; exact ⟨rfl, fun _ h => h⟩)) ?_
      rw [Nat.zero_add, List.nil_append]
      rintro _ ⟨A9, c9, rfl⟩
      simp only [List.nil_append]
      simp only [go_sem, Nat.reduceAdd, Nat.reduceSub, Nat.reduceMul, Nat.reduceEqDiff, Nat.reduceLT, Nat.reduceLeDiff, Nat.reduceBEq, Nat.reduceBNe, Int.reduceLT, Int.reduceLE, Int.reduceEq, Int.reduceAdd, Int.reduceSub, Int.reduceNeg, decide_true, decide_false, Bool.not_true, Bool.not_false, cond_true, cond_false, beq_self_eq_true, and_self, ne_eq, not_true_eq_false, not_false_eq_true, reduceCtorEq, Bool.true_beq, Bool.false_beq]
      have hl2 : d.vols.length * 3 + 1 ≤ S.length := by omega
      refine any_ok2 (N := 3000) (own_elem_does (id := 5) (m := d.vols.length) rfl tySlice35 tySize104 rfl rfl (by simp only [dOk_some, dOk_none, Nat.reduceLT]) e1 (Nat.lt_succ_self _)) (QOk_body _ _ _) rfl (by first | exact .inl rfl | exact .inr ⟨_, _, rfl, rfl⟩) (by intro _ hK; first | (obtain ⟨_, _, _, _, rfl⟩ := hK; exact ⟨rfl, fun _ h => h⟩) | (obtain ⟨_, _, rfl⟩ := hK; exact ⟨rfl, fun _ h => h⟩) | (obtain ⟨_, _, _, _, _, _, rfl⟩ := hK; exact ⟨rfl, fun _ h => List.mem_cons_of_mem _ h⟩) | (obtain ⟨_, _, _, _, _, _, _, rfl⟩ := hK; exact ⟨rfl, fun _ h => List.mem_cons_of_mem _ h⟩) | (obtain rfl := hK; exact ⟨rfl, fun _ h => h⟩)) ?_
      rintro _ rfl
      simp only [go_sem, Nat.reduceAdd, Nat.reduceSub, Nat.reduceMul, Nat.reduceEqDiff, Nat.reduceLT, Nat.reduceLeDiff, Nat.reduceBEq, Nat.reduceBNe, Int.reduceLT, Int.reduceLE, Int.reduceEq, Int.reduceAdd, Int.reduceSub, Int.reduceNeg, decide_true, decide_false, Bool.not_true, Bool.not_false, cond_true, cond_false, beq_self_eq_true, and_self, ne_eq, not_true_eq_false, not_false_eq_true, reduceCtorEq, Bool.true_beq, Bool.false_beq, List.length_map, Nat.add_zero, hl2]
      refine read_ok (R1 := []) rfl fun G3 _ hs3 => ?_
      simp only [go_sem, Nat.reduceAdd, Nat.reduceSub, Nat.reduceMul, Nat.reduceEqDiff, Nat.reduceLT, Nat.reduceLeDiff, Nat.reduceBEq, Nat.reduceBNe, Int.reduceLT, Int.reduceLE, Int.reduceEq, Int.reduceAdd, Int.reduceSub, Int.reduceNeg, decide_true, decide_false, Bool.not_true, Bool.not_false, cond_true, cond_false, beq_self_eq_true, and_self, ne_eq, not_true_eq_false, not_false_eq_true, reduceCtorEq, Bool.true_beq, Bool.false_beq]
      refine blkRead_ok (B1 := []) rfl 3 (d.vols.length + 1) c8 hcap' hmax (by simpa using hS0) id fun G5 _ hs5 => ?_
      simp only [go_sem, Nat.reduceAdd, Nat.reduceSub, Nat.reduceMul, Nat.reduceEqDiff, Nat.reduceLT, Nat.reduceLeDiff, Nat.reduceBEq, Nat.reduceBNe, Int.reduceLT, Int.reduceLE, Int.reduceEq, Int.reduceAdd, Int.reduceSub, Int.reduceNeg, decide_true, decide_false, Bool.not_true, Bool.not_false, cond_true, cond_false, beq_self_eq_true, and_self, ne_eq, not_true_eq_false, not_false_eq_true, reduceCtorEq, Bool.true_beq, Bool.false_beq]
      refine read_ok (R1 := []) rfl fun G6 _ hs6 => ?_
      simp only [go_sem, Nat.reduceAdd, Nat.reduceSub, Nat.reduceMul, Nat.reduceEqDiff, Nat.reduceLT, Nat.reduceLeDiff, Nat.reduceBEq, Nat.reduceBNe, Int.reduceLT, Int.reduceLE, Int.reduceEq, Int.reduceAdd, Int.reduceSub, Int.reduceNeg, decide_true, decide_false, Bool.not_true, Bool.not_false, cond_true, cond_false, beq_self_eq_true, and_self, ne_eq, not_true_eq_false, not_false_eq_true, reduceCtorEq, Bool.true_beq, Bool.false_beq]
      refine read_ok (R1 := []) rfl fun G7 _ hs7 => ?_
      simp only [go_sem, Nat.reduceAdd, Nat.reduceSub, Nat.reduceMul, Nat.reduceEqDiff, Nat.reduceLT, Nat.reduceLeDiff, Nat.reduceBEq, Nat.reduceBNe, Int.reduceLT, Int.reduceLE, Int.reduceEq, Int.reduceAdd, Int.reduceSub, Int.reduceNeg, decide_true, decide_false, Bool.not_true, Bool.not_false, cond_true, cond_false, beq_self_eq_true, and_self, ne_eq, not_true_eq_false, not_false_eq_true, reduceCtorEq, Bool.true_beq, Bool.false_beq]
      refine fin_ret (G := G0) Try.results29 ?_
      simp only [go_sem, Nat.reduceAdd, Nat.reduceSub, Nat.reduceMul, Nat.reduceEqDiff, Nat.reduceLT, Nat.reduceLeDiff, Nat.reduceBEq, Nat.reduceBNe, Int.reduceLT, Int.reduceLE, Int.reduceEq, Int.reduceAdd, Int.reduceSub, Int.reduceNeg, decide_true, decide_false, Bool.not_true, Bool.not_false, cond_true, cond_false, beq_self_eq_true, and_self, ne_eq, not_true_eq_false, not_false_eq_true, reduceCtorEq, Bool.true_beq, Bool.false_beq]
      intro a w' _ hl'
      have hap : appDev g d v bs = { spent d with vols := d.vols ++ [⟨bs, 0, false⟩] } := by simp [appDev, hf]
      rw [hap]
      refine dev_ok he ⟨_, rfl, _, _, _, rfl, sq_row E1 rowG_mono (hl' G2 (by simp)) rfl (hs6.mono (hl' G6 (by simp))), sq_row E2 wrG_mono (hl' G2 (by simp)) rfl (hs7.mono (hl' G7 (by simp))), ?_⟩
      simp only [map_den_v] at hs5
      have hbf : ByG ⟨G0.M, w'⟩ (.slice A9 bs.length c9) bs := Sl.mono hs3 (hl' G3 (by simp))
      have hP1 := volk_data (hP0.mono volG_mono (hl' G2 (by simp))) hx hbf
      have hset : (d.vols ++ [(⟨[], 0, false⟩ : Vol)]).set d.vols.length ⟨bs, 0, false⟩ = d.vols ++ [⟨bs, 0, false⟩] := by simp
      rw [hset] at hP1
      exact hP1.sq (t := 104) (n := d.vols.length + 1) (by omega) (by simp) (hs5.mono (hl' G5 (by simp)))
    · have q2 : decide (v < g.volumes) = false := by simpa using e2
      have hf : appFresh g d v = false := by simp [appFresh, q2]
      have hvo : volOk d v = false := by simp [volOk, e1]
      have he : appErr g d v bs.length = 6 := by unfold appErr; rw [if_pos ⟨hf, hvo⟩]
      simp only [go_sem, Nat.reduceAdd, Nat.reduceSub, Nat.reduceMul, Nat.reduceEqDiff, Nat.reduceLT, Nat.reduceLeDiff, Nat.reduceBEq, Nat.reduceBNe, Int.reduceLT, Int.reduceLE, Int.reduceEq, Int.reduceAdd, Int.reduceSub, Int.reduceNeg, decide_true, decide_false, Bool.not_true, Bool.not_false, cond_true, cond_false, beq_self_eq_true, and_self, ne_eq, not_true_eq_false, not_false_eq_true, reduceCtorEq, Bool.true_beq, Bool.false_beq, q1, q2]
      refine plain_ok (N := 3000) (call_does (fun u G => u = .bool (volOk d v)) rfl rfl (by kernel_rfl) rfl (by simp only [dOk_some, dOk_none, Nat.reduceLT]) (fun G hG => vol_ret (h.mono (hG.le G0 (by simp))) v)) (QOk_body _ _ _) (by first | exact .inl rfl | exact .inr ⟨_, _, rfl, rfl⟩) ?_
      rintro _ ⟨_, G2, rfl, hn2', rfl⟩
      clear hn2'
      simp only [go_sem, Nat.reduceAdd, Nat.reduceSub, Nat.reduceMul, Nat.reduceEqDiff, Nat.reduceLT, Nat.reduceLeDiff, Nat.reduceBEq, Nat.reduceBNe, Int.reduceLT, Int.reduceLE, Int.reduceEq, Int.reduceAdd, Int.reduceSub, Int.reduceNeg, decide_true, decide_false, Bool.not_true, Bool.not_false, cond_true, cond_false, beq_self_eq_true, and_self, ne_eq, not_true_eq_false, not_false_eq_true, reduceCtorEq, Bool.true_beq, Bool.false_beq, hvo]
      refine fin_ret (G := G0) Try.results29 ?_
      simp only [go_sem, Nat.reduceAdd, Nat.reduceSub, Nat.reduceMul, Nat.reduceEqDiff, Nat.reduceLT, Nat.reduceLeDiff, Nat.reduceBEq, Nat.reduceBNe, Int.reduceLT, Int.reduceLE, Int.reduceEq, Int.reduceAdd, Int.reduceSub, Int.reduceNeg, decide_true, decide_false, Bool.not_true, Bool.not_false, cond_true, cond_false, beq_self_eq_true, and_self, ne_eq, not_true_eq_false, not_false_eq_true, reduceCtorEq, Bool.true_beq, Bool.false_beq]
      intro a w' _ _
      exact he.symm ▸ dev_err _ _ (by decide)
  · have q1 : decide (v = (d.vols.length : Int)) = false := by simpa using e1
    have hf : appFresh g d v = false := by simp [appFresh, q1]
    simp only [go_sem, Nat.reduceAdd, Nat.reduceSub, Nat.reduceMul, Nat.reduceEqDiff, Nat.reduceLT, Nat.reduceLeDiff, Nat.reduceBEq, Nat.reduceBNe, Int.reduceLT, Int.reduceLE, Int.reduceEq, Int.reduceAdd, Int.reduceSub, Int.reduceNeg, decide_true, decide_false, Bool.not_true, Bool.not_false, cond_true, cond_false, beq_self_eq_true, and_self, ne_eq, not_true_eq_false, not_false_eq_true, reduceCtorEq, Bool.true_beq, Bool.false_beq, q1]
    refine plain_ok (N := 3000) (call_does (fun u G => u = .bool (volOk d v)) rfl rfl (by kernel_rfl) rfl (by simp only [dOk_some, dOk_none, Nat.reduceLT]) (fun G hG => vol_ret (h.mono (hG.le G0 (by simp))) v)) (QOk_body _ _ _) (by first | exact .inl rfl | exact .inr ⟨_, _, rfl, rfl⟩) ?_
    rintro _ ⟨_, G2, rfl, hn2', rfl⟩
    clear hn2'
    cases hvo : volOk d v with
    | false =>
      have he : appErr g d v bs.length = 6 := by unfold appErr; rw [if_pos ⟨hf, hvo⟩]
      simp only [go_sem, Nat.reduceAdd, Nat.reduceSub, Nat.reduceMul, Nat.reduceEqDiff, Nat.reduceLT, Nat.reduceLeDiff, Nat.reduceBEq, Nat.reduceBNe, Int.reduceLT, Int.reduceLE, Int.reduceEq, Int.reduceAdd, Int.reduceSub, Int.reduceNeg, decide_true, decide_false, Bool.not_true, Bool.not_false, cond_true, cond_false, beq_self_eq_true, and_self, ne_eq, not_true_eq_false, not_false_eq_true, reduceCtorEq, Bool.true_beq, Bool.false_beq, hvo]
      refine fin_ret (G := G0) Try.results29 ?_
      simp only [go_sem, Nat.reduceAdd, Nat.reduceSub, Nat.reduceMul, Nat.reduceEqDiff, Nat.reduceLT, Nat.reduceLeDiff, Nat.reduceBEq, Nat.reduceBNe, Int.reduceLT, Int.reduceLE, Int.reduceEq, Int.reduceAdd, Int.reduceSub, Int.reduceNeg, decide_true, decide_false, Bool.not_true, Bool.not_false, cond_true, cond_false, beq_self_eq_true, and_self, ne_eq, not_true_eq_false, not_false_eq_true, reduceCtorEq, Bool.true_beq, Bool.false_beq]
      intro a w' _ _
      exact he.symm ▸ dev_err _ _ (by decide)
    | true =>
      obtain ⟨k, x, rfl, hx, hgo⟩ := volOk_in hvo
      obtain ⟨m1, m2, m3, _⟩ := hd.vol hx
      have hkl : k < d.vols.length := (List.getElem?_eq_some_iff.1 hx).1
      have hal : appLen g d (k : Int) bs.length = x.data.length + bs.length := by simp [appLen, hf, volLen, hx]
      have hE : appErr g d (k : Int) bs.length = (if g.volume < ((x.data.length + bs.length : Nat) : Int) then 8 else if d.fuel = 0 then 10 else 0) := by
        unfold appErr; rw [if_neg (by simp [hvo]), hal]
      simp only [go_sem, Nat.reduceAdd, Nat.reduceSub, Nat.reduceMul, Nat.reduceEqDiff, Nat.reduceLT, Nat.reduceLeDiff, Nat.reduceBEq, Nat.reduceBNe, Int.reduceLT, Int.reduceLE, Int.reduceEq, Int.reduceAdd, Int.reduceSub, Int.reduceNeg, decide_true, decide_false, Bool.not_true, Bool.not_false, cond_true, cond_false, beq_self_eq_true, and_self, ne_eq, not_true_eq_false, not_false_eq_true, reduceCtorEq, Bool.true_beq, Bool.false_beq, hvo]
      refine plain_ok (N := 3000) (elemC_does (R := VolG) (l := d.vols) (m := k) rfl tySlice35 tySize104 rfl rfl (by simp only [dOk_some, dOk_none, Nat.reduceLT]) rfl hx (fun G hG => (Sq.mono hv volG_mono (hG.le G0 (by simp))).sc)) (QOk_body _ _ _) (by first | exact .inl rfl | exact .inr ⟨_, _, rfl, rfl⟩) ?_
      rintro _ ⟨gw, ow, cs, G4, hcl, hcR, hn4, rfl⟩
      obtain ⟨A7, c7, rfl, hb7⟩ := volcells hcR
      clear hn4 hcl hcR
      by_cases e3 : g.volume < (bs.length : Int)
      · have he : appErr g d (k : Int) bs.length = 8 := by rw [hE, if_pos (by omega)]
        have q3 : decide (g.volume < (bs.length : Int)) = true := by simpa using e3
        simp only [go_sem, Nat.reduceAdd, Nat.reduceSub, Nat.reduceMul, Nat.reduceEqDiff, Nat.reduceLT, Nat.reduceLeDiff, Nat.reduceBEq, Nat.reduceBNe, Int.reduceLT, Int.reduceLE, Int.reduceEq, Int.reduceAdd, Int.reduceSub, Int.reduceNeg, decide_true, decide_false, Bool.not_true, Bool.not_false, cond_true, cond_false, beq_self_eq_true, and_self, ne_eq, not_true_eq_false, not_false_eq_true, reduceCtorEq, Bool.true_beq, Bool.false_beq, q3]
        refine fin_ret (G := G0) Try.results29 ?_
        simp only [go_sem, Nat.reduceAdd, Nat.reduceSub, Nat.reduceMul, Nat.reduceEqDiff, Nat.reduceLT, Nat.reduceLeDiff, Nat.reduceBEq, Nat.reduceBNe, Int.reduceLT, Int.reduceLE, Int.reduceEq, Int.reduceAdd, Int.reduceSub, Int.reduceNeg, decide_true, decide_false, Bool.not_true, Bool.not_false, cond_true, cond_false, beq_self_eq_true, and_self, ne_eq, not_true_eq_false, not_false_eq_true, reduceCtorEq, Bool.true_beq, Bool.false_beq]
        intro a w' _ _
        exact he.symm ▸ dev_err _ _ (by decide)
      have q3 : decide (g.volume < (bs.length : Int)) = false := by simpa using e3
      by_cases e4 : g.volume < (x.data.length : Int) + (bs.length : Int)
      · have he : appErr g d (k : Int) bs.length = 8 := by rw [hE, if_pos (by omega)]
        have q4 : decide (g.volume < (x.data.length : Int) + (bs.length : Int)) = true := by simpa using e4
        simp only [go_sem, Nat.reduceAdd, Nat.reduceSub, Nat.reduceMul, Nat.reduceEqDiff, Nat.reduceLT, Nat.reduceLeDiff, Nat.reduceBEq, Nat.reduceBNe, Int.reduceLT, Int.reduceLE, Int.reduceEq, Int.reduceAdd, Int.reduceSub, Int.reduceNeg, decide_true, decide_false, Bool.not_true, Bool.not_false, cond_true, cond_false, beq_self_eq_true, and_self, ne_eq, not_true_eq_false, not_false_eq_true, reduceCtorEq, Bool.true_beq, Bool.false_beq, q3, q4]
        refine ⟨by omega, ?_⟩
        refine fin_ret (G := G0) Try.results29 ?_
        simp only [go_sem, Nat.reduceAdd, Nat.reduceSub, Nat.reduceMul, Nat.reduceEqDiff, Nat.reduceLT, Nat.reduceLeDiff, Nat.reduceBEq, Nat.reduceBNe, Int.reduceLT, Int.reduceLE, Int.reduceEq, Int.reduceAdd, Int.reduceSub, Int.reduceNeg, decide_true, decide_false, Bool.not_true, Bool.not_false, cond_true, cond_false, beq_self_eq_true, and_self, ne_eq, not_true_eq_false, not_false_eq_true, reduceCtorEq, Bool.true_beq, Bool.false_beq]
        intro a w' _ _
        exact he.symm ▸ dev_err _ _ (by decide)
      have q4 : decide (g.volume < (x.data.length : Int) + (bs.length : Int)) = false := by simpa using e4
      by_cases e5 : d.fuel = 0
      · have he : appErr g d (k : Int) bs.length = 10 := by rw [hE, if_neg (by omega), if_pos e5]
        simp only [go_sem, Nat.reduceAdd, Nat.reduceSub, Nat.reduceMul, Nat.reduceEqDiff, Nat.reduceLT, Nat.reduceLeDiff, Nat.reduceBEq, Nat.reduceBNe, Int.reduceLT, Int.reduceLE, Int.reduceEq, Int.reduceAdd, Int.reduceSub, Int.reduceNeg, decide_true, decide_false, Bool.not_true, Bool.not_false, cond_true, cond_false, beq_self_eq_true, and_self, ne_eq, not_true_eq_false, not_false_eq_true, reduceCtorEq, Bool.true_beq, Bool.false_beq, q3, q4]
        refine ⟨by omega, ?_⟩
        refine plain_ok (N := 3000) (call_does (fun v G => v = .tuple #[.agg #[.slice none 0 0, .slice none 0 0, .slice none 0 0, .int .i64 0], .int .i64 10]) rfl rfl (by kernel_rfl) rfl (by simp only [dOk_some, dOk_none, Nat.reduceLT]) (fun G hG => ret_of (spend_down g hg d hd e5 _ _ (h.mono (hG.le G0 (by simp))).r) fun _ _ ⟨he, hb⟩ => ⟨_, he, rfl, hb⟩)) (QOk_body _ _ _) (by first | exact .inl rfl | exact .inr ⟨_, _, rfl, rfl⟩) ?_
        rintro _ ⟨_, G3, rfl, hn3, rfl⟩
        clear hn3
        simp only [go_sem, Nat.reduceAdd, Nat.reduceSub, Nat.reduceMul, Nat.reduceEqDiff, Nat.reduceLT, Nat.reduceLeDiff, Nat.reduceBEq, Nat.reduceBNe, Int.reduceLT, Int.reduceLE, Int.reduceEq, Int.reduceAdd, Int.reduceSub, Int.reduceNeg, decide_true, decide_false, Bool.not_true, Bool.not_false, cond_true, cond_false, beq_self_eq_true, and_self, ne_eq, not_true_eq_false, not_false_eq_true, reduceCtorEq, Bool.true_beq, Bool.false_beq]
        intro g4
        refine fin_ret (G := G0) Try.results29 ?_
        simp only [go_sem, Nat.reduceAdd, Nat.reduceSub, Nat.reduceMul, Nat.reduceEqDiff, Nat.reduceLT, Nat.reduceLeDiff, Nat.reduceBEq, Nat.reduceBNe, Int.reduceLT, Int.reduceLE, Int.reduceEq, Int.reduceAdd, Int.reduceSub, Int.reduceNeg, decide_true, decide_false, Bool.not_true, Bool.not_false, cond_true, cond_false, beq_self_eq_true, and_self, ne_eq, not_true_eq_false, not_false_eq_true, reduceCtorEq, Bool.true_beq, Bool.false_beq]
        intro a w' _ _
        exact he.symm ▸ dev_err _ _ (by decide)
      have he : appErr g d (k : Int) bs.length = 0 := by rw [hE, if_neg (by omega), if_neg e5]
      simp only [go_sem, Nat.reduceAdd, Nat.reduceSub, Nat.reduceMul, Nat.reduceEqDiff, Nat.reduceLT, Nat.reduceLeDiff, Nat.reduceBEq, Nat.reduceBNe, Int.reduceLT, Int.reduceLE, Int.reduceEq, Int.reduceAdd, Int.reduceSub, Int.reduceNeg, decide_true, decide_false, Bool.not_true, Bool.not_false, cond_true, cond_false, beq_self_eq_true, and_self, ne_eq, not_true_eq_false, not_false_eq_true, reduceCtorEq, Bool.true_beq, Bool.false_beq, q3, q4]
      refine ⟨by omega, ?_⟩
      refine plain_ok (N := 3000) (callO_does (fun v R G => ∃ u, v = .tuple #[u, .int .i64 0] ∧ OwnV (spent d) k x u R G) rfl rfl (by kernel_rfl) rfl (by simp only [dOk_some, dOk_none, Nat.reduceLT]) (fun G hG => spendV_does g hg d hd e5 hx _ _ (h.mono (hG.le G0 (by simp))) (tidB hG (fun _ h => h) hT hW rfl rfl (by simp) (by simp; decide)) hG.wf)) (QOk_body _ _ _) (by first | exact .inl rfl | exact .inr ⟨_, _, rfl, rfl⟩) ?_
      rintro _ ⟨_, R, G5, ⟨u, rfl, A4, c4, A5, c5, A6, c6, A8, c8, C1, C2, C3, rfl, rfl, E1, E2, F1, F2, F3, F4⟩, hn2', rfl⟩
      clear hn2'
      simp only [List.cons_append, List.nil_append]
      simp only [go_sem, Nat.reduceAdd, Nat.reduceSub, Nat.reduceMul, Nat.reduceEqDiff, Nat.reduceLT, Nat.reduceLeDiff, Nat.reduceBEq, Nat.reduceBNe, Int.reduceLT, Int.reduceLE, Int.reduceEq, Int.reduceAdd, Int.reduceSub, Int.reduceNeg, decide_true, decide_false, Bool.not_true, Bool.not_false, cond_true, cond_false, beq_self_eq_true, and_self, ne_eq, not_true_eq_false, not_false_eq_true, reduceCtorEq, Bool.true_beq, Bool.false_beq]
      intro g4
      refine rowBlk_ok (R1 := [_, _]) (r := ⟨.slice A6 (spent d).vols.length c6, 104, 3, (spent d).vols.length, C3.flatten⟩) rfl (show 0 < d.vols.length by omega) fun gs cap S hAs hcap hmax hSl hS => ?_
      cases hAs
      have hS0 : S.length = c6 * 3 := hSl
      have hcap' : d.vols.length ≤ c6 := hcap
      have hcell : ∀ (j : Nat) (cs : List Value), C3[j]? = some cs → ∀ (i : Nat) (u : Value), cs[i]? = some u → S[j * 3 + i]? = some u := fun j cs hj i u hu => take_cells (n := d.vols.length) hS F2 F1 hj i u hu
      clear hS hSl hcap
      have p0 : S[k * 3]? = some (.slice A8 x.data.length c8) := hcell k _ F3 0 _ rfl
      have hl : k * 3 + 1 ≤ S.length := by have := (List.getElem?_eq_some_iff.1 p0).1; omega
      simp only [List.cons_append, List.nil_append]
      simp only [go_sem, Nat.reduceAdd, Nat.reduceSub, Nat.reduceMul, Nat.reduceEqDiff, Nat.reduceLT, Nat.reduceLeDiff, Nat.reduceBEq, Nat.reduceBNe, Int.reduceLT, Int.reduceLE, Int.reduceEq, Int.reduceAdd, Int.reduceSub, Int.reduceNeg, decide_true, decide_false, Bool.not_true, Bool.not_false, cond_true, cond_false, beq_self_eq_true, and_self, ne_eq, not_true_eq_false, not_false_eq_true, reduceCtorEq, Bool.true_beq, Bool.false_beq]
      refine draw_ok (N := 3000) (.take 0 (.take 1 (.take 2 (.take 3 (.take 4 (.take 5 (.take 9 (.alt 6 (.take 7 (.alt 8 (.alt 10 (.alt 11 (.take 12 (.alt 13 .done .last)) .last) .last) .last)) .last)))))))) [5] (QOk_body _ _ _) follows_mixed (by kernel_rfl) (by kernel_rfl) ?_
      simp only [go_sem, Nat.reduceAdd, Nat.reduceSub, Nat.reduceMul, Nat.reduceEqDiff, Nat.reduceLT, Nat.reduceLeDiff, Nat.reduceBEq, Nat.reduceBNe, Int.reduceLT, Int.reduceLE, Int.reduceEq, Int.reduceAdd, Int.reduceSub, Int.reduceNeg, decide_true, decide_false, Bool.not_true, Bool.not_false, cond_true, cond_false, beq_self_eq_true, and_self, ne_eq, not_true_eq_false, not_false_eq_true, reduceCtorEq, Bool.true_beq, Bool.false_beq]
      refine any_ok2 (N := 3000) (own_elem_does (id := 5) (m := k) rfl tySlice35 tySize104 rfl rfl (by simp only [dOk_some, dOk_none, Nat.reduceLT]) rfl hkl) (QOk_body _ _ _) rfl (by first | exact .inl rfl | exact .inr ⟨_, _, rfl, rfl⟩) (by intro _ hK; first | (obtain ⟨_, _, _, _, rfl⟩ := hK; exact ⟨rfl, fun _ h => h⟩) | (obtain ⟨_, _, rfl⟩ := hK; exact ⟨rfl, fun _ h => h⟩) | (obtain ⟨_, _, _, _, _, _, rfl⟩ := hK; exact ⟨rfl, fun _ h => List.mem_cons_of_mem _ h⟩) | (obtain ⟨_, _, _, _, _, _, _, rfl⟩ := hK; exact ⟨rfl, fun _ h => List.mem_cons_of_mem _ h⟩) | (obtain rfl := hK; exact ⟨rfl, fun _ h => h⟩)) ?_
      rintro _ rfl
      simp only [go_sem, Nat.reduceAdd, Nat.reduceSub, Nat.reduceMul, Nat.reduceEqDiff, Nat.reduceLT, Nat.reduceLeDiff, Nat.reduceBEq, Nat.reduceBNe, Int.reduceLT, Int.reduceLE, Int.reduceEq, Int.reduceAdd, Int.reduceSub, Int.reduceNeg, decide_true, decide_false, Bool.not_true, Bool.not_false, cond_true, cond_false, beq_self_eq_true, and_self, ne_eq, not_true_eq_false, not_false_eq_true, reduceCtorEq, Bool.true_beq, Bool.false_beq, Nat.add_zero, List.getElem?_map, p0, Option.map_some]
      refine any_ok2 (N := 3000) (append_does (R1 := [_, _]) (news := bs.map enc8) rfl tySlice23 tyApp5 rfl rfl rfl rfl (by simp only [dOk_some, dOk_none, Nat.reduceLT]) (enc8_one _) (by unfold maxLen; omega) (by omega) (fun G hG => (hb.mono (hG.le G0 (by simp))).r)) (QOk_body _ _ _) rfl (by first | exact .inl rfl | exact .inr ⟨_, _, rfl, rfl⟩) (by intro _ hK; first | (obtain ⟨_, _, _, _, rfl⟩ := hK; exact ⟨rfl, fun _ h => h⟩) | (obtain ⟨_, _, rfl⟩ := hK; exact ⟨rfl, fun _ h => h⟩) | (obtain ⟨_, _, _, _, _, _, rfl⟩ := hK; exact ⟨rfl, fun _ h => List.mem_cons_of_mem _ h⟩) | (obtain ⟨_, _, _, _, _, _, _, rfl⟩ := hK; exact ⟨rfl, fun _ h => List.mem_cons_of_mem _ h⟩) | (obtain rfl := hK; exact ⟨rfl, fun _ h => h⟩)) ?_
      rintro _ ⟨A9, c9, rfl⟩
      simp only [List.cons_append, List.nil_append]
      simp only [go_sem, Nat.reduceAdd, Nat.reduceSub, Nat.reduceMul, Nat.reduceEqDiff, Nat.reduceLT, Nat.reduceLeDiff, Nat.reduceBEq, Nat.reduceBNe, Int.reduceLT, Int.reduceLE, Int.reduceEq, Int.reduceAdd, Int.reduceSub, Int.reduceNeg, decide_true, decide_false, Bool.not_true, Bool.not_false, cond_true, cond_false, beq_self_eq_true, and_self, ne_eq, not_true_eq_false, not_false_eq_true, reduceCtorEq, Bool.true_beq, Bool.false_beq]
      refine any_ok2 (N := 3000) (own_elem_does (id := 5) (m := k) rfl tySlice35 tySize104 rfl rfl (by simp only [dOk_some, dOk_none, Nat.reduceLT]) rfl hkl) (QOk_body _ _ _) rfl (by first | exact .inl rfl | exact .inr ⟨_, _, rfl, rfl⟩) (by intro _ hK; first | (obtain ⟨_, _, _, _, rfl⟩ := hK; exact ⟨rfl, fun _ h => h⟩) | (obtain ⟨_, _, rfl⟩ := hK; exact ⟨rfl, fun _ h => h⟩) | (obtain ⟨_, _, _, _, _, _, rfl⟩ := hK; exact ⟨rfl, fun _ h => List.mem_cons_of_mem _ h⟩) | (obtain ⟨_, _, _, _, _, _, _, rfl⟩ := hK; exact ⟨rfl, fun _ h => List.mem_cons_of_mem _ h⟩) | (obtain rfl := hK; exact ⟨rfl, fun _ h => h⟩)) ?_
      rintro _ rfl
      simp only [go_sem, Nat.reduceAdd, Nat.reduceSub, Nat.reduceMul, Nat.reduceEqDiff, Nat.reduceLT, Nat.reduceLeDiff, Nat.reduceBEq, Nat.reduceBNe, Int.reduceLT, Int.reduceLE, Int.reduceEq, Int.reduceAdd, Int.reduceSub, Int.reduceNeg, decide_true, decide_false, Bool.not_true, Bool.not_false, cond_true, cond_false, beq_self_eq_true, and_self, ne_eq, not_true_eq_false, not_false_eq_true, reduceCtorEq, Bool.true_beq, Bool.false_beq, List.length_map, Nat.add_zero, hl]
      refine read_ok (R1 := [_, _]) rfl fun G6 _ hs6 => ?_
      simp only [List.cons_append, List.nil_append]
      simp only [go_sem, Nat.reduceAdd, Nat.reduceSub, Nat.reduceMul, Nat.reduceEqDiff, Nat.reduceLT, Nat.reduceLeDiff, Nat.reduceBEq, Nat.reduceBNe, Int.reduceLT, Int.reduceLE, Int.reduceEq, Int.reduceAdd, Int.reduceSub, Int.reduceNeg, decide_true, decide_false, Bool.not_true, Bool.not_false, cond_true, cond_false, beq_self_eq_true, and_self, ne_eq, not_true_eq_false, not_false_eq_true, reduceCtorEq, Bool.true_beq, Bool.false_beq]
      refine blkRead_ok (B1 := []) rfl 3 d.vols.length c6 hcap' hmax (by simpa using hS0) id fun G7 _ hs7 => ?_
      simp only [go_sem, Nat.reduceAdd, Nat.reduceSub, Nat.reduceMul, Nat.reduceEqDiff, Nat.reduceLT, Nat.reduceLeDiff, Nat.reduceBEq, Nat.reduceBNe, Int.reduceLT, Int.reduceLE, Int.reduceEq, Int.reduceAdd, Int.reduceSub, Int.reduceNeg, decide_true, decide_false, Bool.not_true, Bool.not_false, cond_true, cond_false, beq_self_eq_true, and_self, ne_eq, not_true_eq_false, not_false_eq_true, reduceCtorEq, Bool.true_beq, Bool.false_beq]
      refine read_ok (R1 := []) rfl fun G8 _ hs8 => ?_
      simp only [go_sem, Nat.reduceAdd, Nat.reduceSub, Nat.reduceMul, Nat.reduceEqDiff, Nat.reduceLT, Nat.reduceLeDiff, Nat.reduceBEq, Nat.reduceBNe, Int.reduceLT, Int.reduceLE, Int.reduceEq, Int.reduceAdd, Int.reduceSub, Int.reduceNeg, decide_true, decide_false, Bool.not_true, Bool.not_false, cond_true, cond_false, beq_self_eq_true, and_self, ne_eq, not_true_eq_false, not_false_eq_true, reduceCtorEq, Bool.true_beq, Bool.false_beq]
      refine read_ok (R1 := []) rfl fun G9 _ hs9 => ?_
      simp only [go_sem, Nat.reduceAdd, Nat.reduceSub, Nat.reduceMul, Nat.reduceEqDiff, Nat.reduceLT, Nat.reduceLeDiff, Nat.reduceBEq, Nat.reduceBNe, Int.reduceLT, Int.reduceLE, Int.reduceEq, Int.reduceAdd, Int.reduceSub, Int.reduceNeg, decide_true, decide_false, Bool.not_true, Bool.not_false, cond_true, cond_false, beq_self_eq_true, and_self, ne_eq, not_true_eq_false, not_false_eq_true, reduceCtorEq, Bool.true_beq, Bool.false_beq]
      refine fin_ret (G := G0) Try.results29 ?_
      simp only [go_sem, Nat.reduceAdd, Nat.reduceSub, Nat.reduceMul, Nat.reduceEqDiff, Nat.reduceLT, Nat.reduceLeDiff, Nat.reduceBEq, Nat.reduceBNe, Int.reduceLT, Int.reduceLE, Int.reduceEq, Int.reduceAdd, Int.reduceSub, Int.reduceNeg, decide_true, decide_false, Bool.not_true, Bool.not_false, cond_true, cond_false, beq_self_eq_true, and_self, ne_eq, not_true_eq_false, not_false_eq_true, reduceCtorEq, Bool.true_beq, Bool.false_beq]
      intro a w' _ hl'
      have hap : appDev g d (k : Int) bs = { spent d with vols := d.vols.set k ⟨x.data ++ bs, x.synced, x.gone⟩ } := by simp [appDev, hf, hx]
      rw [hap]
      refine dev_ok he ⟨_, rfl, _, _, _, rfl, sq_row E1 rowG_mono (hl' G5 (by simp)) rfl (hs8.mono (hl' G8 (by simp))), sq_row E2 wrG_mono (hl' G5 (by simp)) rfl (hs9.mono (hl' G9 (by simp))), ?_⟩
      simp only [map_den_v] at hs7
      have hbf : ByG ⟨G0.M, w'⟩ (.slice A9 (x.data.length + bs.length) c9) (x.data ++ bs) := by
        have := Sl.mono hs6 (hl' G6 (by simp))
        show Sl _ _ 1 (x.data ++ bs).length _ ((x.data ++ bs).map enc8)
        rw [List.length_append, List.map_append]
        exact this
      have hP1 : PWk VolG 3 ⟨G0.M, w'⟩ (S.set (k * 3 + 0) (.slice A9 (x.data.length + bs.length) c9)) (d.vols.set k ⟨x.data ++ bs, x.synced, x.gone⟩) := by
        refine PWk.fill (fun j y hj hy => ?_) hkl (hcell k _ F3) rfl (by omega) ⟨_, rfl, hbf⟩
        have hjl : j < C3.length := by rw [F1]; exact (List.getElem?_eq_some_iff.1 hy).1
        exact ⟨C3[j], F2 _ (List.getElem_mem hjl), volG_mono _ _ _ _ (hl' G5 (by simp)) (F4 j _ y hj (List.getElem?_eq_getElem hjl) hy), hcell j _ (List.getElem?_eq_getElem hjl)⟩
      exact hP1.sq (t := 104) (n := d.vols.length) (by omega) (by simp) (hs7.mono (hl' G7 (by simp)))
end Go.Proofs.Ytomfladifefomaa
