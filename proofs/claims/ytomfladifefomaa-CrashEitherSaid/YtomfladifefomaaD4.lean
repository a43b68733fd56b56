/- dev.Mark, over devices that may be: a total contract. Conditions: as each law states them. -/
import Derived.Test.YtomfladifefomaaD3
import Derived.Test.YtomfladifefomaaSm
namespace Go.Proofs.Ytomfladifefomaa
open Go.RowKit
set_option linter.unusedSimpArgs false
def marked (x : Vol) : Vol := ⟨x.data, (x.data.length : Int), x.gone⟩
theorem volk {G : GW} {S : List Value} {l : List Vol} {j : Nat} {x : Vol} (h : PWk VolG 3 G S l) (hx : l[j]? = some x) : ∃ A c, S[j * 3]? = some (.slice A x.data.length c) ∧ S[j * 3 + 1]? = some (.int .i64 x.synced) ∧ S[j * 3 + 2]? = some (.bool x.gone) ∧ ByG G (.slice A x.data.length c) x.data := by
  obtain ⟨cs, h1, h2, h3⟩ := h j x hx
  obtain ⟨A, c, rfl, hb⟩ := volcells h2
  exact ⟨A, c, h3 0 _ rfl, h3 1 _ rfl, h3 2 _ rfl, hb⟩
theorem volk_len {G : GW} {S : List Value} {l : List Vol} {j : Nat} {x : Vol} (h : PWk VolG 3 G S l) (hx : l[j]? = some x) : j * 3 + 3 ≤ S.length := by
  obtain ⟨_, _, _, _, h3, _⟩ := volk h hx
  have := (List.getElem?_eq_some_iff.1 h3).1
  omega
theorem volk_sync {G : GW} {S : List Value} {l : List Vol} {j : Nat} {x : Vol} (h : PWk VolG 3 G S l) (hx : l[j]? = some x) (n : Int) : PWk VolG 3 G (S.set (j * 3 + 1) (.int .i64 n)) (l.set j ⟨x.data, n, x.gone⟩) :=
  h.set_ (i := 1) hx (by omega) fun cs _ ⟨u, e, hb⟩ _ => ⟨u, by rw [e]; rfl, hb⟩
theorem volk_data {G : GW} {S : List Value} {l : List Vol} {j : Nat} {x : Vol} (h : PWk VolG 3 G S l) (hx : l[j]? = some x) {u : Value} {bs : List UInt8} (hu : ByG G u bs) : PWk VolG 3 G (S.set (j * 3) u) (l.set j ⟨bs, x.synced, x.gone⟩) :=
  h.set_ (i := 0) hx (by omega) fun cs _ ⟨_, e, _⟩ _ => ⟨u, by rw [e]; rfl, hu⟩
set_option maxRecDepth 100000 in
set_option maxHeartbeats 4000000 in
theorem mark_does {g : Geo} (hg : GoodGeo g) {d : Dev} (hd : GoodDev g d) {dv : Value} {G0 : GW} (hW : G0.Wf) (hT : Tid bX G0) (h : DevG G0 dv d) :
    Calls Try.prog 32 #[geoV g, dv] G0.w (Ret G0 fun v G => DevE G v (downErr d) (markDev d)) := by
  obtain ⟨A1, k1, A2, k2, A3, k3, rfl, hs, hc, hv⟩ := h.form
  refine enter (G := G0) (n := 39) 3000 hW Try.func32 rfl Try.ntmps32 (by simp) ?_
  simp only [go_sem, Nat.reduceAdd, Nat.reduceSub, Nat.reduceMul, Nat.reduceEqDiff, Nat.reduceLT, Nat.reduceLeDiff, Nat.reduceBEq, Nat.reduceBNe, Int.reduceLT, Int.reduceLE, Int.reduceEq, Int.reduceAdd, Int.reduceSub, Int.reduceNeg, decide_true, decide_false, Bool.not_true, Bool.not_false, cond_true, cond_false, beq_self_eq_true, and_self, ne_eq, not_true_eq_false, not_false_eq_true, reduceCtorEq, Bool.true_beq, Bool.false_beq, geoV]
  intro g1 g2 g3
  by_cases e5 : d.fuel = 0
  · have he : downErr d = 10 := by unfold downErr; rw [if_pos e5]
    refine plain_ok (N := 3000) (call_does (fun v G => v = .tuple #[.agg #[.slice none 0 0, .slice none 0 0, .slice none 0 0, .int .i64 0], .int .i64 10]) rfl rfl (by kernel_rfl) rfl (by simp only [dOk_some, dOk_none, Nat.reduceLT]) (fun G hG => ret_of (spend_down g hg d hd e5 _ _ (h.mono (hG.le G0 (by simp))).r) fun _ _ ⟨he, hb⟩ => ⟨_, he, rfl, hb⟩)) (QOk_body _ _ _) (by first | exact .inl rfl | exact .inr ⟨_, _, rfl, rfl⟩) ?_
    rintro _ ⟨v, G2, rfl, hn2, rfl⟩
    clear hn2
    simp only [go_sem, Nat.reduceAdd, Nat.reduceSub, Nat.reduceMul, Nat.reduceEqDiff, Nat.reduceLT, Nat.reduceLeDiff, Nat.reduceBEq, Nat.reduceBNe, Int.reduceLT, Int.reduceLE, Int.reduceEq, Int.reduceAdd, Int.reduceSub, Int.reduceNeg, decide_true, decide_false, Bool.not_true, Bool.not_false, cond_true, cond_false, beq_self_eq_true, and_self, ne_eq, not_true_eq_false, not_false_eq_true, reduceCtorEq, Bool.true_beq, Bool.false_beq]
    intro g4
    refine fin_ret (G := G0) Try.results32 ?_
    simp only [go_sem, Nat.reduceAdd, Nat.reduceSub, Nat.reduceMul, Nat.reduceEqDiff, Nat.reduceLT, Nat.reduceLeDiff, Nat.reduceBEq, Nat.reduceBNe, Int.reduceLT, Int.reduceLE, Int.reduceEq, Int.reduceAdd, Int.reduceSub, Int.reduceNeg, decide_true, decide_false, Bool.not_true, Bool.not_false, cond_true, cond_false, beq_self_eq_true, and_self, ne_eq, not_true_eq_false, not_false_eq_true, reduceCtorEq, Bool.true_beq, Bool.false_beq]
    intro a w' _ _
    exact he.symm ▸ dev_err _ _ (by decide)
  have he : downErr d = 0 := by unfold downErr; rw [if_neg e5]
  refine plain_ok (N := 3000) (callO_does (fun v R G => ∃ u, v = .tuple #[u, .int .i64 0] ∧ OwnT (spent d) u R G) rfl rfl (by kernel_rfl) rfl (by simp only [dOk_some, dOk_none, Nat.reduceLT]) (fun G hG => spend_does g hg d hd e5 _ _ (h.mono (hG.le G0 (by simp))) (tidB hG (fun _ h => h) hT hW rfl rfl (by simp) (by simp; decide)) hG.wf)) (QOk_body _ _ _) (by first | exact .inl rfl | exact .inr ⟨_, _, rfl, rfl⟩) ?_
  rintro _ ⟨v, R, G2, ⟨u, rfl, A4, c4, A5, c5, A6, c6, C1, C2, C3, rfl, rfl, E1, E2, E3⟩, hn2, rfl⟩
  clear hn2
  simp only [List.cons_append, List.nil_append]
  simp only [go_sem, Nat.reduceAdd, Nat.reduceSub, Nat.reduceMul, Nat.reduceEqDiff, Nat.reduceLT, Nat.reduceLeDiff, Nat.reduceBEq, Nat.reduceBNe, Int.reduceLT, Int.reduceLE, Int.reduceEq, Int.reduceAdd, Int.reduceSub, Int.reduceNeg, decide_true, decide_false, Bool.not_true, Bool.not_false, cond_true, cond_false, beq_self_eq_true, and_self, ne_eq, not_true_eq_false, not_false_eq_true, reduceCtorEq, Bool.true_beq, Bool.false_beq]
  intro g4
  by_cases hn0 : 0 < d.vols.length
  · refine rowBlk_ok (R1 := [_, _]) (r := ⟨.slice A6 (spent d).vols.length c6, 104, 3, (spent d).vols.length, C3.flatten⟩) rfl hn0 fun gs cap S hAs hcap hmax hSl hS => ?_
    cases hAs
    have hP0 : PWk VolG 3 G2 S (setTo marked d.vols 0) := PWk.of (l := d.vols) E3 hS
    have hS0 : S.length = c6 * 3 := hSl
    have hcap' : d.vols.length ≤ c6 := hcap
    clear hS hSl hcap E3
    simp only [List.cons_append, List.nil_append]
    simp only [go_sem, Nat.reduceAdd, Nat.reduceSub, Nat.reduceMul, Nat.reduceEqDiff, Nat.reduceLT, Nat.reduceLeDiff, Nat.reduceBEq, Nat.reduceBNe, Int.reduceLT, Int.reduceLE, Int.reduceEq, Int.reduceAdd, Int.reduceSub, Int.reduceNeg, decide_true, decide_false, Bool.not_true, Bool.not_false, cond_true, cond_false, beq_self_eq_true, and_self, ne_eq, not_true_eq_false, not_false_eq_true, reduceCtorEq, Bool.true_beq, Bool.false_beq]
    refine loop_ok (N := 3000) (ι := Nat × List Value)
      (fun i => match i with | (v, S) => ⟨[(4, .c (.p 2 g3 0)), (6, .c (.p 3 g4 0)), (21, .c (.v (.int .i64 (d.vols.length : Int)))), (22, .c (.v (.int .i64 (v : Int))))],
        [⟨4, gs, 104, S.map .v⟩, ⟨3, g4, 37, [.v (.slice A4 d.safe.length c4), .v (.slice A5 d.cache.length c5), .v (.slice (some ⟨gs, 0, none⟩) d.vols.length c6), .v (.int .i64 (spent d).fuel)]⟩, ⟨2, g3, 37, [.v (.slice none 0 0), .v (.slice none 0 0), .v (.slice none 0 0), .v (.int .i64 0)]⟩],
        [⟨.slice A4 d.safe.length c4, 23, 1, d.safe.length, C1.flatten⟩, ⟨.slice A5 d.cache.length c5, 61, 2, d.cache.length, C2.flatten⟩], [], [G2], 5⟩)
      (fun i => match i with | (v, S) => v ≤ d.vols.length ∧ S.length = c6 * 3 ∧ PWk VolG 3 G2 S (setTo marked d.vols v))
      (fun i => d.vols.length - i.1) (QOk_body _ _ _) (0, S) ⟨by omega, hS0, hP0⟩ (by simp only [go_sem, Nat.reduceAdd, Nat.reduceSub, Nat.reduceMul, Nat.reduceEqDiff, Nat.reduceLT, Nat.reduceLeDiff, Nat.reduceBEq, Nat.reduceBNe, Int.reduceLT, Int.reduceLE, Int.reduceEq, Int.reduceAdd, Int.reduceSub, Int.reduceNeg, decide_true, decide_false, Bool.not_true, Bool.not_false, cond_true, cond_false, beq_self_eq_true, and_self, ne_eq, not_true_eq_false, not_false_eq_true, reduceCtorEq, Bool.true_beq, Bool.false_beq]; simp) ?_
    clear hS0 hP0 S
    rintro ⟨v, S⟩ ⟨hv, hS0, hP0⟩
    simp only
    simp only [go_sem, Nat.reduceAdd, Nat.reduceSub, Nat.reduceMul, Nat.reduceEqDiff, Nat.reduceLT, Nat.reduceLeDiff, Nat.reduceBEq, Nat.reduceBNe, Int.reduceLT, Int.reduceLE, Int.reduceEq, Int.reduceAdd, Int.reduceSub, Int.reduceNeg, decide_true, decide_false, Bool.not_true, Bool.not_false, cond_true, cond_false, beq_self_eq_true, and_self, ne_eq, not_true_eq_false, not_false_eq_true, reduceCtorEq, Bool.true_beq, Bool.false_beq]
    refine Wb_mk (fun hlt => ?_) (fun hge => ?_)
    · have hlt' : v < d.vols.length := by simpa using hlt
      obtain ⟨x, hx⟩ : ∃ x, d.vols[v]? = some x := ⟨_, List.getElem?_eq_getElem hlt'⟩
      have hx' : (setTo marked d.vols v)[v]? = some x := by rw [setTo_here]; exact hx
      obtain ⟨A7, c7, p0, p1, p2, hb⟩ := volk hP0 hx'
      have hl := volk_len hP0 hx'
      have hmany := hd.many
      have hn2 := hg.n2
      refine draw_ok (N := 3000) (.take 0 (.take 1 (.take 2 (.take 3 (.take 4 (.take 5 (.alt 6 (.take 7 (.alt 8 (.take 9 (.alt 10 (.take 11 (.alt 12 .done .last)) .last)) .last)) .last))))))) [4] (QOk_body _ _ _) follows_mixed (by kernel_rfl) (by kernel_rfl) ?_
      simp only [go_sem, Nat.reduceAdd, Nat.reduceSub, Nat.reduceMul, Nat.reduceEqDiff, Nat.reduceLT, Nat.reduceLeDiff, Nat.reduceBEq, Nat.reduceBNe, Int.reduceLT, Int.reduceLE, Int.reduceEq, Int.reduceAdd, Int.reduceSub, Int.reduceNeg, decide_true, decide_false, Bool.not_true, Bool.not_false, cond_true, cond_false, beq_self_eq_true, and_self, ne_eq, not_true_eq_false, not_false_eq_true, reduceCtorEq, Bool.true_beq, Bool.false_beq]
      refine any_ok2 (N := 3000) (own_elem_does (id := 4) (m := v) rfl tySlice35 tySize104 rfl rfl (by simp only [dOk_some, dOk_none, Nat.reduceLT]) rfl hlt') (QOk_body _ _ _) rfl (by first | exact .inl rfl | exact .inr ⟨_, _, rfl, rfl⟩) (by intro _ hK; first | (obtain ⟨_, _, _, _, rfl⟩ := hK; exact ⟨rfl, fun _ h => h⟩) | (obtain ⟨_, _, rfl⟩ := hK; exact ⟨rfl, fun _ h => h⟩) | (obtain ⟨_, _, _, _, _, _, rfl⟩ := hK; exact ⟨rfl, fun _ h => List.mem_cons_of_mem _ h⟩) | (obtain ⟨_, _, _, _, _, _, _, rfl⟩ := hK; exact ⟨rfl, fun _ h => List.mem_cons_of_mem _ h⟩) | (obtain rfl := hK; exact ⟨rfl, fun _ h => h⟩)) ?_
      rintro _ rfl
      simp only [go_sem, Nat.reduceAdd, Nat.reduceSub, Nat.reduceMul, Nat.reduceEqDiff, Nat.reduceLT, Nat.reduceLeDiff, Nat.reduceBEq, Nat.reduceBNe, Int.reduceLT, Int.reduceLE, Int.reduceEq, Int.reduceAdd, Int.reduceSub, Int.reduceNeg, decide_true, decide_false, Bool.not_true, Bool.not_false, cond_true, cond_false, beq_self_eq_true, and_self, ne_eq, not_true_eq_false, not_false_eq_true, reduceCtorEq, Bool.true_beq, Bool.false_beq, Nat.add_zero, List.getElem?_map, p0, Option.map_some]
      have hl2 : v * 3 + 1 + 1 ≤ S.length := by omega
      refine any_ok2 (N := 3000) (own_elem_does (id := 4) (m := v) rfl tySlice35 tySize104 rfl rfl (by simp only [dOk_some, dOk_none, Nat.reduceLT]) rfl hlt') (QOk_body _ _ _) rfl (by first | exact .inl rfl | exact .inr ⟨_, _, rfl, rfl⟩) (by intro _ hK; first | (obtain ⟨_, _, _, _, rfl⟩ := hK; exact ⟨rfl, fun _ h => h⟩) | (obtain ⟨_, _, rfl⟩ := hK; exact ⟨rfl, fun _ h => h⟩) | (obtain ⟨_, _, _, _, _, _, rfl⟩ := hK; exact ⟨rfl, fun _ h => List.mem_cons_of_mem _ h⟩) | (obtain ⟨_, _, _, _, _, _, _, rfl⟩ := hK; exact ⟨rfl, fun _ h => List.mem_cons_of_mem _ h⟩) | (obtain rfl := hK; exact ⟨rfl, fun _ h => h⟩)) ?_
      rintro _ rfl
      simp only [go_sem, Nat.reduceAdd, Nat.reduceSub, Nat.reduceMul, Nat.reduceEqDiff, Nat.reduceLT, Nat.reduceLeDiff, Nat.reduceBEq, Nat.reduceBNe, Int.reduceLT, Int.reduceLE, Int.reduceEq, Int.reduceAdd, Int.reduceSub, Int.reduceNeg, decide_true, decide_false, Bool.not_true, Bool.not_false, cond_true, cond_false, beq_self_eq_true, and_self, ne_eq, not_true_eq_false, not_false_eq_true, reduceCtorEq, Bool.true_beq, Bool.false_beq, List.length_map, hl2]
      refine ⟨by omega, again_ok (v + 1, S.set (v * 3 + 1) (.int .i64 (x.data.length : Int))) ⟨by omega, by simpa using hS0, ?_⟩ (by simp only; omega) (by simp only [go_sem, Nat.reduceAdd, Nat.reduceSub, Nat.reduceMul, Nat.reduceEqDiff, Nat.reduceLT, Nat.reduceLeDiff, Nat.reduceBEq, Nat.reduceBNe, Int.reduceLT, Int.reduceLE, Int.reduceEq, Int.reduceAdd, Int.reduceSub, Int.reduceNeg, decide_true, decide_false, Bool.not_true, Bool.not_false, cond_true, cond_false, beq_self_eq_true, and_self, ne_eq, not_true_eq_false, not_false_eq_true, reduceCtorEq, Bool.true_beq, Bool.false_beq]; simp)⟩
      rw [setTo_succ _ hx]
      exact volk_sync hP0 hx' _
    · have hv2 : v = d.vols.length := by simp at hge; omega
      subst hv2
      rw [setTo_all] at hP0
      refine blkRead_ok (B1 := []) rfl 3 d.vols.length c6 hcap' hmax (by simpa using hS0) id fun G5 hle5 hs5 => ?_
      clear hle5
      simp only [go_sem, Nat.reduceAdd, Nat.reduceSub, Nat.reduceMul, Nat.reduceEqDiff, Nat.reduceLT, Nat.reduceLeDiff, Nat.reduceBEq, Nat.reduceBNe, Int.reduceLT, Int.reduceLE, Int.reduceEq, Int.reduceAdd, Int.reduceSub, Int.reduceNeg, decide_true, decide_false, Bool.not_true, Bool.not_false, cond_true, cond_false, beq_self_eq_true, and_self, ne_eq, not_true_eq_false, not_false_eq_true, reduceCtorEq, Bool.true_beq, Bool.false_beq]
      refine read_ok (R1 := []) rfl fun G6 _ hs6 => ?_
      simp only [go_sem, Nat.reduceAdd, Nat.reduceSub, Nat.reduceMul, Nat.reduceEqDiff, Nat.reduceLT, Nat.reduceLeDiff, Nat.reduceBEq, Nat.reduceBNe, Int.reduceLT, Int.reduceLE, Int.reduceEq, Int.reduceAdd, Int.reduceSub, Int.reduceNeg, decide_true, decide_false, Bool.not_true, Bool.not_false, cond_true, cond_false, beq_self_eq_true, and_self, ne_eq, not_true_eq_false, not_false_eq_true, reduceCtorEq, Bool.true_beq, Bool.false_beq]
      refine read_ok (R1 := []) rfl fun G7 _ hs7 => ?_
      simp only [go_sem, Nat.reduceAdd, Nat.reduceSub, Nat.reduceMul, Nat.reduceEqDiff, Nat.reduceLT, Nat.reduceLeDiff, Nat.reduceBEq, Nat.reduceBNe, Int.reduceLT, Int.reduceLE, Int.reduceEq, Int.reduceAdd, Int.reduceSub, Int.reduceNeg, decide_true, decide_false, Bool.not_true, Bool.not_false, cond_true, cond_false, beq_self_eq_true, and_self, ne_eq, not_true_eq_false, not_false_eq_true, reduceCtorEq, Bool.true_beq, Bool.false_beq]
      refine fin_ret (G := G0) Try.results32 ?_
      simp only [go_sem, Nat.reduceAdd, Nat.reduceSub, Nat.reduceMul, Nat.reduceEqDiff, Nat.reduceLT, Nat.reduceLeDiff, Nat.reduceBEq, Nat.reduceBNe, Int.reduceLT, Int.reduceLE, Int.reduceEq, Int.reduceAdd, Int.reduceSub, Int.reduceNeg, decide_true, decide_false, Bool.not_true, Bool.not_false, cond_true, cond_false, beq_self_eq_true, and_self, ne_eq, not_true_eq_false, not_false_eq_true, reduceCtorEq, Bool.true_beq, Bool.false_beq]
      intro a w' _ hl
      refine dev_ok he ⟨_, rfl, _, _, _, rfl, sq_row E1 rowG_mono (hl G2 (by simp)) rfl (hs6.mono (hl G6 (by simp))), sq_row E2 wrG_mono (hl G2 (by simp)) rfl (hs7.mono (hl G7 (by simp))), ?_⟩
      simp only [map_den_v] at hs5
      exact (hP0.mono volG_mono (hl G2 (by simp))).sq (t := 104) (n := d.vols.length) (by omega) (by simp) (hs5.mono (hl G5 (by simp)))
  · have hn1 : d.vols = [] := List.eq_nil_of_length_eq_zero (by omega)
    have hlen : d.vols.length = 0 := by omega
    refine loop_ok (N := 3000) (ι := Unit)
      (fun _ => ⟨[(4, .c (.p 2 g3 0)), (6, .c (.p 3 g4 0)), (21, .c (.v (.int .i64 (d.vols.length : Int)))), (22, .c (.v (.int .i64 0)))],
        [⟨3, g4, 37, [.v (.slice A4 d.safe.length c4), .v (.slice A5 d.cache.length c5), .v (.slice A6 d.vols.length c6), .v (.int .i64 (spent d).fuel)]⟩, ⟨2, g3, 37, [.v (.slice none 0 0), .v (.slice none 0 0), .v (.slice none 0 0), .v (.int .i64 0)]⟩],
        [⟨.slice A4 d.safe.length c4, 23, 1, d.safe.length, C1.flatten⟩, ⟨.slice A5 d.cache.length c5, 61, 2, d.cache.length, C2.flatten⟩, ⟨.slice A6 d.vols.length c6, 104, 3, d.vols.length, C3.flatten⟩], [], [G2], 5⟩)
      (fun _ => True) (fun _ => 0) (QOk_body _ _ _) () trivial (by simp only [go_sem, Nat.reduceAdd, Nat.reduceSub, Nat.reduceMul, Nat.reduceEqDiff, Nat.reduceLT, Nat.reduceLeDiff, Nat.reduceBEq, Nat.reduceBNe, Int.reduceLT, Int.reduceLE, Int.reduceEq, Int.reduceAdd, Int.reduceSub, Int.reduceNeg, decide_true, decide_false, Bool.not_true, Bool.not_false, cond_true, cond_false, beq_self_eq_true, and_self, ne_eq, not_true_eq_false, not_false_eq_true, reduceCtorEq, Bool.true_beq, Bool.false_beq]; simp) ?_
    rintro _ _
    have q : decide ((0 : Int) < (d.vols.length : Int)) = false := by simp; omega
    simp only [go_sem, Nat.reduceAdd, Nat.reduceSub, Nat.reduceMul, Nat.reduceEqDiff, Nat.reduceLT, Nat.reduceLeDiff, Nat.reduceBEq, Nat.reduceBNe, Int.reduceLT, Int.reduceLE, Int.reduceEq, Int.reduceAdd, Int.reduceSub, Int.reduceNeg, decide_true, decide_false, Bool.not_true, Bool.not_false, cond_true, cond_false, beq_self_eq_true, and_self, ne_eq, not_true_eq_false, not_false_eq_true, reduceCtorEq, Bool.true_beq, Bool.false_beq, q]
    refine read_ok (R1 := []) rfl fun G6 _ hs6 => ?_
    simp only [go_sem, Nat.reduceAdd, Nat.reduceSub, Nat.reduceMul, Nat.reduceEqDiff, Nat.reduceLT, Nat.reduceLeDiff, Nat.reduceBEq, Nat.reduceBNe, Int.reduceLT, Int.reduceLE, Int.reduceEq, Int.reduceAdd, Int.reduceSub, Int.reduceNeg, decide_true, decide_false, Bool.not_true, Bool.not_false, cond_true, cond_false, beq_self_eq_true, and_self, ne_eq, not_true_eq_false, not_false_eq_true, reduceCtorEq, Bool.true_beq, Bool.false_beq]
    refine read_ok (R1 := []) rfl fun G7 _ hs7 => ?_
    simp only [go_sem, Nat.reduceAdd, Nat.reduceSub, Nat.reduceMul, Nat.reduceEqDiff, Nat.reduceLT, Nat.reduceLeDiff, Nat.reduceBEq, Nat.reduceBNe, Int.reduceLT, Int.reduceLE, Int.reduceEq, Int.reduceAdd, Int.reduceSub, Int.reduceNeg, decide_true, decide_false, Bool.not_true, Bool.not_false, cond_true, cond_false, beq_self_eq_true, and_self, ne_eq, not_true_eq_false, not_false_eq_true, reduceCtorEq, Bool.true_beq, Bool.false_beq]
    refine read_ok (R1 := []) rfl fun G8 _ hs8 => ?_
    simp only [go_sem, Nat.reduceAdd, Nat.reduceSub, Nat.reduceMul, Nat.reduceEqDiff, Nat.reduceLT, Nat.reduceLeDiff, Nat.reduceBEq, Nat.reduceBNe, Int.reduceLT, Int.reduceLE, Int.reduceEq, Int.reduceAdd, Int.reduceSub, Int.reduceNeg, decide_true, decide_false, Bool.not_true, Bool.not_false, cond_true, cond_false, beq_self_eq_true, and_self, ne_eq, not_true_eq_false, not_false_eq_true, reduceCtorEq, Bool.true_beq, Bool.false_beq]
    refine fin_ret (G := G0) Try.results32 ?_
    simp only [go_sem, Nat.reduceAdd, Nat.reduceSub, Nat.reduceMul, Nat.reduceEqDiff, Nat.reduceLT, Nat.reduceLeDiff, Nat.reduceBEq, Nat.reduceBNe, Int.reduceLT, Int.reduceLE, Int.reduceEq, Int.reduceAdd, Int.reduceSub, Int.reduceNeg, decide_true, decide_false, Bool.not_true, Bool.not_false, cond_true, cond_false, beq_self_eq_true, and_self, ne_eq, not_true_eq_false, not_false_eq_true, reduceCtorEq, Bool.true_beq, Bool.false_beq]
    intro a w' _ hl
    have hcut : markDev d = spent d := by simp [markDev, hn1, spent]
    rw [hcut]
    exact dev_ok he ⟨_, rfl, _, _, _, rfl, sq_row E1 rowG_mono (hl G2 (by simp)) rfl (hs6.mono (hl G6 (by simp))), sq_row E2 wrG_mono (hl G2 (by simp)) rfl (hs7.mono (hl G7 (by simp))), sq_row E3 volG_mono (hl G2 (by simp)) rfl (hs8.mono (hl G8 (by simp)))⟩
end Go.Proofs.Ytomfladifefomaa
