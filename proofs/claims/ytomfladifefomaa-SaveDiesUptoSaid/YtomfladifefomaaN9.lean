/- ring.transaction. Conditions: as each law states them. -/
import Derived.Test.YtomfladifefomaaN8
namespace Go.Proofs.Ytomfladifefomaa
open Go.RowKit
set_option linter.unusedSimpArgs false
/-- what a transaction's reading answers -/
def TxG (r : Option (List UInt8 × Nat × Int)) (v : Value) (G : GW) : Prop :=
  (r = none ∧ v = .tuple #[.slice none 0 0, .int .i64 0, .int .i64 0, .bool false]) ∨
  (∃ b k e A c, r = some (b, k, e) ∧ v = .tuple #[.slice A b.length c, .int .i64 (k : Int), .int .i64 e, .bool true] ∧ ByG G (.slice A b.length c) b)
theorem fr_body_len {b : List UInt8} (h : frBad b = false) : (frOf b).body.length ≤ 52 := by
  unfold frBad at h
  simp only [Bool.or_eq_false_iff, decide_eq_false_iff_not] at h
  show ((b.drop 12).take (valB ((b.drop 10).take 2)).toNat).length ≤ 52
  rw [List.length_take]
  omega
theorem enc8_one' (l : List UInt8) : ∀ u ∈ l.map enc8, u.oneCell' = true := by
  intro u hu
  obtain ⟨x, _, rfl⟩ := List.mem_map.1 hu
  rfl
theorem ringAt_eq {g : Geo} (hg : GoodGeo g) (p : Int) : 2 + HMod.hMod p g.ring = (ringAt g p : Int) := by
  have := hg.r1
  have h0 := Int.emod_nonneg p (show g.ring ≠ 0 by omega)
  unfold ringAt
  omega
theorem ringAt_lt {g : Geo} (hg : GoodGeo g) {d : Dev} (hd : GoodDev g d) (p : Int) : ringAt g p < d.safe.length := by
  have := hg.r1; have := hg.a1; have := hg.h1
  have hs := hd.safe
  unfold sectorsOf at hs
  have h0 := Int.emod_nonneg p (show g.ring ≠ 0 by omega)
  have h1 := Int.emod_lt_of_pos p (show 0 < g.ring by omega)
  unfold ringAt
  omega
set_option maxRecDepth 100000 in
set_option maxHeartbeats 16000000 in
theorem transaction_does {g : Geo} (hg : GoodGeo g) {d : Dev} (hd : GoodDev g d) {place n low : Int} {room : Nat} (hp0 : 0 ≤ place) (hp1 : place ≤ 100) (hroom : room ≤ 60) {dv : Value} {G0 : GW} (hW : G0.Wf) (h : DevG G0 dv d) :
    Calls Try.prog 82 #[geoV g, dv, .int .i64 place, .int .i64 n, .int .i64 low, .int .i64 (room : Int)] G0.w (Ret G0 (TxG (txGo g (content d) place n low room 0 0 []))) := by
  have := hg.r1; have := hg.r2
  obtain ⟨A1, k1, A2, k2, A3, k3, rfl, hfo⟩ := h.form
  clear hfo
  refine enter (G := G0) (n := 92) 3000 hW Try.func82 rfl Try.ntmps82 (by simp) ?_
  simp only [go_sem, Nat.reduceAdd, Nat.reduceSub, Nat.reduceMul, Nat.reduceEqDiff, Nat.reduceLT, Nat.reduceLeDiff, Nat.reduceBEq, Nat.reduceBNe, Int.reduceLT, Int.reduceLE, Int.reduceEq, Int.reduceAdd, Int.reduceSub, Int.reduceNeg, reduceCtorEq, geoV]
  intro g1 g2
  refine row_ok 5 1 ?_
  obtain ⟨R0, hR0⟩ : ∃ R0, R0 = txGo g (content d) place n low room 0 0 [] := ⟨_, rfl⟩
  rw [← hR0]
  refine loop_ok (N := 3000) (ι := Nat × Int × (Option Addr × Nat) × List UInt8 × GW)
    (fun i => match i with | (v, ep, (A, c), out, G) => ⟨[(2, .c (.v (.int .i64 place))), (3, .c (.v (.int .i64 n))), (4, .c (.v (.int .i64 low))), (5, .c (.v (.int .i64 (room : Int)))), (6, .c (.p 0 g1 0)), (7, .c (.p 1 g2 0)), (16, .c (.v (.slice A out.length c))), (17, .c (.v (.int .i64 ep))), (18, .c (.v (.int .i64 (v : Int))))],
      [⟨1, g2, 37, [.v (.slice A1 d.safe.length k1), .v (.slice A2 d.cache.length k2), .v (.slice A3 d.vols.length k3), .v (.int .i64 d.fuel)]⟩, ⟨0, g1, 32, [.v (.int .i64 g.ring), .v (.int .i64 g.area), .v (.int .i64 g.hot), .v (.int .i64 g.volume), .v (.int .i64 g.volumes)]⟩], [⟨.slice A out.length c, 5, 1, out.length, out.map enc8⟩], [], [G, G0], 2⟩)
    (fun i => match i with | (v, ep, _, out, G) => v ≤ room ∧ R0 = txGo g (content d) place n low (room - v) v ep out ∧ out.length ≤ 52 * v ∧ DevG G (.agg #[.slice A1 d.safe.length k1, .slice A2 d.cache.length k2, .slice A3 d.vols.length k3, .int .i64 d.fuel]) d) (fun i => room - i.1) (QOk_body _ _ _) (0, 0, (none, 0), [], G0) ⟨by omega, hR0, by simp, h⟩ (by simp only [go_sem, Nat.reduceAdd, Nat.reduceSub, Nat.reduceMul, Nat.reduceEqDiff, Nat.reduceLT, Nat.reduceLeDiff, Nat.reduceBEq, Nat.reduceBNe, Int.reduceLT, Int.reduceLE, Int.reduceEq, Int.reduceAdd, Int.reduceSub, Int.reduceNeg, reduceCtorEq]; simp) ?_
  clear h hR0
  rintro ⟨v, ep, ⟨A, c⟩, out, G1⟩ ⟨hv, hR, hol, h⟩
  simp only
  by_cases hlt : v < room
  · have q1 : decide ((v : Int) < (room : Int)) = true := decide_eq_true (by omega)
    have er := ringAt_eq hg (place + (v : Int))
    have hlts := ringAt_lt hg hd (place + (v : Int))
    obtain ⟨f', hf'⟩ : ∃ f', room - v = f' + 1 := ⟨room - v - 1, by omega⟩
    rw [hf'] at hR
    unfold txGo at hR
    generalize hra : ringAt g (place + (v : Int)) = ra at *
    have hcl : (content d ra).length = 64 := val_len hd all_ ra hlts _
    have hm0 := Int.emod_nonneg (place + (v : Int)) (show g.ring ≠ 0 by omega)
    have hm1 := Int.emod_lt_of_pos (place + (v : Int)) (show 0 < g.ring by omega)
    simp only [go_sem, Nat.reduceAdd, Nat.reduceSub, Nat.reduceMul, Nat.reduceEqDiff, Nat.reduceLT, Nat.reduceLeDiff, Nat.reduceBEq, Nat.reduceBNe, Int.reduceLT, Int.reduceLE, Int.reduceEq, Int.reduceAdd, Int.reduceSub, Int.reduceNeg, reduceCtorEq, q1]
    refine draw_ok (N := 3000) (.take 0 (.take 1 (.take 2 (.take 3 (.take 4 (.take 5 (.take 6 (.take 7 (.take 8 (.alt 9 (.take 10 (.take 11 (.take 12 (.take 13 (.take 14 .done))))) .last)))))))))) [] (QOk_body _ _ _) follows_mixed (by kernel_rfl) (by kernel_rfl) ?_
    simp only [go_sem, Nat.reduceAdd, Nat.reduceSub, Nat.reduceMul, Nat.reduceEqDiff, Nat.reduceLT, Nat.reduceLeDiff, Nat.reduceBEq, Nat.reduceBNe, Int.reduceLT, Int.reduceLE, Int.reduceEq, Int.reduceAdd, Int.reduceSub, Int.reduceNeg, reduceCtorEq]
    refine ⟨by omega, by omega, by omega, ?_⟩
    rw [er]
    refine anyc_ok (N := 3000) (call_does (fun u G => ∃ A c, u = .tuple #[.slice A 64 c, .int .i64 0] ∧ ByG G (.slice A 64 c) (content d ra)) rfl rfl (by kernel_rfl) rfl (by simp only [dOk_some, dOk_none, Nat.reduceLT]) (fun G hG => get_ok hg hd hlts hG.wf (h.mono (hG.le G1 (by simp))))) (QOk_body _ _ _) rfl (by first | exact .inl rfl | exact .inr ⟨_, _, rfl, rfl⟩) ?_
    rintro _ ⟨_, G2, ⟨Ag, cg, rfl, hgot⟩, hn2, rfl⟩
    clear hn2
    simp only [go_sem, Nat.reduceAdd, Nat.reduceSub, Nat.reduceMul, Nat.reduceEqDiff, Nat.reduceLT, Nat.reduceLeDiff, Nat.reduceBEq, Nat.reduceBNe, Int.reduceLT, Int.reduceLE, Int.reduceEq, Int.reduceAdd, Int.reduceSub, Int.reduceNeg, reduceCtorEq]
    refine plain_ok (N := 3000) (call_does (fun u G => FrG (content d ra) u G) rfl rfl (by kernel_rfl) rfl (by simp only [dOk_some, dOk_none, Nat.reduceLT]) (fun G hG => frameOf_does hcl hG.wf (hgot.mono (hG.le G2 (by simp))))) (QOk_body _ _ _) (by first | exact .inl rfl | exact .inr ⟨_, _, rfl, rfl⟩) ?_
    rintro _ ⟨_, G3, hF, hn3, rfl⟩
    have hl13 : G1.Le G3 := hn3.le G1 (by simp)
    clear hn3
    rcases hF with ⟨hbad, rfl⟩ | ⟨hbad, Af, cf, rfl, hbf⟩
    · have hnone : R0 = none := by rw [hR, hbad]; rfl
      simp only [go_sem, Nat.reduceAdd, Nat.reduceSub, Nat.reduceMul, Nat.reduceEqDiff, Nat.reduceLT, Nat.reduceLeDiff, Nat.reduceBEq, Nat.reduceBNe, Int.reduceLT, Int.reduceLE, Int.reduceEq, Int.reduceAdd, Int.reduceSub, Int.reduceNeg, reduceCtorEq, zeroFr]
      intro g3
      refine wg_undef rfl rfl rfl rfl (by simp only [dOk_some, dOk_none, Nat.reduceLT]) (by exact QOk_body _ _ _) ?_
      simp only [go_sem, Nat.reduceAdd, Nat.reduceSub, Nat.reduceMul, Nat.reduceEqDiff, Nat.reduceLT, Nat.reduceLeDiff, Nat.reduceBEq, Nat.reduceBNe, Int.reduceLT, Int.reduceLE, Int.reduceEq, Int.reduceAdd, Int.reduceSub, Int.reduceNeg, reduceCtorEq]
      refine wg_undef rfl rfl rfl rfl (by simp only [dOk_some, dOk_none, Nat.reduceLT]) (by exact QOk_body _ _ _) ?_
      simp only [go_sem, Nat.reduceAdd, Nat.reduceSub, Nat.reduceMul, Nat.reduceEqDiff, Nat.reduceLT, Nat.reduceLeDiff, Nat.reduceBEq, Nat.reduceBNe, Int.reduceLT, Int.reduceLE, Int.reduceEq, Int.reduceAdd, Int.reduceSub, Int.reduceNeg, reduceCtorEq]
      refine wg_undef rfl rfl rfl rfl (by simp only [dOk_some, dOk_none, Nat.reduceLT]) (by exact QOk_body _ _ _) ?_
      simp only [go_sem, Nat.reduceAdd, Nat.reduceSub, Nat.reduceMul, Nat.reduceEqDiff, Nat.reduceLT, Nat.reduceLeDiff, Nat.reduceBEq, Nat.reduceBNe, Int.reduceLT, Int.reduceLE, Int.reduceEq, Int.reduceAdd, Int.reduceSub, Int.reduceNeg, reduceCtorEq]
      refine wg_undef rfl rfl rfl rfl (by simp only [dOk_some, dOk_none, Nat.reduceLT]) (by exact QOk_body _ _ _) ?_
      simp only [go_sem, Nat.reduceAdd, Nat.reduceSub, Nat.reduceMul, Nat.reduceEqDiff, Nat.reduceLT, Nat.reduceLeDiff, Nat.reduceBEq, Nat.reduceBNe, Int.reduceLT, Int.reduceLE, Int.reduceEq, Int.reduceAdd, Int.reduceSub, Int.reduceNeg, reduceCtorEq]
      refine wg_undef rfl rfl rfl rfl (by simp only [dOk_some, dOk_none, Nat.reduceLT]) (by exact QOk_body _ _ _) ?_
      simp only [go_sem, Nat.reduceAdd, Nat.reduceSub, Nat.reduceMul, Nat.reduceEqDiff, Nat.reduceLT, Nat.reduceLeDiff, Nat.reduceBEq, Nat.reduceBNe, Int.reduceLT, Int.reduceLE, Int.reduceEq, Int.reduceAdd, Int.reduceSub, Int.reduceNeg, reduceCtorEq]
      refine wg_undef rfl rfl rfl rfl (by simp only [dOk_some, dOk_none, Nat.reduceLT]) (by exact QOk_body _ _ _) ?_
      simp only [go_sem, Nat.reduceAdd, Nat.reduceSub, Nat.reduceMul, Nat.reduceEqDiff, Nat.reduceLT, Nat.reduceLeDiff, Nat.reduceBEq, Nat.reduceBNe, Int.reduceLT, Int.reduceLE, Int.reduceEq, Int.reduceAdd, Int.reduceSub, Int.reduceNeg, reduceCtorEq]
      refine wg_undef rfl rfl rfl rfl (by simp only [dOk_some, dOk_none, Nat.reduceLT]) (by exact QOk_body _ _ _) ?_
      simp only [go_sem, Nat.reduceAdd, Nat.reduceSub, Nat.reduceMul, Nat.reduceEqDiff, Nat.reduceLT, Nat.reduceLeDiff, Nat.reduceBEq, Nat.reduceBNe, Int.reduceLT, Int.reduceLE, Int.reduceEq, Int.reduceAdd, Int.reduceSub, Int.reduceNeg, reduceCtorEq]
      refine wg_undef rfl rfl rfl rfl (by simp only [dOk_some, dOk_none, Nat.reduceLT]) (by exact QOk_body _ _ _) ?_
      simp only [go_sem, Nat.reduceAdd, Nat.reduceSub, Nat.reduceMul, Nat.reduceEqDiff, Nat.reduceLT, Nat.reduceLeDiff, Nat.reduceBEq, Nat.reduceBNe, Int.reduceLT, Int.reduceLE, Int.reduceEq, Int.reduceAdd, Int.reduceSub, Int.reduceNeg, reduceCtorEq]
      refine fin_ret (G := G0) Try.results82 ?_
      simp only [go_sem, Nat.reduceAdd, Nat.reduceSub, Nat.reduceMul, Nat.reduceEqDiff, Nat.reduceLT, Nat.reduceLeDiff, Nat.reduceBEq, Nat.reduceBNe, Int.reduceLT, Int.reduceLE, Int.reduceEq, Int.reduceAdd, Int.reduceSub, Int.reduceNeg, reduceCtorEq]
      intro aa w' _ _
      exact .inl ⟨hnone, rfl⟩
    · have hfl := fr_body_len hbad
      rw [hbad] at hR
      rw [if_neg (by decide)] at hR
      generalize frOf (content d ra) = f at *
      by_cases c1 : f.number = n
      · have p1 : decide (f.number = n) = true := decide_eq_true c1
        by_cases c2 : f.index = (v : Int)
        · have p2 : decide (f.index = (v : Int)) = true := decide_eq_true c2
          by_cases hv0 : v = 0
          · have p7 : decide ((v : Int) = 0) = true := decide_eq_true (by omega)
            have p8 : decide (0 < (v : Int)) = false := decide_eq_false (by omega)
            by_cases c3 : f.epoch < low
            · have p3 : decide (f.epoch < low) = true := decide_eq_true c3
              have hnone : R0 = none := by rw [hR, if_pos (.inr (.inr (.inl ⟨hv0, c3⟩)))]
              simp only [go_sem, Nat.reduceAdd, Nat.reduceSub, Nat.reduceMul, Nat.reduceEqDiff, Nat.reduceLT, Nat.reduceLeDiff, Nat.reduceBEq, Nat.reduceBNe, Int.reduceLT, Int.reduceLE, Int.reduceEq, Int.reduceAdd, Int.reduceSub, Int.reduceNeg, reduceCtorEq, frV, p1, p2, p3, p7]
              intro g3
              refine wg_undef rfl rfl rfl rfl (by simp only [dOk_some, dOk_none, Nat.reduceLT]) (by exact QOk_body _ _ _) ?_
              simp only [go_sem, Nat.reduceAdd, Nat.reduceSub, Nat.reduceMul, Nat.reduceEqDiff, Nat.reduceLT, Nat.reduceLeDiff, Nat.reduceBEq, Nat.reduceBNe, Int.reduceLT, Int.reduceLE, Int.reduceEq, Int.reduceAdd, Int.reduceSub, Int.reduceNeg, reduceCtorEq]
              refine wg_undef rfl rfl rfl rfl (by simp only [dOk_some, dOk_none, Nat.reduceLT]) (by exact QOk_body _ _ _) ?_
              simp only [go_sem, Nat.reduceAdd, Nat.reduceSub, Nat.reduceMul, Nat.reduceEqDiff, Nat.reduceLT, Nat.reduceLeDiff, Nat.reduceBEq, Nat.reduceBNe, Int.reduceLT, Int.reduceLE, Int.reduceEq, Int.reduceAdd, Int.reduceSub, Int.reduceNeg, reduceCtorEq]
              refine wg_undef rfl rfl rfl rfl (by simp only [dOk_some, dOk_none, Nat.reduceLT]) (by exact QOk_body _ _ _) ?_
              simp only [go_sem, Nat.reduceAdd, Nat.reduceSub, Nat.reduceMul, Nat.reduceEqDiff, Nat.reduceLT, Nat.reduceLeDiff, Nat.reduceBEq, Nat.reduceBNe, Int.reduceLT, Int.reduceLE, Int.reduceEq, Int.reduceAdd, Int.reduceSub, Int.reduceNeg, reduceCtorEq]
              refine wg_undef rfl rfl rfl rfl (by simp only [dOk_some, dOk_none, Nat.reduceLT]) (by exact QOk_body _ _ _) ?_
              simp only [go_sem, Nat.reduceAdd, Nat.reduceSub, Nat.reduceMul, Nat.reduceEqDiff, Nat.reduceLT, Nat.reduceLeDiff, Nat.reduceBEq, Nat.reduceBNe, Int.reduceLT, Int.reduceLE, Int.reduceEq, Int.reduceAdd, Int.reduceSub, Int.reduceNeg, reduceCtorEq]
              refine fin_ret (G := G0) Try.results82 ?_
              simp only [go_sem, Nat.reduceAdd, Nat.reduceSub, Nat.reduceMul, Nat.reduceEqDiff, Nat.reduceLT, Nat.reduceLeDiff, Nat.reduceBEq, Nat.reduceBNe, Int.reduceLT, Int.reduceLE, Int.reduceEq, Int.reduceAdd, Int.reduceSub, Int.reduceNeg, reduceCtorEq]
              intro aa w' _ _
              exact .inl ⟨hnone, rfl⟩
            · have p3 : decide (f.epoch < low) = false := decide_eq_false c3
              have hcond : ¬ (f.number ≠ n ∨ f.index ≠ (v : Int) ∨ (v = 0 ∧ f.epoch < low) ∨ (0 < v ∧ f.epoch ≠ ep)) := by
                rintro (q | q | ⟨_, q⟩ | ⟨q, _⟩)
                · exact q c1
                · exact q c2
                · exact c3 q
                · omega
              simp only [go_sem, Nat.reduceAdd, Nat.reduceSub, Nat.reduceMul, Nat.reduceEqDiff, Nat.reduceLT, Nat.reduceLeDiff, Nat.reduceBEq, Nat.reduceBNe, Int.reduceLT, Int.reduceLE, Int.reduceEq, Int.reduceAdd, Int.reduceSub, Int.reduceNeg, reduceCtorEq, frV, p1, p2, p3, p7, p8]
              intro g3
              have hR : R0 = if f.last = true then some (out ++ f.body, v + 1, f.epoch) else txGo g (content d) place n low f' (v + 1) f.epoch (out ++ f.body) := by rw [hR, if_neg hcond]
              have hlen : (out ++ f.body).length = out.length + f.body.length := List.length_append
              refine plain_ok (N := 3000) (append_does (R1 := []) (m := f.body.length) (news := f.body.map enc8) rfl tySlice23 tyApp5 rfl rfl rfl rfl (by simp only [dOk_some, dOk_none, Nat.reduceLT]) (enc8_one' _) (by unfold maxLen; omega) (by omega) (fun G hG => (hbf.mono (hG.le G3 (by simp))).r)) (QOk_body _ _ _) (by first | exact .inl rfl | exact .inr ⟨_, _, rfl, rfl⟩) ?_
              rintro _ ⟨A9, c9, rfl⟩
              have eo : out.map enc8 ++ f.body.map enc8 = (out ++ f.body).map enc8 := List.map_append.symm
              rw [eo, ← hlen]
              cases hla : f.last with
              | true =>
                rw [if_pos hla] at hR
                simp only [go_sem, Nat.reduceAdd, Nat.reduceSub, Nat.reduceMul, Nat.reduceEqDiff, Nat.reduceLT, Nat.reduceLeDiff, Nat.reduceBEq, Nat.reduceBNe, Int.reduceLT, Int.reduceLE, Int.reduceEq, Int.reduceAdd, Int.reduceSub, Int.reduceNeg, reduceCtorEq, hla]
                refine ⟨by omega, ?_⟩
                refine read_ok (R1 := []) rfl fun G5 hle5 hs5 => ?_
                refine fin_ret (G := G0) Try.results82 ?_
                simp only [go_sem, Nat.reduceAdd, Nat.reduceSub, Nat.reduceMul, Nat.reduceEqDiff, Nat.reduceLT, Nat.reduceLeDiff, Nat.reduceBEq, Nat.reduceBNe, Int.reduceLT, Int.reduceLE, Int.reduceEq, Int.reduceAdd, Int.reduceSub, Int.reduceNeg, reduceCtorEq]
                intro aa w' _ hle
                refine .inr ⟨out ++ f.body, v + 1, f.epoch, A9, c9, hR, rfl, ?_⟩
                exact Sl.mono hs5 (hle G5 (by simp))
              | false =>
                rw [if_neg (by rw [hla]; decide)] at hR
                simp only [go_sem, Nat.reduceAdd, Nat.reduceSub, Nat.reduceMul, Nat.reduceEqDiff, Nat.reduceLT, Nat.reduceLeDiff, Nat.reduceBEq, Nat.reduceBNe, Int.reduceLT, Int.reduceLE, Int.reduceEq, Int.reduceAdd, Int.reduceSub, Int.reduceNeg, reduceCtorEq, hla]
                exact ⟨by omega, again_ok (v + 1, f.epoch, (A9, c9), out ++ f.body, G3) ⟨by omega, by rw [hR]; congr 1; omega, (show (out ++ f.body).length ≤ 52 * (v + 1) by omega), h.mono hl13⟩ (by simp only; omega) (by simp only [go_sem, Nat.reduceAdd, Nat.reduceSub, Nat.reduceMul, Nat.reduceEqDiff, Nat.reduceLT, Nat.reduceLeDiff, Nat.reduceBEq, Nat.reduceBNe, Int.reduceLT, Int.reduceLE, Int.reduceEq, Int.reduceAdd, Int.reduceSub, Int.reduceNeg, reduceCtorEq]; simp)⟩
          · have p4 : decide ((v : Int) = 0) = false := decide_eq_false (by omega)
            have p5 : decide (0 < (v : Int)) = true := decide_eq_true (by omega)
            by_cases c4 : f.epoch = ep
            · have p6 : decide (f.epoch = ep) = true := decide_eq_true c4
              have hcond : ¬ (f.number ≠ n ∨ f.index ≠ (v : Int) ∨ (v = 0 ∧ f.epoch < low) ∨ (0 < v ∧ f.epoch ≠ ep)) := by
                rintro (q | q | ⟨q, _⟩ | ⟨_, q⟩)
                · exact q c1
                · exact q c2
                · omega
                · exact q c4
              simp only [go_sem, Nat.reduceAdd, Nat.reduceSub, Nat.reduceMul, Nat.reduceEqDiff, Nat.reduceLT, Nat.reduceLeDiff, Nat.reduceBEq, Nat.reduceBNe, Int.reduceLT, Int.reduceLE, Int.reduceEq, Int.reduceAdd, Int.reduceSub, Int.reduceNeg, reduceCtorEq, frV, p1, p2, p4, p5, p6]
              intro g3
              have hR : R0 = if f.last = true then some (out ++ f.body, v + 1, f.epoch) else txGo g (content d) place n low f' (v + 1) f.epoch (out ++ f.body) := by rw [hR, if_neg hcond]
              have hlen : (out ++ f.body).length = out.length + f.body.length := List.length_append
              refine plain_ok (N := 3000) (append_does (R1 := []) (m := f.body.length) (news := f.body.map enc8) rfl tySlice23 tyApp5 rfl rfl rfl rfl (by simp only [dOk_some, dOk_none, Nat.reduceLT]) (enc8_one' _) (by unfold maxLen; omega) (by omega) (fun G hG => (hbf.mono (hG.le G3 (by simp))).r)) (QOk_body _ _ _) (by first | exact .inl rfl | exact .inr ⟨_, _, rfl, rfl⟩) ?_
              rintro _ ⟨A9, c9, rfl⟩
              have eo : out.map enc8 ++ f.body.map enc8 = (out ++ f.body).map enc8 := List.map_append.symm
              rw [eo, ← hlen]
              cases hla : f.last with
              | true =>
                rw [if_pos hla] at hR
                simp only [go_sem, Nat.reduceAdd, Nat.reduceSub, Nat.reduceMul, Nat.reduceEqDiff, Nat.reduceLT, Nat.reduceLeDiff, Nat.reduceBEq, Nat.reduceBNe, Int.reduceLT, Int.reduceLE, Int.reduceEq, Int.reduceAdd, Int.reduceSub, Int.reduceNeg, reduceCtorEq, hla]
                refine ⟨by omega, ?_⟩
                refine read_ok (R1 := []) rfl fun G5 hle5 hs5 => ?_
                refine fin_ret (G := G0) Try.results82 ?_
                simp only [go_sem, Nat.reduceAdd, Nat.reduceSub, Nat.reduceMul, Nat.reduceEqDiff, Nat.reduceLT, Nat.reduceLeDiff, Nat.reduceBEq, Nat.reduceBNe, Int.reduceLT, Int.reduceLE, Int.reduceEq, Int.reduceAdd, Int.reduceSub, Int.reduceNeg, reduceCtorEq]
                intro aa w' _ hle
                refine .inr ⟨out ++ f.body, v + 1, f.epoch, A9, c9, hR, rfl, ?_⟩
                exact Sl.mono hs5 (hle G5 (by simp))
              | false =>
                rw [if_neg (by rw [hla]; decide)] at hR
                simp only [go_sem, Nat.reduceAdd, Nat.reduceSub, Nat.reduceMul, Nat.reduceEqDiff, Nat.reduceLT, Nat.reduceLeDiff, Nat.reduceBEq, Nat.reduceBNe, Int.reduceLT, Int.reduceLE, Int.reduceEq, Int.reduceAdd, Int.reduceSub, Int.reduceNeg, reduceCtorEq, hla]
                exact ⟨by omega, again_ok (v + 1, f.epoch, (A9, c9), out ++ f.body, G3) ⟨by omega, by rw [hR]; congr 1; omega, (show (out ++ f.body).length ≤ 52 * (v + 1) by omega), h.mono hl13⟩ (by simp only; omega) (by simp only [go_sem, Nat.reduceAdd, Nat.reduceSub, Nat.reduceMul, Nat.reduceEqDiff, Nat.reduceLT, Nat.reduceLeDiff, Nat.reduceBEq, Nat.reduceBNe, Int.reduceLT, Int.reduceLE, Int.reduceEq, Int.reduceAdd, Int.reduceSub, Int.reduceNeg, reduceCtorEq]; simp)⟩
            · have p6 : decide (f.epoch = ep) = false := decide_eq_false c4
              have hnone : R0 = none := by rw [hR, if_pos (.inr (.inr (.inr ⟨by omega, c4⟩)))]
              simp only [go_sem, Nat.reduceAdd, Nat.reduceSub, Nat.reduceMul, Nat.reduceEqDiff, Nat.reduceLT, Nat.reduceLeDiff, Nat.reduceBEq, Nat.reduceBNe, Int.reduceLT, Int.reduceLE, Int.reduceEq, Int.reduceAdd, Int.reduceSub, Int.reduceNeg, reduceCtorEq, frV, p1, p2, p4, p5, p6]
              intro g3
              refine fin_ret (G := G0) Try.results82 ?_
              simp only [go_sem, Nat.reduceAdd, Nat.reduceSub, Nat.reduceMul, Nat.reduceEqDiff, Nat.reduceLT, Nat.reduceLeDiff, Nat.reduceBEq, Nat.reduceBNe, Int.reduceLT, Int.reduceLE, Int.reduceEq, Int.reduceAdd, Int.reduceSub, Int.reduceNeg, reduceCtorEq]
              intro aa w' _ _
              exact .inl ⟨hnone, rfl⟩
        · have p2 : decide (f.index = (v : Int)) = false := decide_eq_false c2
          have hnone : R0 = none := by rw [hR, if_pos (.inr (.inl c2))]
          simp only [go_sem, Nat.reduceAdd, Nat.reduceSub, Nat.reduceMul, Nat.reduceEqDiff, Nat.reduceLT, Nat.reduceLeDiff, Nat.reduceBEq, Nat.reduceBNe, Int.reduceLT, Int.reduceLE, Int.reduceEq, Int.reduceAdd, Int.reduceSub, Int.reduceNeg, reduceCtorEq, frV, p1, p2]
          intro g3
          refine wg_undef rfl rfl rfl rfl (by simp only [dOk_some, dOk_none, Nat.reduceLT]) (by exact QOk_body _ _ _) ?_
          simp only [go_sem, Nat.reduceAdd, Nat.reduceSub, Nat.reduceMul, Nat.reduceEqDiff, Nat.reduceLT, Nat.reduceLeDiff, Nat.reduceBEq, Nat.reduceBNe, Int.reduceLT, Int.reduceLE, Int.reduceEq, Int.reduceAdd, Int.reduceSub, Int.reduceNeg, reduceCtorEq]
          refine wg_undef rfl rfl rfl rfl (by simp only [dOk_some, dOk_none, Nat.reduceLT]) (by exact QOk_body _ _ _) ?_
          simp only [go_sem, Nat.reduceAdd, Nat.reduceSub, Nat.reduceMul, Nat.reduceEqDiff, Nat.reduceLT, Nat.reduceLeDiff, Nat.reduceBEq, Nat.reduceBNe, Int.reduceLT, Int.reduceLE, Int.reduceEq, Int.reduceAdd, Int.reduceSub, Int.reduceNeg, reduceCtorEq]
          refine wg_undef rfl rfl rfl rfl (by simp only [dOk_some, dOk_none, Nat.reduceLT]) (by exact QOk_body _ _ _) ?_
          simp only [go_sem, Nat.reduceAdd, Nat.reduceSub, Nat.reduceMul, Nat.reduceEqDiff, Nat.reduceLT, Nat.reduceLeDiff, Nat.reduceBEq, Nat.reduceBNe, Int.reduceLT, Int.reduceLE, Int.reduceEq, Int.reduceAdd, Int.reduceSub, Int.reduceNeg, reduceCtorEq]
          refine wg_undef rfl rfl rfl rfl (by simp only [dOk_some, dOk_none, Nat.reduceLT]) (by exact QOk_body _ _ _) ?_
          simp only [go_sem, Nat.reduceAdd, Nat.reduceSub, Nat.reduceMul, Nat.reduceEqDiff, Nat.reduceLT, Nat.reduceLeDiff, Nat.reduceBEq, Nat.reduceBNe, Int.reduceLT, Int.reduceLE, Int.reduceEq, Int.reduceAdd, Int.reduceSub, Int.reduceNeg, reduceCtorEq]
          refine wg_undef rfl rfl rfl rfl (by simp only [dOk_some, dOk_none, Nat.reduceLT]) (by exact QOk_body _ _ _) ?_
          simp only [go_sem, Nat.reduceAdd, Nat.reduceSub, Nat.reduceMul, Nat.reduceEqDiff, Nat.reduceLT, Nat.reduceLeDiff, Nat.reduceBEq, Nat.reduceBNe, Int.reduceLT, Int.reduceLE, Int.reduceEq, Int.reduceAdd, Int.reduceSub, Int.reduceNeg, reduceCtorEq]
          refine wg_undef rfl rfl rfl rfl (by simp only [dOk_some, dOk_none, Nat.reduceLT]) (by exact QOk_body _ _ _) ?_
          simp only [go_sem, Nat.reduceAdd, Nat.reduceSub, Nat.reduceMul, Nat.reduceEqDiff, Nat.reduceLT, Nat.reduceLeDiff, Nat.reduceBEq, Nat.reduceBNe, Int.reduceLT, Int.reduceLE, Int.reduceEq, Int.reduceAdd, Int.reduceSub, Int.reduceNeg, reduceCtorEq]
          refine wg_undef rfl rfl rfl rfl (by simp only [dOk_some, dOk_none, Nat.reduceLT]) (by exact QOk_body _ _ _) ?_
          simp only [go_sem, Nat.reduceAdd, Nat.reduceSub, Nat.reduceMul, Nat.reduceEqDiff, Nat.reduceLT, Nat.reduceLeDiff, Nat.reduceBEq, Nat.reduceBNe, Int.reduceLT, Int.reduceLE, Int.reduceEq, Int.reduceAdd, Int.reduceSub, Int.reduceNeg, reduceCtorEq]
          refine wg_undef rfl rfl rfl rfl (by simp only [dOk_some, dOk_none, Nat.reduceLT]) (by exact QOk_body _ _ _) ?_
          simp only [go_sem, Nat.reduceAdd, Nat.reduceSub, Nat.reduceMul, Nat.reduceEqDiff, Nat.reduceLT, Nat.reduceLeDiff, Nat.reduceBEq, Nat.reduceBNe, Int.reduceLT, Int.reduceLE, Int.reduceEq, Int.reduceAdd, Int.reduceSub, Int.reduceNeg, reduceCtorEq]
          refine fin_ret (G := G0) Try.results82 ?_
          simp only [go_sem, Nat.reduceAdd, Nat.reduceSub, Nat.reduceMul, Nat.reduceEqDiff, Nat.reduceLT, Nat.reduceLeDiff, Nat.reduceBEq, Nat.reduceBNe, Int.reduceLT, Int.reduceLE, Int.reduceEq, Int.reduceAdd, Int.reduceSub, Int.reduceNeg, reduceCtorEq]
          intro aa w' _ _
          exact .inl ⟨hnone, rfl⟩
      · have p1 : decide (f.number = n) = false := decide_eq_false c1
        have hnone : R0 = none := by rw [hR, if_pos (.inl c1)]
        simp only [go_sem, Nat.reduceAdd, Nat.reduceSub, Nat.reduceMul, Nat.reduceEqDiff, Nat.reduceLT, Nat.reduceLeDiff, Nat.reduceBEq, Nat.reduceBNe, Int.reduceLT, Int.reduceLE, Int.reduceEq, Int.reduceAdd, Int.reduceSub, Int.reduceNeg, reduceCtorEq, frV, p1]
        intro g3
        refine wg_undef rfl rfl rfl rfl (by simp only [dOk_some, dOk_none, Nat.reduceLT]) (by exact QOk_body _ _ _) ?_
        simp only [go_sem, Nat.reduceAdd, Nat.reduceSub, Nat.reduceMul, Nat.reduceEqDiff, Nat.reduceLT, Nat.reduceLeDiff, Nat.reduceBEq, Nat.reduceBNe, Int.reduceLT, Int.reduceLE, Int.reduceEq, Int.reduceAdd, Int.reduceSub, Int.reduceNeg, reduceCtorEq]
        refine wg_undef rfl rfl rfl rfl (by simp only [dOk_some, dOk_none, Nat.reduceLT]) (by exact QOk_body _ _ _) ?_
        simp only [go_sem, Nat.reduceAdd, Nat.reduceSub, Nat.reduceMul, Nat.reduceEqDiff, Nat.reduceLT, Nat.reduceLeDiff, Nat.reduceBEq, Nat.reduceBNe, Int.reduceLT, Int.reduceLE, Int.reduceEq, Int.reduceAdd, Int.reduceSub, Int.reduceNeg, reduceCtorEq]
        refine wg_undef rfl rfl rfl rfl (by simp only [dOk_some, dOk_none, Nat.reduceLT]) (by exact QOk_body _ _ _) ?_
        simp only [go_sem, Nat.reduceAdd, Nat.reduceSub, Nat.reduceMul, Nat.reduceEqDiff, Nat.reduceLT, Nat.reduceLeDiff, Nat.reduceBEq, Nat.reduceBNe, Int.reduceLT, Int.reduceLE, Int.reduceEq, Int.reduceAdd, Int.reduceSub, Int.reduceNeg, reduceCtorEq]
        refine wg_undef rfl rfl rfl rfl (by simp only [dOk_some, dOk_none, Nat.reduceLT]) (by exact QOk_body _ _ _) ?_
        simp only [go_sem, Nat.reduceAdd, Nat.reduceSub, Nat.reduceMul, Nat.reduceEqDiff, Nat.reduceLT, Nat.reduceLeDiff, Nat.reduceBEq, Nat.reduceBNe, Int.reduceLT, Int.reduceLE, Int.reduceEq, Int.reduceAdd, Int.reduceSub, Int.reduceNeg, reduceCtorEq]
        refine wg_undef rfl rfl rfl rfl (by simp only [dOk_some, dOk_none, Nat.reduceLT]) (by exact QOk_body _ _ _) ?_
        simp only [go_sem, Nat.reduceAdd, Nat.reduceSub, Nat.reduceMul, Nat.reduceEqDiff, Nat.reduceLT, Nat.reduceLeDiff, Nat.reduceBEq, Nat.reduceBNe, Int.reduceLT, Int.reduceLE, Int.reduceEq, Int.reduceAdd, Int.reduceSub, Int.reduceNeg, reduceCtorEq]
        refine wg_undef rfl rfl rfl rfl (by simp only [dOk_some, dOk_none, Nat.reduceLT]) (by exact QOk_body _ _ _) ?_
        simp only [go_sem, Nat.reduceAdd, Nat.reduceSub, Nat.reduceMul, Nat.reduceEqDiff, Nat.reduceLT, Nat.reduceLeDiff, Nat.reduceBEq, Nat.reduceBNe, Int.reduceLT, Int.reduceLE, Int.reduceEq, Int.reduceAdd, Int.reduceSub, Int.reduceNeg, reduceCtorEq]
        refine wg_undef rfl rfl rfl rfl (by simp only [dOk_some, dOk_none, Nat.reduceLT]) (by exact QOk_body _ _ _) ?_
        simp only [go_sem, Nat.reduceAdd, Nat.reduceSub, Nat.reduceMul, Nat.reduceEqDiff, Nat.reduceLT, Nat.reduceLeDiff, Nat.reduceBEq, Nat.reduceBNe, Int.reduceLT, Int.reduceLE, Int.reduceEq, Int.reduceAdd, Int.reduceSub, Int.reduceNeg, reduceCtorEq]
        refine wg_undef rfl rfl rfl rfl (by simp only [dOk_some, dOk_none, Nat.reduceLT]) (by exact QOk_body _ _ _) ?_
        simp only [go_sem, Nat.reduceAdd, Nat.reduceSub, Nat.reduceMul, Nat.reduceEqDiff, Nat.reduceLT, Nat.reduceLeDiff, Nat.reduceBEq, Nat.reduceBNe, Int.reduceLT, Int.reduceLE, Int.reduceEq, Int.reduceAdd, Int.reduceSub, Int.reduceNeg, reduceCtorEq]
        refine fin_ret (G := G0) Try.results82 ?_
        simp only [go_sem, Nat.reduceAdd, Nat.reduceSub, Nat.reduceMul, Nat.reduceEqDiff, Nat.reduceLT, Nat.reduceLeDiff, Nat.reduceBEq, Nat.reduceBNe, Int.reduceLT, Int.reduceLE, Int.reduceEq, Int.reduceAdd, Int.reduceSub, Int.reduceNeg, reduceCtorEq]
        intro aa w' _ _
        exact .inl ⟨hnone, rfl⟩
  · have q1 : decide ((v : Int) < (room : Int)) = false := decide_eq_false (by omega)
    have hnone : R0 = none := by rw [hR, show room - v = 0 by omega]; rfl
    simp only [go_sem, Nat.reduceAdd, Nat.reduceSub, Nat.reduceMul, Nat.reduceEqDiff, Nat.reduceLT, Nat.reduceLeDiff, Nat.reduceBEq, Nat.reduceBNe, Int.reduceLT, Int.reduceLE, Int.reduceEq, Int.reduceAdd, Int.reduceSub, Int.reduceNeg, reduceCtorEq, q1]
    refine fin_ret (G := G0) Try.results82 ?_
    simp only [go_sem, Nat.reduceAdd, Nat.reduceSub, Nat.reduceMul, Nat.reduceEqDiff, Nat.reduceLT, Nat.reduceLeDiff, Nat.reduceBEq, Nat.reduceBNe, Int.reduceLT, Int.reduceLE, Int.reduceEq, Int.reduceAdd, Int.reduceSub, Int.reduceNeg, reduceCtorEq]
    intro aa w' _ _
    exact .inl ⟨hnone, rfl⟩
end Go.Proofs.Ytomfladifefomaa
