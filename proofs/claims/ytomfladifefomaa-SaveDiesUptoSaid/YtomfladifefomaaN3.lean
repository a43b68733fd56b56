/- ring.unsuper, ring.frameOf, the bytes of a frame. Conditions: as each law states them. -/
import Derived.Test.YtomfladifefomaaN2
import Derived.Test.YtomfladifefomaaY1
import Derived.Test.YtomfladifefomaaY2
namespace Go.Proofs.Ytomfladifefomaa
open Go.RowKit
set_option linter.unusedSimpArgs false
section
variable {P : Program} {E : Env} {σ : St} {o : Oper}
/-- a cut, taken first -/
theorem take_cut {rec_ : Cmd → St → Prop} {dr : Dr} {q : Nat} {p : Plan} {t e k g o' : Nat} {x : Operand} {lo hi mx : Option Operand} {n c : Nat} (l n' c' : Nat) (ho : o.op = .slice t x lo hi mx) (ht : tSlice P t = some e) (hk : tSize P e = some k)
    (hx : ev σ x = some (.c (.v (.slice (some ⟨g, o', none⟩) n c)))) (hlo : cutArg σ lo 0 l) (hhi : cutArg σ hi n (l + n')) (hmx : cutArg σ mx c (l + c')) (hmh : mx.isSome = true → hi.isSome = true) (hd : dOk E o.dst) (h2 : n' ≤ c') (h3 : l + c' ≤ c) (h0 : 0 < c')
    (h : rec_ (dr.next q p) (σ.put o.dst (.c (.v (.slice (some ⟨g, o' + l * k, none⟩) n' c'))))) : TakeStop P E rec_ dr q p o σ := by
  refine ⟨.c (.v (.slice (some ⟨g, o' + l * k, none⟩) n' c')), hd, fun a w hr => ?_, h⟩
  obtain ⟨inf, hinf, hsz⟩ := tSize_spec hk
  have hx' : a.eval x = .slice (some ⟨g, o', none⟩) n c := ev_den hr hx
  have arg : ∀ (y : Option Operand) (d r : Nat), cutArg σ y d r → (y.map a.eval = none ∧ r = d) ∨ ∃ kk, y.map a.eval = some (.int kk (r : Int)) := by
    intro y d r h
    cases y with
    | none => exact .inl ⟨rfl, h⟩
    | some y =>
      obtain ⟨kk, j, hy, rfl⟩ := h
      exact .inr ⟨kk, congrArg some (ev_den hr hy)⟩
  have := run_cut (tSlice_spec ht) hinf w (some ⟨g, o', none⟩) n c l n' c' _ _ _ (run_bounds w n c l (l + n') (l + c') _ _ _ (arg lo 0 l hlo) (arg hi n (l + n') hhi) (arg mx c (l + c') hmx) (by simpa using hmh) (by omega) (by omega) h3)
  rw [hsz, if_neg (by omega), Option.map_some, Addr.add_mid] at this
  show (execOp a.eval o).run P w = .ok (.value (.slice (some ⟨g, o' + l * k, none⟩) n' c')) w
  unfold execOp
  simp only [ho, hx', Sem.run_bind, this, Result.andThen_ok, Sem.run_pure]
end
theorem byG_sub {G : GW} {g o n c : Nat} {b : List UInt8} (h : ByG G (.slice (some ⟨g, o, none⟩) n c) b) (l n' c' : Nat) (h1 : l + n' ≤ n) (h2 : n' ≤ c') (h3 : l + c' ≤ c) (h0 : 0 < c') : ByG G (.slice (some ⟨g, o + l * 1, none⟩) n' c') ((b.drop l).take n') := by
  have hn : b.length = n := by obtain ⟨_, _, e, _⟩ := h.form; cases e; rfl
  have hS : Sl G 5 1 n (.slice (some ⟨g, o, none⟩) n c) (b.map enc8) := by rw [← hn]; rw [← hn] at h; exact h
  have := hS.cut h1 h2 h3
  rw [if_neg (by omega), Option.map_some, Addr.add_mid] at this
  exact byG_cut this (by omega)
theorem byG_some {G : GW} {v : Value} {b : List UInt8} (h : ByG G v b) (hl : 0 < b.length) : ∃ g o c, v = .slice (some ⟨g, o, none⟩) b.length c ∧ b.length ≤ c ∧ c ≤ maxLen := by
  obtain ⟨A, c, e, h1, h2, _, h4⟩ := h
  obtain ⟨g, o, _, _, rfl, _⟩ := h4 (by omega)
  exact ⟨g, o, c, e, h1, h2⟩
set_option maxRecDepth 100000 in
set_option maxHeartbeats 16000000 in
theorem unsuper_does {g : Geo} (hg : GoodGeo g) {at_ : Int} {bv : Value} {b : List UInt8} (hl : b.length = 64) {G0 : GW} (hW : G0.Wf) (hb : ByG G0 bv b) :
    Calls Try.prog 90 #[geoV g, .int .i64 at_, bv] G0.w (Ret G0 fun v _ => v = .tuple #[jrV (fieldsJ b), .bool (supOk g at_ b)]) := by
  obtain ⟨gb, ob, c, rfl, hc1, hc2⟩ := byG_some hb (by omega)
  rw [hl] at hc1
  rw [hl] at hb
  refine enter (G := G0) (n := 46) 3000 hW Try.func90 rfl Try.ntmps90 (by simp) ?_
  rw [hl]
  have hb0 : ByG G0 (.slice (some ⟨gb, ob + 0 * 1, none⟩) 4 (c - 0)) ((b.drop 0).take 4) := byG_sub hb 0 4 (c - 0) (by omega) (by omega) (by omega) (by omega)
  have hb1 : ByG G0 (.slice (some ⟨gb, ob + 4 * 1, none⟩) 4 (c - 4)) ((b.drop 4).take 4) := byG_sub hb 4 4 (c - 4) (by omega) (by omega) (by omega) (by omega)
  have hb2 : ByG G0 (.slice (some ⟨gb, ob + 8 * 1, none⟩) 1 (c - 8)) ((b.drop 8).take 1) := byG_sub hb 8 1 (c - 8) (by omega) (by omega) (by omega) (by omega)
  have hb3 : ByG G0 (.slice (some ⟨gb, ob + 9 * 1, none⟩) 4 (c - 9)) ((b.drop 9).take 4) := byG_sub hb 9 4 (c - 9) (by omega) (by omega) (by omega) (by omega)
  have hb4 : ByG G0 (.slice (some ⟨gb, ob + 13 * 1, none⟩) 2 (c - 13)) ((b.drop 13).take 2) := byG_sub hb 13 2 (c - 13) (by omega) (by omega) (by omega) (by omega)
  have hb5 : ByG G0 (.slice (some ⟨gb, ob + 15 * 1, none⟩) 4 (c - 15)) ((b.drop 15).take 4) := byG_sub hb 15 4 (c - 15) (by omega) (by omega) (by omega) (by omega)
  have hbl : ∀ l n, ((b.drop l).take n).length ≤ n := fun l n => by rw [List.length_take]; exact Nat.min_le_left _ _
  simp only [go_sem, Nat.reduceAdd, Nat.reduceSub, Nat.reduceMul, Nat.reduceEqDiff, Nat.reduceLT, Nat.reduceLeDiff, Nat.reduceBEq, Nat.reduceBNe, Int.reduceLT, Int.reduceLE, Int.reduceEq, Int.reduceAdd, Int.reduceSub, Int.reduceNeg, reduceCtorEq, geoV]
  intro g1 g2
  refine cut_code2 (N := 3000) (ι := Nat)
    (fun g3 => ⟨[(1, .c (.v (.int .i64 at_))), (3, .c (.p 0 g1 0)), (6, .c (.p 1 g2 0)), (8, .c (.p 2 g3 0))],
      [⟨2, g3, 81, [.v (.int .i64 (valB (b.take 4))), .v (.int .i64 (valB ((b.drop 4).take 4))), .v (.int .i64 (valB ((b.drop 8).take 1))), .v (.int .i64 (valB ((b.drop 9).take 4))), .v (.int .i64 (valB ((b.drop 13).take 2))), .v (.int .i64 (valB ((b.drop 15).take 4))), .v (.int .i64 0), .v (.int .i64 0), .v (.int .i64 0)]⟩,
       ⟨1, g2, 81, [.v (.int .i64 0), .v (.int .i64 0), .v (.int .i64 0), .v (.int .i64 0), .v (.int .i64 0), .v (.int .i64 0), .v (.int .i64 0), .v (.int .i64 0), .v (.int .i64 0)]⟩, ⟨0, g1, 32, [.v (.int .i64 g.ring), .v (.int .i64 g.area), .v (.int .i64 g.hot), .v (.int .i64 g.volume), .v (.int .i64 g.volumes)]⟩], [], [], [G0], 3⟩)
    (fun _ => True) (QOk_body _ _ _) ?_ ?_
  rotate_left
  · intro k' J hk' hJ
    refine draw_ok (N := 3000) (.take 0 (.take 1 (.take 3 (.take 4 (.take 6 (.take 7 (.take 9 (.take 10 (.take 12 (.take 13 (.take 15 (.take 16 (.alt 2 (.alt 5 (.alt 8 (.alt 11 (.alt 14 (.alt 17 (.take 18 (.alt 19 (.alt 20 .done .last) .last)) (.alt 19 (.alt 17 (.take 18 (.alt 20 .done .last)) .last) .last)) (.alt 19 (.alt 14 (.alt 17 (.take 18 (.alt 20 .done .last)) .last) .last) .last)) (.alt 19 (.alt 11 (.alt 14 (.alt 17 (.take 18 (.alt 20 .done .last)) .last) .last) .last) .last)) (.alt 19 (.alt 8 (.alt 11 (.alt 14 (.alt 17 (.take 18 (.alt 20 .done .last)) .last) .last) .last) .last) .last)) (.alt 19 (.alt 5 (.alt 8 (.alt 11 (.alt 14 (.alt 17 (.take 18 (.alt 20 .done .last)) .last) .last) .last) .last) .last) .last)) (.alt 19 (.alt 2 (.alt 5 (.alt 8 (.alt 11 (.alt 14 (.alt 17 (.take 18 (.alt 20 .done .last)) .last) .last) .last) .last) .last) .last) .last)))))))))))))) [2] hk' follows_mixed (by kernel_rfl) (by kernel_rfl) ?_
    simp only [go_sem, Nat.reduceAdd, Nat.reduceSub, Nat.reduceMul, Nat.reduceEqDiff, Nat.reduceLT, Nat.reduceLeDiff, Nat.reduceBEq, Nat.reduceBNe, Int.reduceLT, Int.reduceLE, Int.reduceEq, Int.reduceAdd, Int.reduceSub, Int.reduceNeg, reduceCtorEq]
    refine take_cut 0 4 (c - 0) rfl tySlice23 tySize5 rfl rfl ⟨_, _, rfl, rfl⟩ (show 0 + (c - 0) = c from by omega) (by simp) (by simp only [dOk_some, dOk_none, Nat.reduceLT]) (by omega) (by omega) (by omega) ?_
    simp only [go_sem, Nat.reduceAdd, Nat.reduceSub, Nat.reduceMul, Nat.reduceEqDiff, Nat.reduceLT, Nat.reduceLeDiff, Nat.reduceBEq, Nat.reduceBNe, Int.reduceLT, Int.reduceLE, Int.reduceEq, Int.reduceAdd, Int.reduceSub, Int.reduceNeg, reduceCtorEq]
    refine take_cut 4 4 (c - 4) rfl tySlice23 tySize5 rfl ⟨_, _, rfl, rfl⟩ ⟨_, _, rfl, rfl⟩ (show 4 + (c - 4) = c from by omega) (by simp) (by simp only [dOk_some, dOk_none, Nat.reduceLT]) (by omega) (by omega) (by omega) ?_
    simp only [go_sem, Nat.reduceAdd, Nat.reduceSub, Nat.reduceMul, Nat.reduceEqDiff, Nat.reduceLT, Nat.reduceLeDiff, Nat.reduceBEq, Nat.reduceBNe, Int.reduceLT, Int.reduceLE, Int.reduceEq, Int.reduceAdd, Int.reduceSub, Int.reduceNeg, reduceCtorEq]
    refine take_cut 8 1 (c - 8) rfl tySlice23 tySize5 rfl ⟨_, _, rfl, rfl⟩ ⟨_, _, rfl, rfl⟩ (show 8 + (c - 8) = c from by omega) (by simp) (by simp only [dOk_some, dOk_none, Nat.reduceLT]) (by omega) (by omega) (by omega) ?_
    simp only [go_sem, Nat.reduceAdd, Nat.reduceSub, Nat.reduceMul, Nat.reduceEqDiff, Nat.reduceLT, Nat.reduceLeDiff, Nat.reduceBEq, Nat.reduceBNe, Int.reduceLT, Int.reduceLE, Int.reduceEq, Int.reduceAdd, Int.reduceSub, Int.reduceNeg, reduceCtorEq]
    refine take_cut 9 4 (c - 9) rfl tySlice23 tySize5 rfl ⟨_, _, rfl, rfl⟩ ⟨_, _, rfl, rfl⟩ (show 9 + (c - 9) = c from by omega) (by simp) (by simp only [dOk_some, dOk_none, Nat.reduceLT]) (by omega) (by omega) (by omega) ?_
    simp only [go_sem, Nat.reduceAdd, Nat.reduceSub, Nat.reduceMul, Nat.reduceEqDiff, Nat.reduceLT, Nat.reduceLeDiff, Nat.reduceBEq, Nat.reduceBNe, Int.reduceLT, Int.reduceLE, Int.reduceEq, Int.reduceAdd, Int.reduceSub, Int.reduceNeg, reduceCtorEq]
    refine take_cut 13 2 (c - 13) rfl tySlice23 tySize5 rfl ⟨_, _, rfl, rfl⟩ ⟨_, _, rfl, rfl⟩ (show 13 + (c - 13) = c from by omega) (by simp) (by simp only [dOk_some, dOk_none, Nat.reduceLT]) (by omega) (by omega) (by omega) ?_
    simp only [go_sem, Nat.reduceAdd, Nat.reduceSub, Nat.reduceMul, Nat.reduceEqDiff, Nat.reduceLT, Nat.reduceLeDiff, Nat.reduceBEq, Nat.reduceBNe, Int.reduceLT, Int.reduceLE, Int.reduceEq, Int.reduceAdd, Int.reduceSub, Int.reduceNeg, reduceCtorEq]
    refine take_cut 15 4 (c - 15) rfl tySlice23 tySize5 rfl ⟨_, _, rfl, rfl⟩ ⟨_, _, rfl, rfl⟩ (show 15 + (c - 15) = c from by omega) (by simp) (by simp only [dOk_some, dOk_none, Nat.reduceLT]) (by omega) (by omega) (by omega) ?_
    simp only [go_sem, Nat.reduceAdd, Nat.reduceSub, Nat.reduceMul, Nat.reduceEqDiff, Nat.reduceLT, Nat.reduceLeDiff, Nat.reduceBEq, Nat.reduceBNe, Int.reduceLT, Int.reduceLE, Int.reduceEq, Int.reduceAdd, Int.reduceSub, Int.reduceNeg, reduceCtorEq]
    refine ⟨?_, fun g3 => ?_⟩
    · refine anyc_ok (N := 3000) (call_does (fun v _ => v = .int .i64 (valB (b.take 4))) rfl rfl (by kernel_rfl) rfl (by simp only [dOk_some, dOk_none, Nat.reduceLT]) (fun G hG => value_does (b := (b.take 4)) (by have := hbl 0 4; rw [List.drop_zero] at this; omega) hG.wf (by have := hb0.mono (hG.le G0 (by simp)); rw [List.drop_zero] at this; exact this))) hk' rfl (by first | exact .inl rfl | exact .inr ⟨_, _, rfl, rfl⟩) ?_
      rintro _ ⟨_, G1, rfl, hn1, rfl⟩
      clear hn1
      simp only [go_sem, Nat.reduceAdd, Nat.reduceSub, Nat.reduceMul, Nat.reduceEqDiff, Nat.reduceLT, Nat.reduceLeDiff, Nat.reduceBEq, Nat.reduceBNe, Int.reduceLT, Int.reduceLE, Int.reduceEq, Int.reduceAdd, Int.reduceSub, Int.reduceNeg, reduceCtorEq]
      refine ⟨?_, fun g3 => ?_⟩
      · refine anyc_ok (N := 3000) (call_does (fun v _ => v = .int .i64 (valB ((b.drop 4).take 4))) rfl rfl (by kernel_rfl) rfl (by simp only [dOk_some, dOk_none, Nat.reduceLT]) (fun G hG => value_does (b := ((b.drop 4).take 4)) (by have := hbl 4 4; omega) hG.wf (hb1.mono (hG.le G0 (by simp))))) hk' rfl (by first | exact .inl rfl | exact .inr ⟨_, _, rfl, rfl⟩) ?_
        rintro _ ⟨_, G2, rfl, hn2, rfl⟩
        clear hn2
        simp only [go_sem, Nat.reduceAdd, Nat.reduceSub, Nat.reduceMul, Nat.reduceEqDiff, Nat.reduceLT, Nat.reduceLeDiff, Nat.reduceBEq, Nat.reduceBNe, Int.reduceLT, Int.reduceLE, Int.reduceEq, Int.reduceAdd, Int.reduceSub, Int.reduceNeg, reduceCtorEq]
        refine ⟨?_, fun g3 => ?_⟩
        · refine anyc_ok (N := 3000) (call_does (fun v _ => v = .int .i64 (valB ((b.drop 8).take 1))) rfl rfl (by kernel_rfl) rfl (by simp only [dOk_some, dOk_none, Nat.reduceLT]) (fun G hG => value_does (b := ((b.drop 8).take 1)) (by have := hbl 8 1; omega) hG.wf (hb2.mono (hG.le G0 (by simp))))) hk' rfl (by first | exact .inl rfl | exact .inr ⟨_, _, rfl, rfl⟩) ?_
          rintro _ ⟨_, G3, rfl, hn3, rfl⟩
          clear hn3
          simp only [go_sem, Nat.reduceAdd, Nat.reduceSub, Nat.reduceMul, Nat.reduceEqDiff, Nat.reduceLT, Nat.reduceLeDiff, Nat.reduceBEq, Nat.reduceBNe, Int.reduceLT, Int.reduceLE, Int.reduceEq, Int.reduceAdd, Int.reduceSub, Int.reduceNeg, reduceCtorEq]
          refine ⟨?_, fun g3 => ?_⟩
          · refine anyc_ok (N := 3000) (call_does (fun v _ => v = .int .i64 (valB ((b.drop 9).take 4))) rfl rfl (by kernel_rfl) rfl (by simp only [dOk_some, dOk_none, Nat.reduceLT]) (fun G hG => value_does (b := ((b.drop 9).take 4)) (by have := hbl 9 4; omega) hG.wf (hb3.mono (hG.le G0 (by simp))))) hk' rfl (by first | exact .inl rfl | exact .inr ⟨_, _, rfl, rfl⟩) ?_
            rintro _ ⟨_, G4, rfl, hn4, rfl⟩
            clear hn4
            simp only [go_sem, Nat.reduceAdd, Nat.reduceSub, Nat.reduceMul, Nat.reduceEqDiff, Nat.reduceLT, Nat.reduceLeDiff, Nat.reduceBEq, Nat.reduceBNe, Int.reduceLT, Int.reduceLE, Int.reduceEq, Int.reduceAdd, Int.reduceSub, Int.reduceNeg, reduceCtorEq]
            refine ⟨?_, fun g3 => ?_⟩
            · refine anyc_ok (N := 3000) (call_does (fun v _ => v = .int .i64 (valB ((b.drop 13).take 2))) rfl rfl (by kernel_rfl) rfl (by simp only [dOk_some, dOk_none, Nat.reduceLT]) (fun G hG => value_does (b := ((b.drop 13).take 2)) (by have := hbl 13 2; omega) hG.wf (hb4.mono (hG.le G0 (by simp))))) hk' rfl (by first | exact .inl rfl | exact .inr ⟨_, _, rfl, rfl⟩) ?_
              rintro _ ⟨_, G5, rfl, hn5, rfl⟩
              clear hn5
              simp only [go_sem, Nat.reduceAdd, Nat.reduceSub, Nat.reduceMul, Nat.reduceEqDiff, Nat.reduceLT, Nat.reduceLeDiff, Nat.reduceBEq, Nat.reduceBNe, Int.reduceLT, Int.reduceLE, Int.reduceEq, Int.reduceAdd, Int.reduceSub, Int.reduceNeg, reduceCtorEq]
              refine ⟨?_, fun g3 => ?_⟩
              · refine anyc_ok (N := 3000) (call_does (fun v _ => v = .int .i64 (valB ((b.drop 15).take 4))) rfl rfl (by kernel_rfl) rfl (by simp only [dOk_some, dOk_none, Nat.reduceLT]) (fun G hG => value_does (b := ((b.drop 15).take 4)) (by have := hbl 15 4; omega) hG.wf (hb5.mono (hG.le G0 (by simp))))) hk' rfl (by first | exact .inl rfl | exact .inr ⟨_, _, rfl, rfl⟩) ?_
                rintro _ ⟨_, G6, rfl, hn6, rfl⟩
                clear hn6
                simp only [go_sem, Nat.reduceAdd, Nat.reduceSub, Nat.reduceMul, Nat.reduceEqDiff, Nat.reduceLT, Nat.reduceLeDiff, Nat.reduceBEq, Nat.reduceBNe, Int.reduceLT, Int.reduceLE, Int.reduceEq, Int.reduceAdd, Int.reduceSub, Int.reduceNeg, reduceCtorEq]
                intro g3
                exact hJ g3 _ trivial (by simp only [go_sem, Nat.reduceAdd, Nat.reduceSub, Nat.reduceMul, Nat.reduceEqDiff, Nat.reduceLT, Nat.reduceLeDiff, Nat.reduceBEq, Nat.reduceBNe, Int.reduceLT, Int.reduceLE, Int.reduceEq, Int.reduceAdd, Int.reduceSub, Int.reduceNeg, reduceCtorEq]; simp)
              · refine anyc_ok (N := 3000) (call_does (fun v _ => v = .int .i64 (valB ((b.drop 15).take 4))) rfl rfl (by kernel_rfl) rfl (by simp only [dOk_some, dOk_none, Nat.reduceLT]) (fun G hG => value_does (b := ((b.drop 15).take 4)) (by have := hbl 15 4; omega) hG.wf (hb5.mono (hG.le G0 (by simp))))) hk' rfl (by first | exact .inl rfl | exact .inr ⟨_, _, rfl, rfl⟩) ?_
                rintro _ ⟨_, G6, rfl, hn6, rfl⟩
                clear hn6
                simp only [go_sem, Nat.reduceAdd, Nat.reduceSub, Nat.reduceMul, Nat.reduceEqDiff, Nat.reduceLT, Nat.reduceLeDiff, Nat.reduceBEq, Nat.reduceBNe, Int.reduceLT, Int.reduceLE, Int.reduceEq, Int.reduceAdd, Int.reduceSub, Int.reduceNeg, reduceCtorEq]
                exact hJ g3 _ trivial (by simp only [go_sem, Nat.reduceAdd, Nat.reduceSub, Nat.reduceMul, Nat.reduceEqDiff, Nat.reduceLT, Nat.reduceLeDiff, Nat.reduceBEq, Nat.reduceBNe, Int.reduceLT, Int.reduceLE, Int.reduceEq, Int.reduceAdd, Int.reduceSub, Int.reduceNeg, reduceCtorEq]; simp)
            · refine anyc_ok (N := 3000) (call_does (fun v _ => v = .int .i64 (valB ((b.drop 13).take 2))) rfl rfl (by kernel_rfl) rfl (by simp only [dOk_some, dOk_none, Nat.reduceLT]) (fun G hG => value_does (b := ((b.drop 13).take 2)) (by have := hbl 13 2; omega) hG.wf (hb4.mono (hG.le G0 (by simp))))) hk' rfl (by first | exact .inl rfl | exact .inr ⟨_, _, rfl, rfl⟩) ?_
              rintro _ ⟨_, G5, rfl, hn5, rfl⟩
              clear hn5
              simp only [go_sem, Nat.reduceAdd, Nat.reduceSub, Nat.reduceMul, Nat.reduceEqDiff, Nat.reduceLT, Nat.reduceLeDiff, Nat.reduceBEq, Nat.reduceBNe, Int.reduceLT, Int.reduceLE, Int.reduceEq, Int.reduceAdd, Int.reduceSub, Int.reduceNeg, reduceCtorEq]
              refine anyc_ok (N := 3000) (call_does (fun v _ => v = .int .i64 (valB ((b.drop 15).take 4))) rfl rfl (by kernel_rfl) rfl (by simp only [dOk_some, dOk_none, Nat.reduceLT]) (fun G hG => value_does (b := ((b.drop 15).take 4)) (by have := hbl 15 4; omega) hG.wf (hb5.mono (hG.le G0 (by simp))))) hk' rfl (by first | exact .inl rfl | exact .inr ⟨_, _, rfl, rfl⟩) ?_
              rintro _ ⟨_, G6, rfl, hn6, rfl⟩
              clear hn6
              simp only [go_sem, Nat.reduceAdd, Nat.reduceSub, Nat.reduceMul, Nat.reduceEqDiff, Nat.reduceLT, Nat.reduceLeDiff, Nat.reduceBEq, Nat.reduceBNe, Int.reduceLT, Int.reduceLE, Int.reduceEq, Int.reduceAdd, Int.reduceSub, Int.reduceNeg, reduceCtorEq]
              exact hJ g3 _ trivial (by simp only [go_sem, Nat.reduceAdd, Nat.reduceSub, Nat.reduceMul, Nat.reduceEqDiff, Nat.reduceLT, Nat.reduceLeDiff, Nat.reduceBEq, Nat.reduceBNe, Int.reduceLT, Int.reduceLE, Int.reduceEq, Int.reduceAdd, Int.reduceSub, Int.reduceNeg, reduceCtorEq]; simp)
          · refine anyc_ok (N := 3000) (call_does (fun v _ => v = .int .i64 (valB ((b.drop 9).take 4))) rfl rfl (by kernel_rfl) rfl (by simp only [dOk_some, dOk_none, Nat.reduceLT]) (fun G hG => value_does (b := ((b.drop 9).take 4)) (by have := hbl 9 4; omega) hG.wf (hb3.mono (hG.le G0 (by simp))))) hk' rfl (by first | exact .inl rfl | exact .inr ⟨_, _, rfl, rfl⟩) ?_
            rintro _ ⟨_, G4, rfl, hn4, rfl⟩
            clear hn4
            simp only [go_sem, Nat.reduceAdd, Nat.reduceSub, Nat.reduceMul, Nat.reduceEqDiff, Nat.reduceLT, Nat.reduceLeDiff, Nat.reduceBEq, Nat.reduceBNe, Int.reduceLT, Int.reduceLE, Int.reduceEq, Int.reduceAdd, Int.reduceSub, Int.reduceNeg, reduceCtorEq]
            refine anyc_ok (N := 3000) (call_does (fun v _ => v = .int .i64 (valB ((b.drop 13).take 2))) rfl rfl (by kernel_rfl) rfl (by simp only [dOk_some, dOk_none, Nat.reduceLT]) (fun G hG => value_does (b := ((b.drop 13).take 2)) (by have := hbl 13 2; omega) hG.wf (hb4.mono (hG.le G0 (by simp))))) hk' rfl (by first | exact .inl rfl | exact .inr ⟨_, _, rfl, rfl⟩) ?_
            rintro _ ⟨_, G5, rfl, hn5, rfl⟩
            clear hn5
            simp only [go_sem, Nat.reduceAdd, Nat.reduceSub, Nat.reduceMul, Nat.reduceEqDiff, Nat.reduceLT, Nat.reduceLeDiff, Nat.reduceBEq, Nat.reduceBNe, Int.reduceLT, Int.reduceLE, Int.reduceEq, Int.reduceAdd, Int.reduceSub, Int.reduceNeg, reduceCtorEq]
            refine anyc_ok (N := 3000) (call_does (fun v _ => v = .int .i64 (valB ((b.drop 15).take 4))) rfl rfl (by kernel_rfl) rfl (by simp only [dOk_some, dOk_none, Nat.reduceLT]) (fun G hG => value_does (b := ((b.drop 15).take 4)) (by have := hbl 15 4; omega) hG.wf (hb5.mono (hG.le G0 (by simp))))) hk' rfl (by first | exact .inl rfl | exact .inr ⟨_, _, rfl, rfl⟩) ?_
            rintro _ ⟨_, G6, rfl, hn6, rfl⟩
            clear hn6
            simp only [go_sem, Nat.reduceAdd, Nat.reduceSub, Nat.reduceMul, Nat.reduceEqDiff, Nat.reduceLT, Nat.reduceLeDiff, Nat.reduceBEq, Nat.reduceBNe, Int.reduceLT, Int.reduceLE, Int.reduceEq, Int.reduceAdd, Int.reduceSub, Int.reduceNeg, reduceCtorEq]
            exact hJ g3 _ trivial (by simp only [go_sem, Nat.reduceAdd, Nat.reduceSub, Nat.reduceMul, Nat.reduceEqDiff, Nat.reduceLT, Nat.reduceLeDiff, Nat.reduceBEq, Nat.reduceBNe, Int.reduceLT, Int.reduceLE, Int.reduceEq, Int.reduceAdd, Int.reduceSub, Int.reduceNeg, reduceCtorEq]; simp)
        · refine anyc_ok (N := 3000) (call_does (fun v _ => v = .int .i64 (valB ((b.drop 8).take 1))) rfl rfl (by kernel_rfl) rfl (by simp only [dOk_some, dOk_none, Nat.reduceLT]) (fun G hG => value_does (b := ((b.drop 8).take 1)) (by have := hbl 8 1; omega) hG.wf (hb2.mono (hG.le G0 (by simp))))) hk' rfl (by first | exact .inl rfl | exact .inr ⟨_, _, rfl, rfl⟩) ?_
          rintro _ ⟨_, G3, rfl, hn3, rfl⟩
          clear hn3
          simp only [go_sem, Nat.reduceAdd, Nat.reduceSub, Nat.reduceMul, Nat.reduceEqDiff, Nat.reduceLT, Nat.reduceLeDiff, Nat.reduceBEq, Nat.reduceBNe, Int.reduceLT, Int.reduceLE, Int.reduceEq, Int.reduceAdd, Int.reduceSub, Int.reduceNeg, reduceCtorEq]
          refine anyc_ok (N := 3000) (call_does (fun v _ => v = .int .i64 (valB ((b.drop 9).take 4))) rfl rfl (by kernel_rfl) rfl (by simp only [dOk_some, dOk_none, Nat.reduceLT]) (fun G hG => value_does (b := ((b.drop 9).take 4)) (by have := hbl 9 4; omega) hG.wf (hb3.mono (hG.le G0 (by simp))))) hk' rfl (by first | exact .inl rfl | exact .inr ⟨_, _, rfl, rfl⟩) ?_
          rintro _ ⟨_, G4, rfl, hn4, rfl⟩
          clear hn4
          simp only [go_sem, Nat.reduceAdd, Nat.reduceSub, Nat.reduceMul, Nat.reduceEqDiff, Nat.reduceLT, Nat.reduceLeDiff, Nat.reduceBEq, Nat.reduceBNe, Int.reduceLT, Int.reduceLE, Int.reduceEq, Int.reduceAdd, Int.reduceSub, Int.reduceNeg, reduceCtorEq]
          refine anyc_ok (N := 3000) (call_does (fun v _ => v = .int .i64 (valB ((b.drop 13).take 2))) rfl rfl (by kernel_rfl) rfl (by simp only [dOk_some, dOk_none, Nat.reduceLT]) (fun G hG => value_does (b := ((b.drop 13).take 2)) (by have := hbl 13 2; omega) hG.wf (hb4.mono (hG.le G0 (by simp))))) hk' rfl (by first | exact .inl rfl | exact .inr ⟨_, _, rfl, rfl⟩) ?_
          rintro _ ⟨_, G5, rfl, hn5, rfl⟩
          clear hn5
          simp only [go_sem, Nat.reduceAdd, Nat.reduceSub, Nat.reduceMul, Nat.reduceEqDiff, Nat.reduceLT, Nat.reduceLeDiff, Nat.reduceBEq, Nat.reduceBNe, Int.reduceLT, Int.reduceLE, Int.reduceEq, Int.reduceAdd, Int.reduceSub, Int.reduceNeg, reduceCtorEq]
          refine anyc_ok (N := 3000) (call_does (fun v _ => v = .int .i64 (valB ((b.drop 15).take 4))) rfl rfl (by kernel_rfl) rfl (by simp only [dOk_some, dOk_none, Nat.reduceLT]) (fun G hG => value_does (b := ((b.drop 15).take 4)) (by have := hbl 15 4; omega) hG.wf (hb5.mono (hG.le G0 (by simp))))) hk' rfl (by first | exact .inl rfl | exact .inr ⟨_, _, rfl, rfl⟩) ?_
          rintro _ ⟨_, G6, rfl, hn6, rfl⟩
          clear hn6
          simp only [go_sem, Nat.reduceAdd, Nat.reduceSub, Nat.reduceMul, Nat.reduceEqDiff, Nat.reduceLT, Nat.reduceLeDiff, Nat.reduceBEq, Nat.reduceBNe, Int.reduceLT, Int.reduceLE, Int.reduceEq, Int.reduceAdd, Int.reduceSub, Int.reduceNeg, reduceCtorEq]
          exact hJ g3 _ trivial (by simp only [go_sem, Nat.reduceAdd, Nat.reduceSub, Nat.reduceMul, Nat.reduceEqDiff, Nat.reduceLT, Nat.reduceLeDiff, Nat.reduceBEq, Nat.reduceBNe, Int.reduceLT, Int.reduceLE, Int.reduceEq, Int.reduceAdd, Int.reduceSub, Int.reduceNeg, reduceCtorEq]; simp)
      · refine anyc_ok (N := 3000) (call_does (fun v _ => v = .int .i64 (valB ((b.drop 4).take 4))) rfl rfl (by kernel_rfl) rfl (by simp only [dOk_some, dOk_none, Nat.reduceLT]) (fun G hG => value_does (b := ((b.drop 4).take 4)) (by have := hbl 4 4; omega) hG.wf (hb1.mono (hG.le G0 (by simp))))) hk' rfl (by first | exact .inl rfl | exact .inr ⟨_, _, rfl, rfl⟩) ?_
        rintro _ ⟨_, G2, rfl, hn2, rfl⟩
        clear hn2
        simp only [go_sem, Nat.reduceAdd, Nat.reduceSub, Nat.reduceMul, Nat.reduceEqDiff, Nat.reduceLT, Nat.reduceLeDiff, Nat.reduceBEq, Nat.reduceBNe, Int.reduceLT, Int.reduceLE, Int.reduceEq, Int.reduceAdd, Int.reduceSub, Int.reduceNeg, reduceCtorEq]
        refine anyc_ok (N := 3000) (call_does (fun v _ => v = .int .i64 (valB ((b.drop 8).take 1))) rfl rfl (by kernel_rfl) rfl (by simp only [dOk_some, dOk_none, Nat.reduceLT]) (fun G hG => value_does (b := ((b.drop 8).take 1)) (by have := hbl 8 1; omega) hG.wf (hb2.mono (hG.le G0 (by simp))))) hk' rfl (by first | exact .inl rfl | exact .inr ⟨_, _, rfl, rfl⟩) ?_
        rintro _ ⟨_, G3, rfl, hn3, rfl⟩
        clear hn3
        simp only [go_sem, Nat.reduceAdd, Nat.reduceSub, Nat.reduceMul, Nat.reduceEqDiff, Nat.reduceLT, Nat.reduceLeDiff, Nat.reduceBEq, Nat.reduceBNe, Int.reduceLT, Int.reduceLE, Int.reduceEq, Int.reduceAdd, Int.reduceSub, Int.reduceNeg, reduceCtorEq]
        refine anyc_ok (N := 3000) (call_does (fun v _ => v = .int .i64 (valB ((b.drop 9).take 4))) rfl rfl (by kernel_rfl) rfl (by simp only [dOk_some, dOk_none, Nat.reduceLT]) (fun G hG => value_does (b := ((b.drop 9).take 4)) (by have := hbl 9 4; omega) hG.wf (hb3.mono (hG.le G0 (by simp))))) hk' rfl (by first | exact .inl rfl | exact .inr ⟨_, _, rfl, rfl⟩) ?_
        rintro _ ⟨_, G4, rfl, hn4, rfl⟩
        clear hn4
        simp only [go_sem, Nat.reduceAdd, Nat.reduceSub, Nat.reduceMul, Nat.reduceEqDiff, Nat.reduceLT, Nat.reduceLeDiff, Nat.reduceBEq, Nat.reduceBNe, Int.reduceLT, Int.reduceLE, Int.reduceEq, Int.reduceAdd, Int.reduceSub, Int.reduceNeg, reduceCtorEq]
        refine anyc_ok (N := 3000) (call_does (fun v _ => v = .int .i64 (valB ((b.drop 13).take 2))) rfl rfl (by kernel_rfl) rfl (by simp only [dOk_some, dOk_none, Nat.reduceLT]) (fun G hG => value_does (b := ((b.drop 13).take 2)) (by have := hbl 13 2; omega) hG.wf (hb4.mono (hG.le G0 (by simp))))) hk' rfl (by first | exact .inl rfl | exact .inr ⟨_, _, rfl, rfl⟩) ?_
        rintro _ ⟨_, G5, rfl, hn5, rfl⟩
        clear hn5
        simp only [go_sem, Nat.reduceAdd, Nat.reduceSub, Nat.reduceMul, Nat.reduceEqDiff, Nat.reduceLT, Nat.reduceLeDiff, Nat.reduceBEq, Nat.reduceBNe, Int.reduceLT, Int.reduceLE, Int.reduceEq, Int.reduceAdd, Int.reduceSub, Int.reduceNeg, reduceCtorEq]
        refine anyc_ok (N := 3000) (call_does (fun v _ => v = .int .i64 (valB ((b.drop 15).take 4))) rfl rfl (by kernel_rfl) rfl (by simp only [dOk_some, dOk_none, Nat.reduceLT]) (fun G hG => value_does (b := ((b.drop 15).take 4)) (by have := hbl 15 4; omega) hG.wf (hb5.mono (hG.le G0 (by simp))))) hk' rfl (by first | exact .inl rfl | exact .inr ⟨_, _, rfl, rfl⟩) ?_
        rintro _ ⟨_, G6, rfl, hn6, rfl⟩
        clear hn6
        simp only [go_sem, Nat.reduceAdd, Nat.reduceSub, Nat.reduceMul, Nat.reduceEqDiff, Nat.reduceLT, Nat.reduceLeDiff, Nat.reduceBEq, Nat.reduceBNe, Int.reduceLT, Int.reduceLE, Int.reduceEq, Int.reduceAdd, Int.reduceSub, Int.reduceNeg, reduceCtorEq]
        exact hJ g3 _ trivial (by simp only [go_sem, Nat.reduceAdd, Nat.reduceSub, Nat.reduceMul, Nat.reduceEqDiff, Nat.reduceLT, Nat.reduceLeDiff, Nat.reduceBEq, Nat.reduceBNe, Int.reduceLT, Int.reduceLE, Int.reduceEq, Int.reduceAdd, Int.reduceSub, Int.reduceNeg, reduceCtorEq]; simp)
    · refine anyc_ok (N := 3000) (call_does (fun v _ => v = .int .i64 (valB (b.take 4))) rfl rfl (by kernel_rfl) rfl (by simp only [dOk_some, dOk_none, Nat.reduceLT]) (fun G hG => value_does (b := (b.take 4)) (by have := hbl 0 4; rw [List.drop_zero] at this; omega) hG.wf (by have := hb0.mono (hG.le G0 (by simp)); rw [List.drop_zero] at this; exact this))) hk' rfl (by first | exact .inl rfl | exact .inr ⟨_, _, rfl, rfl⟩) ?_
      rintro _ ⟨_, G1, rfl, hn1, rfl⟩
      clear hn1
      simp only [go_sem, Nat.reduceAdd, Nat.reduceSub, Nat.reduceMul, Nat.reduceEqDiff, Nat.reduceLT, Nat.reduceLeDiff, Nat.reduceBEq, Nat.reduceBNe, Int.reduceLT, Int.reduceLE, Int.reduceEq, Int.reduceAdd, Int.reduceSub, Int.reduceNeg, reduceCtorEq]
      refine anyc_ok (N := 3000) (call_does (fun v _ => v = .int .i64 (valB ((b.drop 4).take 4))) rfl rfl (by kernel_rfl) rfl (by simp only [dOk_some, dOk_none, Nat.reduceLT]) (fun G hG => value_does (b := ((b.drop 4).take 4)) (by have := hbl 4 4; omega) hG.wf (hb1.mono (hG.le G0 (by simp))))) hk' rfl (by first | exact .inl rfl | exact .inr ⟨_, _, rfl, rfl⟩) ?_
      rintro _ ⟨_, G2, rfl, hn2, rfl⟩
      clear hn2
      simp only [go_sem, Nat.reduceAdd, Nat.reduceSub, Nat.reduceMul, Nat.reduceEqDiff, Nat.reduceLT, Nat.reduceLeDiff, Nat.reduceBEq, Nat.reduceBNe, Int.reduceLT, Int.reduceLE, Int.reduceEq, Int.reduceAdd, Int.reduceSub, Int.reduceNeg, reduceCtorEq]
      refine anyc_ok (N := 3000) (call_does (fun v _ => v = .int .i64 (valB ((b.drop 8).take 1))) rfl rfl (by kernel_rfl) rfl (by simp only [dOk_some, dOk_none, Nat.reduceLT]) (fun G hG => value_does (b := ((b.drop 8).take 1)) (by have := hbl 8 1; omega) hG.wf (hb2.mono (hG.le G0 (by simp))))) hk' rfl (by first | exact .inl rfl | exact .inr ⟨_, _, rfl, rfl⟩) ?_
      rintro _ ⟨_, G3, rfl, hn3, rfl⟩
      clear hn3
      simp only [go_sem, Nat.reduceAdd, Nat.reduceSub, Nat.reduceMul, Nat.reduceEqDiff, Nat.reduceLT, Nat.reduceLeDiff, Nat.reduceBEq, Nat.reduceBNe, Int.reduceLT, Int.reduceLE, Int.reduceEq, Int.reduceAdd, Int.reduceSub, Int.reduceNeg, reduceCtorEq]
      refine anyc_ok (N := 3000) (call_does (fun v _ => v = .int .i64 (valB ((b.drop 9).take 4))) rfl rfl (by kernel_rfl) rfl (by simp only [dOk_some, dOk_none, Nat.reduceLT]) (fun G hG => value_does (b := ((b.drop 9).take 4)) (by have := hbl 9 4; omega) hG.wf (hb3.mono (hG.le G0 (by simp))))) hk' rfl (by first | exact .inl rfl | exact .inr ⟨_, _, rfl, rfl⟩) ?_
      rintro _ ⟨_, G4, rfl, hn4, rfl⟩
      clear hn4
      simp only [go_sem, Nat.reduceAdd, Nat.reduceSub, Nat.reduceMul, Nat.reduceEqDiff, Nat.reduceLT, Nat.reduceLeDiff, Nat.reduceBEq, Nat.reduceBNe, Int.reduceLT, Int.reduceLE, Int.reduceEq, Int.reduceAdd, Int.reduceSub, Int.reduceNeg, reduceCtorEq]
      refine anyc_ok (N := 3000) (call_does (fun v _ => v = .int .i64 (valB ((b.drop 13).take 2))) rfl rfl (by kernel_rfl) rfl (by simp only [dOk_some, dOk_none, Nat.reduceLT]) (fun G hG => value_does (b := ((b.drop 13).take 2)) (by have := hbl 13 2; omega) hG.wf (hb4.mono (hG.le G0 (by simp))))) hk' rfl (by first | exact .inl rfl | exact .inr ⟨_, _, rfl, rfl⟩) ?_
      rintro _ ⟨_, G5, rfl, hn5, rfl⟩
      clear hn5
      simp only [go_sem, Nat.reduceAdd, Nat.reduceSub, Nat.reduceMul, Nat.reduceEqDiff, Nat.reduceLT, Nat.reduceLeDiff, Nat.reduceBEq, Nat.reduceBNe, Int.reduceLT, Int.reduceLE, Int.reduceEq, Int.reduceAdd, Int.reduceSub, Int.reduceNeg, reduceCtorEq]
      refine anyc_ok (N := 3000) (call_does (fun v _ => v = .int .i64 (valB ((b.drop 15).take 4))) rfl rfl (by kernel_rfl) rfl (by simp only [dOk_some, dOk_none, Nat.reduceLT]) (fun G hG => value_does (b := ((b.drop 15).take 4)) (by have := hbl 15 4; omega) hG.wf (hb5.mono (hG.le G0 (by simp))))) hk' rfl (by first | exact .inl rfl | exact .inr ⟨_, _, rfl, rfl⟩) ?_
      rintro _ ⟨_, G6, rfl, hn6, rfl⟩
      clear hn6
      simp only [go_sem, Nat.reduceAdd, Nat.reduceSub, Nat.reduceMul, Nat.reduceEqDiff, Nat.reduceLT, Nat.reduceLeDiff, Nat.reduceBEq, Nat.reduceBNe, Int.reduceLT, Int.reduceLE, Int.reduceEq, Int.reduceAdd, Int.reduceSub, Int.reduceNeg, reduceCtorEq]
      exact hJ g3 _ trivial (by simp only [go_sem, Nat.reduceAdd, Nat.reduceSub, Nat.reduceMul, Nat.reduceEqDiff, Nat.reduceLT, Nat.reduceLeDiff, Nat.reduceBEq, Nat.reduceBNe, Int.reduceLT, Int.reduceLE, Int.reduceEq, Int.reduceAdd, Int.reduceSub, Int.reduceNeg, reduceCtorEq]; simp)
  rintro g3 _
  simp only [go_sem, Nat.reduceAdd, Nat.reduceSub, Nat.reduceMul, Nat.reduceEqDiff, Nat.reduceLT, Nat.reduceLeDiff, Nat.reduceBEq, Nat.reduceBNe, Int.reduceLT, Int.reduceLE, Int.reduceEq, Int.reduceAdd, Int.reduceSub, Int.reduceNeg, reduceCtorEq]
  refine draw_ok (N := 3000) (.take 0 (.take 1 (.take 2 (.alt 3 (.take 4 (.take 5 (.take 6 (.take 7 (.take 8 (.take 9 (.take 10 (.take 11 (.alt 12 (.take 13 .done) .last))))))))) .last)))) [1] (QOk_body _ _ _) follows_mixed (by kernel_rfl) (by kernel_rfl) ?_
  simp only [go_sem, Nat.reduceAdd, Nat.reduceSub, Nat.reduceMul, Nat.reduceEqDiff, Nat.reduceLT, Nat.reduceLeDiff, Nat.reduceBEq, Nat.reduceBNe, Int.reduceLT, Int.reduceLE, Int.reduceEq, Int.reduceAdd, Int.reduceSub, Int.reduceNeg, reduceCtorEq]
  refine anyc_ok (N := 3000) (call_does (fun v _ => v = .int .i64 (if okJ g (fieldsJ b) then 0 else 9)) rfl rfl (by kernel_rfl) rfl (by simp only [dOk_some, dOk_none, Nat.reduceLT]) (fun G hG => checkJ_does (j := fieldsJ b) hg hG.wf)) (QOk_body _ _ _) rfl (by first | exact .inl rfl | exact .inr ⟨_, _, rfl, rfl⟩) ?_
  rintro _ ⟨_, G8, rfl, hn8, rfl⟩
  clear hn8
  cases hok : okJ g (fieldsJ b) with
  | false =>
    have hno : supOk g at_ b = false := by unfold supOk; rw [hok]; rfl
    simp only [Bool.false_eq_true, if_false]
    simp only [go_sem, Nat.reduceAdd, Nat.reduceSub, Nat.reduceMul, Nat.reduceEqDiff, Nat.reduceLT, Nat.reduceLeDiff, Nat.reduceBEq, Nat.reduceBNe, Int.reduceLT, Int.reduceLE, Int.reduceEq, Int.reduceAdd, Int.reduceSub, Int.reduceNeg, reduceCtorEq]
    refine fin_ret (G := G0) Try.results90 ?_
    simp only [go_sem, Nat.reduceAdd, Nat.reduceSub, Nat.reduceMul, Nat.reduceEqDiff, Nat.reduceLT, Nat.reduceLeDiff, Nat.reduceBEq, Nat.reduceBNe, Int.reduceLT, Int.reduceLE, Int.reduceEq, Int.reduceAdd, Int.reduceSub, Int.reduceNeg, reduceCtorEq]
    intro aa w' _ _
    rw [hno]
    rfl
  | true =>
    have hgen : 1 ≤ valB (b.take 4) := (of_decide_eq_true hok).1
    simp only [if_true]
    simp only [go_sem, Nat.reduceAdd, Nat.reduceSub, Nat.reduceMul, Nat.reduceEqDiff, Nat.reduceLT, Nat.reduceLeDiff, Nat.reduceBEq, Nat.reduceBNe, Int.reduceLT, Int.reduceLE, Int.reduceEq, Int.reduceAdd, Int.reduceSub, Int.reduceNeg, reduceCtorEq]
    repeat (refine And.intro (by omega) ?_)
    refine fin_ret (G := G0) Try.results90 ?_
    simp only [go_sem, Nat.reduceAdd, Nat.reduceSub, Nat.reduceMul, Nat.reduceEqDiff, Nat.reduceLT, Nat.reduceLeDiff, Nat.reduceBEq, Nat.reduceBNe, Int.reduceLT, Int.reduceLE, Int.reduceEq, Int.reduceAdd, Int.reduceSub, Int.reduceNeg, reduceCtorEq]
    intro aa w' _ _
    have hyes : supOk g at_ b = decide (HMod.hMod (valB (b.take 4)) 2 = at_) := by unfold supOk; rw [hok]; rfl
    rw [hyes]
    rfl
end Go.Proofs.Ytomfladifefomaa
