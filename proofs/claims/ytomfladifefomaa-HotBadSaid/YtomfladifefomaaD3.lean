/- 'icehousekeep.HotBad' returns true for every two ints. Conditions: none. -/
import Derived.Test.YtomfladifefomaaD2
import Derived.Test.YtomfladifefomaaH3
namespace Go.Proofs.Ytomfladifefomaa
open Go.RowKit
set_option linter.unusedSimpArgs false
theorem rm0 : roomB smallGeo [6] 10 = false := roomB_bad (j := 0) (by decide) (by rfl)
theorem rm1 {kk : Int} (h : 0 ≤ kk) : roomB smallGeo [-1 - kk] 10 = false := roomB_bad (j := 0) (by simp) (by
  show (!(decide (-1 - kk < 0) || decide (smallGeo.hot ≤ -1 - kk) || decide (-1 - kk ∈ [-1 - kk].take 0))) = false
  rw [decide_eq_true (by omega)]
  rfl)
theorem rm2 : roomB smallGeo [0, 0] 100 = false := roomB_bad (j := 1) (by decide) (by rfl)
theorem rm3 : roomB smallGeo [1, 2] 10 = false := roomB_no (by decide)
theorem rm4 : roomB smallGeo [] 1 = false := roomB_no (by decide)
theorem rm5 {kk : Int} (h : 0 ≤ kk) : roomB smallGeo [6 + kk] 64 = false := roomB_bad (j := 0) (by simp) (by
  show (!(decide (6 + kk < 0) || decide ((6 : Int) ≤ 6 + kk) || decide (6 + kk ∈ [6 + kk].take 0))) = false
  rw [decide_eq_true (show (6 : Int) ≤ 6 + kk by omega), Bool.or_true]
  rfl)
theorem ints_no (G : GW) : IntsG G (.slice none 0 0) [] := IntsG.of ⟨none, 0, rfl, Nat.le_refl _, Nat.zero_le _, rfl, fun h => absurd h (Nat.lt_irrefl _)⟩
theorem byG_rep {G : GW} {A : Option Addr} {n : Nat} (h : Sl G 5 1 n (.slice A n n) (List.replicate n (.int .u8 0))) : ByG G (.slice A n n) (List.replicate n 0) := by
  have e1 : (List.replicate n (0 : UInt8)).length = n := by simp
  have e2 : (List.replicate n (0 : UInt8)).map enc8 = List.replicate n (.int .u8 0) := by simp [enc8]
  show Sl G 5 1 (List.replicate n (0 : UInt8)).length (.slice A n n) ((List.replicate n (0 : UInt8)).map enc8)
  rw [e1, e2]
  exact h
theorem rmy : roomB smallGeo [] 0 = true := by decide
set_option maxRecDepth 100000 in
set_option maxHeartbeats 16000000 in
theorem hotBad_ret {w : World} (wh : Int) (w0 : (Lit.int .i64 wh).wf = true) (n : Int) (w1 : (Lit.int .i64 n).wf = true) :
    Calls Try.prog 11 #[.int .i64 wh, .int .i64 n] w (Ret ⟨Non, w⟩ fun v _ => v = .bool true) := by
  have i0 : i64 wh := i64_bd w0
  have i1 : i64 n := i64_bd w1
  have hml := max_le
  obtain ⟨i8, hif, hz0, hz1, hz2⟩ := info_parts infoU8
  have hz3 : (Value.int .u8 0).cells = #[Value.int .u8 0] := rfl
  refine enter (G := ⟨Non, w⟩) (n := 94) 3000 (wf_nonL w) Try.func11 rfl Try.ntmps11 (by simp) ?_
  simp only [go_sem, simprocAttr, decide_true, decide_false, Bool.not_true, Bool.not_false, cond_true, cond_false, beq_self_eq_true, and_self, ne_eq, not_true_eq_false, not_false_eq_true, reduceCtorEq, Bool.true_beq, Bool.false_beq]
  refine plain_ok (N := 3000) (call_does (fun v _ => v = .agg #[.int .i64 6, .int .i64 2, .int .i64 6, .int .i64 300, .int .i64 3]) rfl rfl (by kernel_rfl) rfl (by simp only [dOk_some, dOk_none, Nat.reduceLT]) (fun G hG => small_does G)) (QOk_body _ _ _) (by first | exact .inl rfl | exact .inr ⟨_, _, rfl, rfl⟩) ?_
  rintro _ ⟨_, G1, rfl, hn1, rfl⟩
  clear hn1
  simp only [go_sem, simprocAttr, decide_true, decide_false, Bool.not_true, Bool.not_false, cond_true, cond_false, beq_self_eq_true, and_self, ne_eq, not_true_eq_false, not_false_eq_true, reduceCtorEq, Bool.true_beq, Bool.false_beq]
  intro gg
  refine plain_ok (N := 3000) (call_does (fun v G => ∃ dv, v = .tuple #[dv, .int .i64 0] ∧ DevG G dv (newDev smallGeo)) rfl rfl (by kernel_rfl) rfl (by simp only [dOk_some, dOk_none, Nat.reduceLT]) (fun G hG => new_does smallGood hG.wf (tidL hG (by simp) (by simp; decide)))) (QOk_body _ _ _) (by first | exact .inl rfl | exact .inr ⟨_, _, rfl, rfl⟩) ?_
  rintro _ ⟨_, G2, ⟨dv, rfl, hd0⟩, hn2, rfl⟩
  clear hn2
  have hg0 := newGood smallGeo smallGood
  generalize newDev smallGeo = d0 at hd0 hg0
  obtain ⟨F1, f1, F2, f2, F3, f3, rfl, hfo⟩ := hd0.form
  clear hfo
  simp only [go_sem, simprocAttr, decide_true, decide_false, Bool.not_true, Bool.not_false, cond_true, cond_false, beq_self_eq_true, and_self, ne_eq, not_true_eq_false, not_false_eq_true, reduceCtorEq, Bool.true_beq, Bool.false_beq]
  intro gd
  obtain ⟨h0, h9⟩ := pick_bd n 9 (by omega)
  obtain ⟨kk, hkk⟩ : ∃ kk, kk = pick n 9 := ⟨_, rfl⟩
  rw [← hkk] at h0 h9
  refine cut_code2 (N := 3000) (ι := Nat × Nat × Nat × Nat × Nat × Nat × Nat) (fun x => match x with | (g2, g6, g7, g8, g9, g15, g16) => st wh n gg gd [.v (.slice F1 d0.safe.length f1), .v (.slice F2 d0.cache.length f2), .v (.slice F3 d0.vols.length f3), .v (.int .i64 d0.fuel)] w G2 [(8, .c (.s 16 g16 0 6 6))] [⟨10, g2, 3, [.v (.int .i64 6)]⟩, ⟨11, g6, 3, [.v (.int .i64 (-1 - kk))]⟩, ⟨12, g7, 3, [.v (.int .i64 0), .v (.int .i64 0)]⟩, ⟨13, g8, 3, [.v (.int .i64 1), .v (.int .i64 2)]⟩, ⟨14, g9, 3, []⟩, ⟨15, g15, 3, [.v (.int .i64 (6 + kk))]⟩, ⟨16, g16, 28, [.s 10 g2 0 1 1, .s 11 g6 0 1 1, .s 12 g7 0 2 2, .s 13 g8 0 2 2, .s 14 g9 0 0 0, .s 15 g15 0 1 1]⟩])
    (fun _ => True) (QOk_body _ _ _) ?_ ?_
  rotate_left
  · intro k' J hk' hJ
    refine draw_ok (N := 6) (.take 0 (.take 1 (.take 3 (.take 10 (.take 11 (.take 12 .last)))))) [] hk' follows_mixed (by kernel_rfl) (by kernel_rfl) ?_
    simp only [go_sem, simprocAttr, decide_true, decide_false, Bool.not_true, Bool.not_false, cond_true, cond_false, beq_self_eq_true, and_self, ne_eq, not_true_eq_false, not_false_eq_true, reduceCtorEq, Bool.true_beq, Bool.false_beq]
    exact any_sub' (hb_ hk' i1 hkk h0 h9 (fun g2 g6 g7 g8 g9 g15 g16 τ hs => hJ (g2, g6, g7, g8, g9, g15, g16) τ trivial hs)) (by kernel_rfl) (by simp only [go_sem, simprocAttr, decide_true, decide_false, Bool.not_true, Bool.not_false, cond_true, cond_false, beq_self_eq_true, and_self, ne_eq, not_true_eq_false, not_false_eq_true, reduceCtorEq, Bool.true_beq, Bool.false_beq, st, List.cons_append, List.nil_append]; simp)
  rintro ⟨g2, g6, g7, g8, g9, g15, g16⟩ _
  simp only [st, List.cons_append, List.nil_append]
  simp only [go_sem, simprocAttr, decide_true, decide_false, Bool.not_true, Bool.not_false, cond_true, cond_false, beq_self_eq_true, and_self, ne_eq, not_true_eq_false, not_false_eq_true, reduceCtorEq, Bool.true_beq, Bool.false_beq]
  intro g40
  refine plain_ok (N := 3000) (lenLit_does rfl tySlice70 rfl (by simp only [dOk_some, dOk_none, Nat.reduceLT])) (QOk_body _ _ _) (by first | exact .inl rfl | exact .inr ⟨_, _, rfl, rfl⟩) ?_
  rintro _ rfl
  simp only [go_sem, simprocAttr, decide_true, decide_false, Bool.not_true, Bool.not_false, cond_true, cond_false, beq_self_eq_true, and_self, ne_eq, not_true_eq_false, not_false_eq_true, reduceCtorEq, Bool.true_beq, Bool.false_beq]
  refine sub_ok (τ := ⟨[(43, .c (.v (.int .i64 6))), (41, .c (.v (.int .i64 wh))), (0, .c (.v (.int .i64 wh))), (7, .c (.v (.int .i64 0))), (5, .c (.p 0 gg 0)), (6, .c (.p 1 gd 0)), (8, .c (.s 16 g16 0 6 6)), (9, .c (.s 2 g40 0 6 6))], [⟨10, g2, 3, [.v (.int .i64 6)]⟩, ⟨11, g6, 3, [.v (.int .i64 (-1 - kk))]⟩, ⟨12, g7, 3, [.v (.int .i64 0), .v (.int .i64 0)]⟩, ⟨13, g8, 3, [.v (.int .i64 1), .v (.int .i64 2)]⟩, ⟨14, g9, 3, []⟩, ⟨15, g15, 3, [.v (.int .i64 (6 + kk))]⟩, ⟨16, g16, 28, [.s 10 g2 0 1 1, .s 11 g6 0 1 1, .s 12 g7 0 2 2, .s 13 g8 0 2 2, .s 14 g9 0 0 0, .s 15 g15 0 1 1]⟩, ⟨2, g40, 3, [.v (.int .i64 10), .v (.int .i64 10), .v (.int .i64 100), .v (.int .i64 10), .v (.int .i64 1), .v (.int .i64 64)]⟩, ⟨1, gd, 37, [.v (.slice F1 d0.safe.length f1), .v (.slice F2 d0.cache.length f2), .v (.slice F3 d0.vols.length f3), .v (.int .i64 d0.fuel)]⟩, ⟨0, gg, 32, [.v (.int .i64 6), .v (.int .i64 2), .v (.int .i64 6), .v (.int .i64 300), .v (.int .i64 3)]⟩], [], [], [G2, ⟨Non, w⟩], 3⟩) ?_ (by simp only [go_sem, simprocAttr, decide_true, decide_false, Bool.not_true, Bool.not_false, cond_true, cond_false, beq_self_eq_true, and_self, ne_eq, not_true_eq_false, not_false_eq_true, reduceCtorEq, Bool.true_beq, Bool.false_beq]; simp)
  refine same_ok (τ := ⟨[(43, .c (.v (.int .i64 6))), (41, .c (.v (.int .i64 wh))), (0, .c (.v (.int .i64 wh))), (7, .c (.v (.int .i64 0))), (5, .c (.p 0 gg 0)), (6, .c (.p 1 gd 0)), (8, .c (.s 16 g16 0 6 6)), (9, .c (.s 2 g40 0 6 6))], [⟨10, g2, 3, [.v (.int .i64 6)]⟩, ⟨11, g6, 3, [.v (.int .i64 (-1 - kk))]⟩, ⟨12, g7, 3, [.v (.int .i64 0), .v (.int .i64 0)]⟩, ⟨13, g8, 3, [.v (.int .i64 1), .v (.int .i64 2)]⟩, ⟨14, g9, 3, []⟩, ⟨15, g15, 3, [.v (.int .i64 (6 + kk))]⟩, ⟨16, g16, 28, [.v (.slice (some ⟨g2, 0, none⟩) 1 1), .v (.slice (some ⟨g6, 0, none⟩) 1 1), .v (.slice (some ⟨g7, 0, none⟩) 2 2), .v (.slice (some ⟨g8, 0, none⟩) 2 2), .v (.slice (some ⟨g9, 0, none⟩) 0 0), .v (.slice (some ⟨g15, 0, none⟩) 1 1)]⟩, ⟨2, g40, 3, [.v (.int .i64 10), .v (.int .i64 10), .v (.int .i64 100), .v (.int .i64 10), .v (.int .i64 1), .v (.int .i64 64)]⟩, ⟨1, gd, 37, [.v (.slice F1 d0.safe.length f1), .v (.slice F2 d0.cache.length f2), .v (.slice F3 d0.vols.length f3), .v (.int .i64 d0.fuel)]⟩, ⟨0, gg, 32, [.v (.int .i64 6), .v (.int .i64 2), .v (.int .i64 6), .v (.int .i64 300), .v (.int .i64 3)]⟩], [], [], [G2, ⟨Non, w⟩], 3⟩) ?_ (fun t v q => ⟨v, q, rfl⟩) rfl rfl rfl rfl
  refine blkRead_ok (B1 := []) (b := ⟨10, g2, 3, [.v (.int .i64 6)]⟩) rfl 1 1 1 (Nat.le_refl _) (by unfold maxLen; omega) rfl (fun q => q) (fun G10 hle10 hsl10 => ?_)
  have hi10 : IntsG G10 (.slice (some ⟨g2, 0, none⟩) 1 1) [6] := IntsG.of hsl10
  clear hle10 hsl10
  refine blkRead_ok (B1 := []) (b := ⟨11, g6, 3, [.v (.int .i64 (-1 - kk))]⟩) rfl 1 1 1 (Nat.le_refl _) (by unfold maxLen; omega) rfl (fun q => q) (fun G11 hle11 hsl11 => ?_)
  have hi11 : IntsG G11 (.slice (some ⟨g6, 0, none⟩) 1 1) [-1 - kk] := IntsG.of hsl11
  clear hle11 hsl11
  refine blkRead_ok (B1 := []) (b := ⟨12, g7, 3, [.v (.int .i64 0), .v (.int .i64 0)]⟩) rfl 1 2 2 (Nat.le_refl _) (by unfold maxLen; omega) rfl (fun q => q) (fun G12 hle12 hsl12 => ?_)
  have hi12 : IntsG G12 (.slice (some ⟨g7, 0, none⟩) 2 2) [0, 0] := IntsG.of hsl12
  clear hle12 hsl12
  refine blkRead_ok (B1 := []) (b := ⟨13, g8, 3, [.v (.int .i64 1), .v (.int .i64 2)]⟩) rfl 1 2 2 (Nat.le_refl _) (by unfold maxLen; omega) rfl (fun q => q) (fun G13 hle13 hsl13 => ?_)
  have hi13 : IntsG G13 (.slice (some ⟨g8, 0, none⟩) 2 2) [1, 2] := IntsG.of hsl13
  clear hle13 hsl13
  refine blkRead_ok (B1 := []) (b := ⟨14, g9, 3, []⟩) rfl 1 0 0 (Nat.le_refl _) (by unfold maxLen; omega) rfl (fun q => q) (fun G14 hle14 hsl14 => ?_)
  have hi14 : IntsG G14 (.slice (some ⟨g9, 0, none⟩) 0 0) [] := IntsG.of hsl14
  clear hle14 hsl14
  refine blkRead_ok (B1 := []) (b := ⟨15, g15, 3, [.v (.int .i64 (6 + kk))]⟩) rfl 1 1 1 (Nat.le_refl _) (by unfold maxLen; omega) rfl (fun q => q) (fun G15 hle15 hsl15 => ?_)
  have hi15 : IntsG G15 (.slice (some ⟨g15, 0, none⟩) 1 1) [6 + kk] := IntsG.of hsl15
  clear hle15 hsl15
  refine plain_ok (N := 3000) (call_does (fun v _ => ∃ i : Nat, i < 6 ∧ v = .int .i64 (i : Int)) rfl rfl (by kernel_rfl) rfl (by simp only [dOk_some, dOk_none, Nat.reduceLT]) (fun G hG => ret_mono (picked_does i0.1 i0.2 (by omega) (by omega)) fun v G' _ h => (by obtain ⟨i, _, h2, e⟩ := h; exact ⟨i, by omega, e⟩))) (QOk_body _ _ _) (by first | exact .inl rfl | exact .inr ⟨_, _, rfl, rfl⟩) ?_
  rintro _ ⟨_, G9, ⟨i, hi, rfl⟩, hn9, rfl⟩
  clear hn9
  obtain ⟨gi, ni, sz, li, hget1, hget2, hin, hrm, hs2⟩ : ∃ (gi ni sz : Nat) (li : List Int), ([.v (.slice (some ⟨g2, 0, none⟩) 1 1), .v (.slice (some ⟨g6, 0, none⟩) 1 1), .v (.slice (some ⟨g7, 0, none⟩) 2 2), .v (.slice (some ⟨g8, 0, none⟩) 2 2), .v (.slice (some ⟨g9, 0, none⟩) 0 0), .v (.slice (some ⟨g15, 0, none⟩) 1 1)] : List SC)[i]? = some (.v (.slice (some ⟨gi, 0, none⟩) ni ni)) ∧ ([.v (.int .i64 10), .v (.int .i64 10), .v (.int .i64 100), .v (.int .i64 10), .v (.int .i64 1), .v (.int .i64 64)] : List SC)[i]? = some (.v (.int .i64 (sz : Int))) ∧ (∀ G : GW, (∀ s ∈ [G15, G14, G13, G12, G11, G10], s.Le G) → IntsG G (.slice (some ⟨gi, 0, none⟩) ni ni) li) ∧ roomB smallGeo li (sz : Int) = false ∧ sz ≤ 100 := by
    obtain rfl | rfl | rfl | rfl | rfl | rfl : i = 0 ∨ i = 1 ∨ i = 2 ∨ i = 3 ∨ i = 4 ∨ i = 5 := by omega
    · exact ⟨g2, 1, 10, [6], rfl, rfl, fun G hG => hi10.mono (hG G10 (by simp)), rm0, by decide⟩
    · exact ⟨g6, 1, 10, [-1 - kk], rfl, rfl, fun G hG => hi11.mono (hG G11 (by simp)), rm1 h0, by decide⟩
    · exact ⟨g7, 2, 100, [0, 0], rfl, rfl, fun G hG => hi12.mono (hG G12 (by simp)), rm2, by decide⟩
    · exact ⟨g8, 2, 10, [1, 2], rfl, rfl, fun G hG => hi13.mono (hG G13 (by simp)), rm3, by decide⟩
    · exact ⟨g9, 0, 1, [], rfl, rfl, fun G hG => hi14.mono (hG G14 (by simp)), rm4, by decide⟩
    · exact ⟨g15, 1, 64, [6 + kk], rfl, rfl, fun G hG => hi15.mono (hG G15 (by simp)), rm5 h0, by decide⟩
  simp only [go_sem, simprocAttr, decide_true, decide_false, Bool.not_true, Bool.not_false, cond_true, cond_false, beq_self_eq_true, and_self, ne_eq, not_true_eq_false, not_false_eq_true, reduceCtorEq, Bool.true_beq, Bool.false_beq]
  refine cut_code2 (N := 3000) (ι := Unit) (fun _ => ⟨[(12, .c (.v (.int .i64 2))), (10, .c (.v (.int .i64 (i : Int)))), (7, .c (.v (.int .i64 0))), (5, .c (.p 0 gg 0)), (6, .c (.p 1 gd 0)), (8, .c (.s 16 g16 0 6 6)), (9, .c (.s 2 g40 0 6 6))], [⟨16, g16, 28, [.v (.slice (some ⟨g2, 0, none⟩) 1 1), .v (.slice (some ⟨g6, 0, none⟩) 1 1), .v (.slice (some ⟨g7, 0, none⟩) 2 2), .v (.slice (some ⟨g8, 0, none⟩) 2 2), .v (.slice (some ⟨g9, 0, none⟩) 0 0), .v (.slice (some ⟨g15, 0, none⟩) 1 1)]⟩, ⟨2, g40, 3, [.v (.int .i64 10), .v (.int .i64 10), .v (.int .i64 100), .v (.int .i64 10), .v (.int .i64 1), .v (.int .i64 64)]⟩, ⟨1, gd, 37, [.v (.slice F1 d0.safe.length f1), .v (.slice F2 d0.cache.length f2), .v (.slice F3 d0.vols.length f3), .v (.int .i64 d0.fuel)]⟩, ⟨0, gg, 32, [.v (.int .i64 6), .v (.int .i64 2), .v (.int .i64 6), .v (.int .i64 300), .v (.int .i64 3)]⟩], [], [], [G15, G14, G13, G12, G11, G10, G2, ⟨Non, w⟩], 3⟩)
    (fun _ => True) (QOk_body _ _ _) ?_ ?_
  rotate_left
  · intro k' J hk' hJ
    refine draw_ok (N := 3000) (.take 0 (.take 1 (.take 2 (.take 3 (.take 4 (.take 5 (.take 6 (.take 7 (.take 8 (.take 9 (.alt 10 (.alt 11 (.take 12 (.take 13 (.take 14 (.alt 15 (.alt 16 (.take 17 .done) .last) .last)))) (.alt 15 (.alt 11 (.take 12 (.take 13 (.take 14 (.alt 16 (.take 17 .done) .last)))) .last) .last)) (.alt 15 (.alt 10 (.alt 11 (.take 12 (.take 13 (.take 14 (.alt 16 (.take 17 .done) .last)))) .last) .last) .last)))))))))))) [] hk' follows_mixed (by kernel_rfl) (by kernel_rfl) ?_
    simp only [go_sem, simprocAttr, decide_true, decide_false, Bool.not_true, Bool.not_false, cond_true, cond_false, beq_self_eq_true, and_self, ne_eq, not_true_eq_false, not_false_eq_true, reduceCtorEq, Bool.true_beq, Bool.false_beq]
    refine take_lit (m := i) rfl tySlice70 tySize28 rfl rfl (by simp only [dOk_some, dOk_none, Nat.reduceLT]) rfl hi ?_
    simp only [go_sem, simprocAttr, decide_true, decide_false, Bool.not_true, Bool.not_false, cond_true, cond_false, beq_self_eq_true, and_self, ne_eq, not_true_eq_false, not_false_eq_true, reduceCtorEq, Bool.true_beq, Bool.false_beq, Nat.mul_one, hget1]
    refine take_lit (m := i) rfl tySlice28 tySize3 rfl rfl (by simp only [dOk_some, dOk_none, Nat.reduceLT]) rfl hi ?_
    simp only [go_sem, simprocAttr, decide_true, decide_false, Bool.not_true, Bool.not_false, cond_true, cond_false, beq_self_eq_true, and_self, ne_eq, not_true_eq_false, not_false_eq_true, reduceCtorEq, Bool.true_beq, Bool.false_beq, Nat.mul_one, hget2]
    refine ⟨?_, ?_⟩
    · refine any_ok2 (N := 3000) (make_does (n := sz) rfl tySlice23 hif hz0 hz3 hz1 hz2 rfl rfl (by omega) (by simp only [dOk_some, dOk_none, Nat.reduceLT])) hk' rfl (by first | exact .inl rfl | exact .inr ⟨_, _, rfl, rfl⟩) (by intro _ hK; first | (obtain ⟨_, _, _, _, rfl⟩ := hK; exact ⟨rfl, fun _ h => h⟩) | (obtain ⟨_, _, rfl⟩ := hK; exact ⟨rfl, fun _ h => h⟩) | (obtain ⟨_, _, _, _, _, _, rfl⟩ := hK; exact ⟨rfl, fun _ h => List.mem_cons_of_mem _ h⟩) | (obtain ⟨_, _, _, _, _, _, _, rfl⟩ := hK; exact ⟨rfl, fun _ h => List.mem_cons_of_mem _ h⟩) | (obtain rfl := hK; exact ⟨rfl, fun _ h => h⟩)) ?_
      rintro _ ⟨Ab, GB, hb0, hnb, rfl⟩
      have hby : ByG GB (.slice Ab sz sz) (List.replicate sz 0) := byG_rep hb0
      clear hnb
      simp only [go_sem, simprocAttr, decide_true, decide_false, Bool.not_true, Bool.not_false, cond_true, cond_false, beq_self_eq_true, and_self, ne_eq, not_true_eq_false, not_false_eq_true, reduceCtorEq, Bool.true_beq, Bool.false_beq]
      refine ⟨?_, ?_⟩
      · refine any_ok2 (N := 3000) (call_does (fun v _ => v = .tuple #[zeroDev, .int .i64 2]) rfl rfl (by kernel_rfl) rfl (by simp only [dOk_some, dOk_none, Nat.reduceLT]) (fun G hG => write_bad smallGood hg0 (by rw [List.length_replicate]; exact hrm) hG.wf (hd0.mono (hG.le G2 (by simp))) (hin G fun s hs => hG.le s (by simp only [List.mem_cons, List.not_mem_nil, or_false] at hs; rcases hs with rfl | rfl | rfl | rfl | rfl | rfl <;> simp)) (hby.mono (hG.le GB (by simp))))) hk' rfl (by first | exact .inl rfl | exact .inr ⟨_, _, rfl, rfl⟩) (by intro _ hK; first | (obtain ⟨_, _, _, _, rfl⟩ := hK; exact ⟨rfl, fun _ h => h⟩) | (obtain ⟨_, _, rfl⟩ := hK; exact ⟨rfl, fun _ h => h⟩) | (obtain ⟨_, _, _, _, _, _, rfl⟩ := hK; exact ⟨rfl, fun _ h => List.mem_cons_of_mem _ h⟩) | (obtain ⟨_, _, _, _, _, _, _, rfl⟩ := hK; exact ⟨rfl, fun _ h => List.mem_cons_of_mem _ h⟩) | (obtain rfl := hK; exact ⟨rfl, fun _ h => h⟩)) ?_
        rintro _ ⟨_, GW1, rfl, hnw, rfl⟩
        clear hnw
        simp only [go_sem, simprocAttr, decide_true, decide_false, Bool.not_true, Bool.not_false, cond_true, cond_false, beq_self_eq_true, and_self, ne_eq, not_true_eq_false, not_false_eq_true, reduceCtorEq, Bool.true_beq, Bool.false_beq, zeroDev]
        intro g11
        exact hJ () _ trivial (by simp only [go_sem, simprocAttr, decide_true, decide_false, Bool.not_true, Bool.not_false, cond_true, cond_false, beq_self_eq_true, and_self, ne_eq, not_true_eq_false, not_false_eq_true, reduceCtorEq, Bool.true_beq, Bool.false_beq]; simp)
      · intro g11
        refine any_ok2 (N := 3000) (call_does (fun v _ => v = .tuple #[zeroDev, .int .i64 2]) rfl rfl (by kernel_rfl) rfl (by simp only [dOk_some, dOk_none, Nat.reduceLT]) (fun G hG => write_bad smallGood hg0 (by rw [List.length_replicate]; exact hrm) hG.wf (hd0.mono (hG.le G2 (by simp))) (hin G fun s hs => hG.le s (by simp only [List.mem_cons, List.not_mem_nil, or_false] at hs; rcases hs with rfl | rfl | rfl | rfl | rfl | rfl <;> simp)) (hby.mono (hG.le GB (by simp))))) hk' rfl (by first | exact .inl rfl | exact .inr ⟨_, _, rfl, rfl⟩) (by intro _ hK; first | (obtain ⟨_, _, _, _, rfl⟩ := hK; exact ⟨rfl, fun _ h => h⟩) | (obtain ⟨_, _, rfl⟩ := hK; exact ⟨rfl, fun _ h => h⟩) | (obtain ⟨_, _, _, _, _, _, rfl⟩ := hK; exact ⟨rfl, fun _ h => List.mem_cons_of_mem _ h⟩) | (obtain ⟨_, _, _, _, _, _, _, rfl⟩ := hK; exact ⟨rfl, fun _ h => List.mem_cons_of_mem _ h⟩) | (obtain rfl := hK; exact ⟨rfl, fun _ h => h⟩)) ?_
        rintro _ ⟨_, GW1, rfl, hnw, rfl⟩
        clear hnw
        simp only [go_sem, simprocAttr, decide_true, decide_false, Bool.not_true, Bool.not_false, cond_true, cond_false, beq_self_eq_true, and_self, ne_eq, not_true_eq_false, not_false_eq_true, reduceCtorEq, Bool.true_beq, Bool.false_beq, zeroDev]
        exact hJ () _ trivial (by simp only [go_sem, simprocAttr, decide_true, decide_false, Bool.not_true, Bool.not_false, cond_true, cond_false, beq_self_eq_true, and_self, ne_eq, not_true_eq_false, not_false_eq_true, reduceCtorEq, Bool.true_beq, Bool.false_beq]; simp)
    · intro g11
      refine any_ok2 (N := 3000) (make_does (n := sz) rfl tySlice23 hif hz0 hz3 hz1 hz2 rfl rfl (by omega) (by simp only [dOk_some, dOk_none, Nat.reduceLT])) hk' rfl (by first | exact .inl rfl | exact .inr ⟨_, _, rfl, rfl⟩) (by intro _ hK; first | (obtain ⟨_, _, _, _, rfl⟩ := hK; exact ⟨rfl, fun _ h => h⟩) | (obtain ⟨_, _, rfl⟩ := hK; exact ⟨rfl, fun _ h => h⟩) | (obtain ⟨_, _, _, _, _, _, rfl⟩ := hK; exact ⟨rfl, fun _ h => List.mem_cons_of_mem _ h⟩) | (obtain ⟨_, _, _, _, _, _, _, rfl⟩ := hK; exact ⟨rfl, fun _ h => List.mem_cons_of_mem _ h⟩) | (obtain rfl := hK; exact ⟨rfl, fun _ h => h⟩)) ?_
      rintro _ ⟨Ab, GB, hb0, hnb, rfl⟩
      have hby : ByG GB (.slice Ab sz sz) (List.replicate sz 0) := byG_rep hb0
      clear hnb
      simp only [go_sem, simprocAttr, decide_true, decide_false, Bool.not_true, Bool.not_false, cond_true, cond_false, beq_self_eq_true, and_self, ne_eq, not_true_eq_false, not_false_eq_true, reduceCtorEq, Bool.true_beq, Bool.false_beq]
      refine any_ok2 (N := 3000) (call_does (fun v _ => v = .tuple #[zeroDev, .int .i64 2]) rfl rfl (by kernel_rfl) rfl (by simp only [dOk_some, dOk_none, Nat.reduceLT]) (fun G hG => write_bad smallGood hg0 (by rw [List.length_replicate]; exact hrm) hG.wf (hd0.mono (hG.le G2 (by simp))) (hin G fun s hs => hG.le s (by simp only [List.mem_cons, List.not_mem_nil, or_false] at hs; rcases hs with rfl | rfl | rfl | rfl | rfl | rfl <;> simp)) (hby.mono (hG.le GB (by simp))))) hk' rfl (by first | exact .inl rfl | exact .inr ⟨_, _, rfl, rfl⟩) (by intro _ hK; first | (obtain ⟨_, _, _, _, rfl⟩ := hK; exact ⟨rfl, fun _ h => h⟩) | (obtain ⟨_, _, rfl⟩ := hK; exact ⟨rfl, fun _ h => h⟩) | (obtain ⟨_, _, _, _, _, _, rfl⟩ := hK; exact ⟨rfl, fun _ h => List.mem_cons_of_mem _ h⟩) | (obtain ⟨_, _, _, _, _, _, _, rfl⟩ := hK; exact ⟨rfl, fun _ h => List.mem_cons_of_mem _ h⟩) | (obtain rfl := hK; exact ⟨rfl, fun _ h => h⟩)) ?_
      rintro _ ⟨_, GW1, rfl, hnw, rfl⟩
      clear hnw
      simp only [go_sem, simprocAttr, decide_true, decide_false, Bool.not_true, Bool.not_false, cond_true, cond_false, beq_self_eq_true, and_self, ne_eq, not_true_eq_false, not_false_eq_true, reduceCtorEq, Bool.true_beq, Bool.false_beq, zeroDev]
      exact hJ () _ trivial (by simp only [go_sem, simprocAttr, decide_true, decide_false, Bool.not_true, Bool.not_false, cond_true, cond_false, beq_self_eq_true, and_self, ne_eq, not_true_eq_false, not_false_eq_true, reduceCtorEq, Bool.true_beq, Bool.false_beq]; simp)
  rintro _ _
  simp only [go_sem, simprocAttr, decide_true, decide_false, Bool.not_true, Bool.not_false, cond_true, cond_false, beq_self_eq_true, and_self, ne_eq, not_true_eq_false, not_false_eq_true, reduceCtorEq, Bool.true_beq, Bool.false_beq]
  refine draw_ok (N := 3000) (.take 0 (.take 1 (.take 2 (.take 3 (.take 4 (.take 5 (.take 6 (.take 7 (.take 8 (.take 9 (.alt 10 (.take 11 (.take 12 (.take 13 (.take 14 (.take 15 .done))))) .last))))))))))) [] (QOk_body _ _ _) follows_mixed (by kernel_rfl) (by kernel_rfl) ?_
  simp only [go_sem, simprocAttr, decide_true, decide_false, Bool.not_true, Bool.not_false, cond_true, cond_false, beq_self_eq_true, and_self, ne_eq, not_true_eq_false, not_false_eq_true, reduceCtorEq, Bool.true_beq, Bool.false_beq]
  refine take_lit (m := i) rfl tySlice70 tySize28 rfl rfl (by simp only [dOk_some, dOk_none, Nat.reduceLT]) rfl hi ?_
  simp only [go_sem, simprocAttr, decide_true, decide_false, Bool.not_true, Bool.not_false, cond_true, cond_false, beq_self_eq_true, and_self, ne_eq, not_true_eq_false, not_false_eq_true, reduceCtorEq, Bool.true_beq, Bool.false_beq, Nat.mul_one, hget1]
  refine take_lit (m := i) rfl tySlice28 tySize3 rfl rfl (by simp only [dOk_some, dOk_none, Nat.reduceLT]) rfl hi ?_
  simp only [go_sem, simprocAttr, decide_true, decide_false, Bool.not_true, Bool.not_false, cond_true, cond_false, beq_self_eq_true, and_self, ne_eq, not_true_eq_false, not_false_eq_true, reduceCtorEq, Bool.true_beq, Bool.false_beq, Nat.mul_one, hget2]
  refine any_ok2 (N := 3000) (call_does (fun v _ => v = .tuple #[.slice none 0 0, .int .i64 2]) rfl rfl (by kernel_rfl) rfl (by simp only [dOk_some, dOk_none, Nat.reduceLT]) (fun G hG => read_bad smallGood hg0 hrm hG.wf (hd0.mono (hG.le G2 (by simp))) (hin G fun s hs => hG.le s (by simp only [List.mem_cons, List.not_mem_nil, or_false] at hs; rcases hs with rfl | rfl | rfl | rfl | rfl | rfl <;> simp)))) (QOk_body _ _ _) rfl (by first | exact .inl rfl | exact .inr ⟨_, _, rfl, rfl⟩) (by intro _ hK; first | (obtain ⟨_, _, _, _, rfl⟩ := hK; exact ⟨rfl, fun _ h => h⟩) | (obtain ⟨_, _, rfl⟩ := hK; exact ⟨rfl, fun _ h => h⟩) | (obtain ⟨_, _, _, _, _, _, rfl⟩ := hK; exact ⟨rfl, fun _ h => List.mem_cons_of_mem _ h⟩) | (obtain ⟨_, _, _, _, _, _, _, rfl⟩ := hK; exact ⟨rfl, fun _ h => List.mem_cons_of_mem _ h⟩) | (obtain rfl := hK; exact ⟨rfl, fun _ h => h⟩)) ?_
  rintro _ ⟨_, GR, rfl, hnr, rfl⟩
  clear hnr
  simp only [go_sem, simprocAttr, decide_true, decide_false, Bool.not_true, Bool.not_false, cond_true, cond_false, beq_self_eq_true, and_self, ne_eq, not_true_eq_false, not_false_eq_true, reduceCtorEq, Bool.true_beq, Bool.false_beq]
  refine plain_ok (N := 3000) (call_does (fun v _ => ∃ A c, v = .tuple #[.slice A 0 c, .int .i64 0]) rfl rfl (by kernel_rfl) rfl (by simp only [dOk_some, dOk_none, Nat.reduceLT]) (fun G hG => ret_mono (read_does (n := 0) smallGood hg0 rmy hG.wf (hd0.mono (hG.le G2 (by simp))) (ints_no G)) fun v G' _ h => (by obtain ⟨A, c, e, _⟩ := h; exact ⟨A, c, e⟩))) (QOk_body _ _ _) (by first | exact .inl rfl | exact .inr ⟨_, _, rfl, rfl⟩) ?_
  rintro _ ⟨_, GS, ⟨Az, cz, rfl⟩, hnz, rfl⟩
  clear hnz
  have z0 : decide ((0 : Int) = 0) = true := rfl
  have z2 : decide ((2 : Int) = 2) = true := rfl
  simp only [go_sem, simprocAttr, decide_true, decide_false, Bool.not_true, Bool.not_false, cond_true, cond_false, beq_self_eq_true, and_self, ne_eq, not_true_eq_false, not_false_eq_true, reduceCtorEq, Bool.true_beq, Bool.false_beq, z0, z2]
  refine fin_ret (G := ⟨Non, w⟩) Try.results11 ?_
  simp only [go_sem, simprocAttr, decide_true, decide_false, Bool.not_true, Bool.not_false, cond_true, cond_false, beq_self_eq_true, and_self, ne_eq, not_true_eq_false, not_false_eq_true, reduceCtorEq, Bool.true_beq, Bool.false_beq]
  intro aa w' _ hle
  rfl
theorem hotBad_walk (wh : Int) (w0 : (Lit.int .i64 wh).wf = true) (n : Int) (w1 : (Lit.int .i64 n).wf = true) (w : World) : Calls Try.prog 11 #[.int .i64 wh, .int .i64 n] w fun e w' => e = .returned (.bool true) ∧ Below w.heap.size w w' :=
  (hotBad_ret wh w0 n w1).mono fun e w' ⟨v, he, hv, hc⟩ => ⟨by rw [he, hv], hc.below⟩
end Go.Proofs.Ytomfladifefomaa
