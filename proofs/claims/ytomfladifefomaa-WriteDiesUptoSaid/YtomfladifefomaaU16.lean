/- 'icehousekeep.WriteDies' returns true for every two ints, two texts of which the second has room for a byte more, and every slice of booleans. Conditions: the second text is shorter than the longest text by a byte at least. -/
import Derived.Test.YtomfladifefomaaU13
import Derived.Test.YtomfladifefomaaY1
namespace Go.Proofs.Ytomfladifefomaa
open Go.RowKit
set_option linter.unusedSimpArgs false
theorem content_armed (d : Dev) (f : Int) (n : Nat) : content { d with fuel := f } n = content d n := by
  unfold content
  have : ∀ i, valTo all_ { d with fuel := f } n i = valTo all_ d n i := by
    intro i
    induction i with
    | zero => rfl
    | succ i ih => unfold valTo; rw [ih]
  exact this _
theorem val_empty (ok : Nat → Bool) {d : Dev} (hc : d.cache.length = 0) (n : Nat) : valTo ok d n d.cache.length = content d n := by
  unfold content
  rw [hc]
  rfl
/-- what one reads behind a crash, when the devices may have died while others were written -/
theorem died {g : Geo} (hg : GoodGeo g) {d : Dev} (hc : d.cache.length = 0) {l r : List Int} {b y : List UInt8} (hl : Spread g.hot l) (hr0 : Spread g.hot r) (hap : ∀ n ∈ l, ∀ m ∈ r, n ≠ m) (hr : (readTo g d l l.length).take b.length = b)
    (hy : y.length ≤ 64 * r.length) (keep : List Bool) {v : Value} {G : GW} (h : WroteG g d r y v G) :
    ∃ dv e z, v = .tuple #[dv, .int .i64 e] ∧ DevG G dv z ∧ GoodDev g z ∧ (e = 0 ∨ e = 10) ∧ (readTo g (crashDev z keep 0) l l.length).take b.length = b ∧ (e = 0 → (readTo g (crashDev z keep 0) r r.length).take y.length = y) := by
  rcases h with ⟨dv, rfl, hdv, _, hgw⟩ | ⟨dv, i, _, rfl, hdv, _, hgw⟩
  · have hz := good_flush hgw
    refine ⟨dv, 0, _, rfl, hdv, hz, .inl rfl, ?_, fun _ => ?_⟩
    · rw [readTo_same (d := flushDev (writeTo g d r y r.length)) (fun n hn => crash_flushed hz keep 0 (in_safe hg hz (spread_mem hl hn).1 (spread_mem hl hn).2) rfl)]
      exact apart_read hg hl hap hgw hr
    · rw [readTo_same (d := flushDev (writeTo g d r y r.length)) (fun n hn => crash_flushed hz keep 0 (in_safe hg hz (spread_mem hr0 hn).1 (spread_mem hr0 hn).2) rfl)]
      exact flushed_read hg hr0 hgw hy
  · refine ⟨dv, 10, _, rfl, hdv, hgw, .inr rfl, ?_, fun e => by omega⟩
    rw [readTo_same (d := d) (fun n hn => ?_)]
    · exact hr
    · obtain ⟨n0, n1⟩ := spread_mem hl hn
      rw [content_crash hgw keep 0 _ (in_safe hg hgw n0 n1), valTo_apart _ (fun m hm e => hap n hn m hm (by
        have := hg.r1; have := hg.a1
        unfold firstOf at e
        omega)), val_empty _ hc]
set_option maxRecDepth 100000 in
set_option maxHeartbeats 16000000 in
theorem writeDies_ret {w : World} (a0 : Int) (w0 : (Lit.int .i64 a0).wf = true) (s : ByteArray) (hs : s.size ≤ maxLen) (t : ByteArray) (ht : t.size + 1 ≤ maxLen) (a3 : Int) (w3 : (Lit.int .i64 a3).wf = true) (v4 : Value) (keep : List Bool) (h4 : BoolsG ⟨Non, w⟩ v4 keep) :
    Calls Try.prog 15 #[.int .i64 a0, .string s, .string t, .int .i64 a3, v4] w (Ret ⟨Non, w⟩ fun v _ => v = .bool true) := by
  obtain ⟨A', c', rfl, _, _⟩ := ScR.form h4
  have ht2 : (t.size : Int) + 1 ≤ 9223372036854775807 := by unfold maxLen at ht; omega
  have i0 : i64 a0 := i64_bd w0
  have i3 : i64 a3 := i64_bd w3
  refine enter (G := ⟨Non, w⟩) (n := 179) 3000 (wf_nonL w) Try.func15 rfl Try.ntmps15 (by simp) ?_
  simp only [go_sem, Nat.reduceAdd, Nat.reduceSub, Nat.reduceMul, Nat.reduceEqDiff, Nat.reduceLT, Nat.reduceLeDiff, Nat.reduceBEq, Nat.reduceBNe, Int.reduceLT, Int.reduceLE, Int.reduceEq, Int.reduceAdd, Int.reduceSub, Int.reduceNeg, decide_true, decide_false, Bool.not_true, Bool.not_false, cond_true, cond_false, beq_self_eq_true, and_self, ne_eq, not_true_eq_false, not_false_eq_true, reduceCtorEq, Bool.true_beq, Bool.false_beq]
  refine plain_ok (N := 3000) (call_does (fun v _ => ∃ g : Geo, v = .agg #[.int .i64 g.ring, .int .i64 g.area, .int .i64 g.hot, .int .i64 g.volume, .int .i64 g.volumes] ∧ GoodGeo g ∧ (g.hot = 11 ∨ g.hot = 22 ∨ g.hot = 31)) rfl rfl (by kernel_rfl) rfl (by simp only [dOk_some, dOk_none, Nat.reduceLT]) (fun G hG => sevens_does i0 hG.wf)) (QOk_body _ _ _) (by first | exact .inl rfl | exact .inr ⟨_, _, rfl, rfl⟩) ?_
  rintro _ ⟨_, G1, ⟨g, rfl, hg, hh⟩, hn1, rfl⟩
  clear hn1
  simp only [go_sem, Nat.reduceAdd, Nat.reduceSub, Nat.reduceMul, Nat.reduceEqDiff, Nat.reduceLT, Nat.reduceLeDiff, Nat.reduceBEq, Nat.reduceBNe, Int.reduceLT, Int.reduceLE, Int.reduceEq, Int.reduceAdd, Int.reduceSub, Int.reduceNeg, decide_true, decide_false, Bool.not_true, Bool.not_false, cond_true, cond_false, beq_self_eq_true, and_self, ne_eq, not_true_eq_false, not_false_eq_true, reduceCtorEq, Bool.true_beq, Bool.false_beq]
  intro g1
  refine plain_ok (N := 3000) (call_does (fun v _ => v = .string (bodyOf s 200)) rfl rfl (by kernel_rfl) rfl (by simp only [dOk_some, dOk_none, Nat.reduceLT]) (fun G hG => body_does hs ⟨by omega, by omega⟩ hG.wf)) (QOk_body _ _ _) (by first | exact .inl rfl | exact .inr ⟨_, _, rfl, rfl⟩) ?_
  rintro _ ⟨_, G2, rfl, hn2, rfl⟩
  clear hn2
  simp only [go_sem, Nat.reduceAdd, Nat.reduceSub, Nat.reduceMul, Nat.reduceEqDiff, Nat.reduceLT, Nat.reduceLeDiff, Nat.reduceBEq, Nat.reduceBNe, Int.reduceLT, Int.reduceLE, Int.reduceEq, Int.reduceAdd, Int.reduceSub, Int.reduceNeg, decide_true, decide_false, Bool.not_true, Bool.not_false, cond_true, cond_false, beq_self_eq_true, and_self, ne_eq, not_true_eq_false, not_false_eq_true, reduceCtorEq, Bool.true_beq, Bool.false_beq]
  refine plain_ok (N := 3000) (call_does (fun v _ => v = .string (bodyOf s 200)) rfl rfl (by kernel_rfl) rfl (by simp only [dOk_some, dOk_none, Nat.reduceLT]) (fun G hG => body_does hs ⟨by omega, by omega⟩ hG.wf)) (QOk_body _ _ _) (by first | exact .inl rfl | exact .inr ⟨_, _, rfl, rfl⟩) ?_
  rintro _ ⟨_, G3, rfl, hn3, rfl⟩
  clear hn3
  have hS := cut_300 (bodyOf s 200)
  have hS2 := bodyOf_size s a3
  simp only [go_sem, Nat.reduceAdd, Nat.reduceSub, Nat.reduceMul, Nat.reduceEqDiff, Nat.reduceLT, Nat.reduceLeDiff, Nat.reduceBEq, Nat.reduceBNe, Int.reduceLT, Int.reduceLE, Int.reduceEq, Int.reduceAdd, Int.reduceSub, Int.reduceNeg, decide_true, decide_false, Bool.not_true, Bool.not_false, cond_true, cond_false, beq_self_eq_true, and_self, ne_eq, not_true_eq_false, not_false_eq_true, reduceCtorEq, Bool.true_beq, Bool.false_beq]
  refine ⟨by omega, ?_⟩
  refine plain_ok (N := 3000) (bytes_does (e := 5) rfl (tyStr9) (tySlice23) (tyInt5) rfl (by simp only [dOk_some, dOk_none, Nat.reduceLT]) (by omega)) (QOk_body _ _ _) (by first | exact .inl rfl | exact .inr ⟨_, _, rfl, rfl⟩) ?_
  rintro _ ⟨Ab, cb, G4, hby, rfl⟩
  generalize (bodyOf s 200).extract (Int.toNat 0) (min ((bodyOf s 200).size : Int) 300).toNat = q at hby hS
  have hbl : q.data.toList.length ≤ 300 := by rw [Array.length_toList]; exact hS
  generalize q.data.toList = b at hby hbl
  clear hS hS2
  simp only [go_sem, Nat.reduceAdd, Nat.reduceSub, Nat.reduceMul, Nat.reduceEqDiff, Nat.reduceLT, Nat.reduceLeDiff, Nat.reduceBEq, Nat.reduceBNe, Int.reduceLT, Int.reduceLE, Int.reduceEq, Int.reduceAdd, Int.reduceSub, Int.reduceNeg, decide_true, decide_false, Bool.not_true, Bool.not_false, cond_true, cond_false, beq_self_eq_true, and_self, ne_eq, not_true_eq_false, not_false_eq_true, reduceCtorEq, Bool.true_beq, Bool.false_beq]
  refine ⟨ht2, ?_⟩
  obtain ⟨T, hTe⟩ : ∃ T : ByteArray, T = t ++ ⟨#[63]⟩ := ⟨_, rfl⟩
  have hT : T.size ≤ maxLen := by rw [hTe, ByteArray.size_append]; exact ht
  rw [← hTe]
  refine plain_ok (N := 3000) (call_does (fun v _ => v = .string (bodyOf T 250)) rfl rfl (by kernel_rfl) rfl (by simp only [dOk_some, dOk_none, Nat.reduceLT]) (fun G hG => body_does hT ⟨by omega, by omega⟩ hG.wf)) (QOk_body _ _ _) (by first | exact .inl rfl | exact .inr ⟨_, _, rfl, rfl⟩) ?_
  rintro _ ⟨_, G5, rfl, hn5, rfl⟩
  clear hn5
  simp only [go_sem, Nat.reduceAdd, Nat.reduceSub, Nat.reduceMul, Nat.reduceEqDiff, Nat.reduceLT, Nat.reduceLeDiff, Nat.reduceBEq, Nat.reduceBNe, Int.reduceLT, Int.reduceLE, Int.reduceEq, Int.reduceAdd, Int.reduceSub, Int.reduceNeg, decide_true, decide_false, Bool.not_true, Bool.not_false, cond_true, cond_false, beq_self_eq_true, and_self, ne_eq, not_true_eq_false, not_false_eq_true, reduceCtorEq, Bool.true_beq, Bool.false_beq]
  refine ⟨ht2, ?_⟩
  rw [← hTe]
  refine plain_ok (N := 3000) (call_does (fun v _ => v = .string (bodyOf T 250)) rfl rfl (by kernel_rfl) rfl (by simp only [dOk_some, dOk_none, Nat.reduceLT]) (fun G hG => body_does hT ⟨by omega, by omega⟩ hG.wf)) (QOk_body _ _ _) (by first | exact .inl rfl | exact .inr ⟨_, _, rfl, rfl⟩) ?_
  rintro _ ⟨_, G6, rfl, hn6, rfl⟩
  clear hn6
  have hS := cut_300 (bodyOf T 250)
  have hS2 := bodyOf_size T 250
  simp only [go_sem, Nat.reduceAdd, Nat.reduceSub, Nat.reduceMul, Nat.reduceEqDiff, Nat.reduceLT, Nat.reduceLeDiff, Nat.reduceBEq, Nat.reduceBNe, Int.reduceLT, Int.reduceLE, Int.reduceEq, Int.reduceAdd, Int.reduceSub, Int.reduceNeg, decide_true, decide_false, Bool.not_true, Bool.not_false, cond_true, cond_false, beq_self_eq_true, and_self, ne_eq, not_true_eq_false, not_false_eq_true, reduceCtorEq, Bool.true_beq, Bool.false_beq]
  refine ⟨by omega, ?_⟩
  refine plain_ok (N := 3000) (bytes_does (e := 5) rfl (tyStr9) (tySlice23) (tyInt5) rfl (by simp only [dOk_some, dOk_none, Nat.reduceLT]) (by omega)) (QOk_body _ _ _) (by first | exact .inl rfl | exact .inr ⟨_, _, rfl, rfl⟩) ?_
  rintro _ ⟨Ay, cy, G7, hyy, rfl⟩
  generalize (bodyOf T 250).extract (Int.toNat 0) (min ((bodyOf T 250).size : Int) 300).toNat = q at hyy hS
  have hyl : q.data.toList.length ≤ 300 := by rw [Array.length_toList]; exact hS
  generalize q.data.toList = y at hyy hyl
  clear hS hS2
  simp only [go_sem, Nat.reduceAdd, Nat.reduceSub, Nat.reduceMul, Nat.reduceEqDiff, Nat.reduceLT, Nat.reduceLeDiff, Nat.reduceBEq, Nat.reduceBNe, Int.reduceLT, Int.reduceLE, Int.reduceEq, Int.reduceAdd, Int.reduceSub, Int.reduceNeg, decide_true, decide_false, Bool.not_true, Bool.not_false, cond_true, cond_false, beq_self_eq_true, and_self, ne_eq, not_true_eq_false, not_false_eq_true, reduceCtorEq, Bool.true_beq, Bool.false_beq]
  obtain ⟨k1, hk1⟩ : ∃ k : Nat, (k : Int) = ((b.length : Int) + 63) / 64 := ⟨(((b.length : Int) + 63) / 64).toNat, by omega⟩
  obtain ⟨k2, hk2⟩ : ∃ k : Nat, (k : Int) = ((y.length : Int) + 63) / 64 := ⟨(((y.length : Int) + 63) / 64).toNat, by omega⟩
  obtain ⟨k3, hk3⟩ : ∃ k : Nat, (k : Int) = ((b.length : Int) + (y.length : Int) + 128 + 63) / 64 := ⟨(((b.length : Int) + (y.length : Int) + 128 + 63) / 64).toNat, by omega⟩
  refine ⟨by omega, by omega, ?_⟩
  refine plain_ok (N := 3000) (call_does (fun v G => ∃ A c, v = .slice A k3 c ∧ IntsG G (.slice A k3 c) (spotsTo g.hot (pick 0 g.hot) k3)) rfl rfl (by kernel_rfl) rfl (by simp only [dOk_some, dOk_none, Nat.reduceLT]) (fun G hG => ret_mono (spots_does (n := k3) hg (from_ := 0) ⟨by omega, by omega⟩ hk3 (by omega) (by omega) hG.wf) fun v G' _ h => by obtain ⟨A, c, rfl, _⟩ := h.form; rw [spotsTo_len] at h; rw [spotsTo_len]; exact ⟨A, c, rfl, h⟩)) (QOk_body _ _ _) (by first | exact .inl rfl | exact .inr ⟨_, _, rfl, rfl⟩) ?_
  rintro _ ⟨_, G9, ⟨Al, cl, rfl, hl⟩, hn9, rfl⟩
  clear hn9
  have hslen := spotsTo_len g.hot (pick 0 g.hot) k3
  have hcl : k3 ≤ cl := by obtain ⟨_, _, e, q, _⟩ := hl.form; rw [hslen] at e q; cases e; exact q
  have hsl : Sl G9 3 1 k3 (.slice Al k3 cl) ((spotsTo g.hot (pick 0 g.hot) k3).map (Value.int .i64)) := by have := hl.sl; rw [hslen] at this; exact this
  simp only [go_sem, Nat.reduceAdd, Nat.reduceSub, Nat.reduceMul, Nat.reduceEqDiff, Nat.reduceLT, Nat.reduceLeDiff, Nat.reduceBEq, Nat.reduceBNe, Int.reduceLT, Int.reduceLE, Int.reduceEq, Int.reduceAdd, Int.reduceSub, Int.reduceNeg, decide_true, decide_false, Bool.not_true, Bool.not_false, cond_true, cond_false, beq_self_eq_true, and_self, ne_eq, not_true_eq_false, not_false_eq_true, reduceCtorEq, Bool.true_beq, Bool.false_beq]
  refine plain_ok (N := 3000) (call_does (fun v _ => v = .int .i64 (k1 : Int)) rfl rfl (by kernel_rfl) rfl (by simp only [dOk_some, dOk_none, Nat.reduceLT]) (fun G hG => ret_mono (secs_does hG.wf (by omega) (by omega)) fun v G' _ h => by rw [h, hk1])) (QOk_body _ _ _) (by first | exact .inl rfl | exact .inr ⟨_, _, rfl, rfl⟩) ?_
  rintro _ ⟨_, G8, rfl, hn8, rfl⟩
  clear hn8
  simp only [go_sem, Nat.reduceAdd, Nat.reduceSub, Nat.reduceMul, Nat.reduceEqDiff, Nat.reduceLT, Nat.reduceLeDiff, Nat.reduceBEq, Nat.reduceBNe, Int.reduceLT, Int.reduceLE, Int.reduceEq, Int.reduceAdd, Int.reduceSub, Int.reduceNeg, decide_true, decide_false, Bool.not_true, Bool.not_false, cond_true, cond_false, beq_self_eq_true, and_self, ne_eq, not_true_eq_false, not_false_eq_true, reduceCtorEq, Bool.true_beq, Bool.false_beq]
  refine plain_ok (N := 3000) (call_does (fun v G => ∃ dv, v = .tuple #[dv, .int .i64 0] ∧ DevG G dv (newDev g)) rfl rfl (by kernel_rfl) rfl (by simp only [dOk_some, dOk_none, Nat.reduceLT]) (fun G hG => new_does hg hG.wf (tidL hG (by simp) (by simp; decide)))) (QOk_body _ _ _) (by first | exact .inl rfl | exact .inr ⟨_, _, rfl, rfl⟩) ?_
  rintro _ ⟨_, G13, ⟨dv, rfl, hd0⟩, hn13, rfl⟩
  clear hn13
  have hg0 := newGood g hg
  have hf0 : (newDev g).fuel = -1 := rfl
  have hc0 : (newDev g).cache.length = 0 := rfl
  generalize newDev g = d0 at hd0 hg0 hf0 hc0
  obtain ⟨B1, m1, B2, m2, B3, m3, rfl, hfo⟩ := hd0.form
  clear hfo
  simp only [go_sem, Nat.reduceAdd, Nat.reduceSub, Nat.reduceMul, Nat.reduceEqDiff, Nat.reduceLT, Nat.reduceLeDiff, Nat.reduceBEq, Nat.reduceBNe, Int.reduceLT, Int.reduceLE, Int.reduceEq, Int.reduceAdd, Int.reduceSub, Int.reduceNeg, decide_true, decide_false, Bool.not_true, Bool.not_false, cond_true, cond_false, beq_self_eq_true, and_self, ne_eq, not_true_eq_false, not_false_eq_true, reduceCtorEq, Bool.true_beq, Bool.false_beq]
  intro g2
  have hsp1 : Spread g.hot (spotsTo g.hot (pick 0 g.hot) k1) := spots_spread hh (by omega)
  have hsp2 : Spread g.hot (spotsTo g.hot (pick 0 g.hot + 7 * (k1 : Int)) k2) := spots_spread hh (by omega)
  have hap : ∀ n ∈ spotsTo g.hot (pick 0 g.hot) k1, ∀ m ∈ spotsTo g.hot (pick 0 g.hot + 7 * (k1 : Int)) k2, n ≠ m := fun n hn m hm => spots_apart hh (by omega) hn hm
  have hll1 := spotsTo_len g.hot (pick 0 g.hot) k1
  have hll2 := spotsTo_len g.hot (pick 0 g.hot + 7 * (k1 : Int)) k2
  have e0 : pick 0 g.hot + 7 * ((0 : Nat) : Int) = pick 0 g.hot := by omega
  have hcut1 : ∀ (A : Option Addr) (c : Nat) (G : GW), Sl G 3 1 k1 (.slice A k1 c) ((((spotsTo g.hot (pick 0 g.hot) k3).map (Value.int .i64)).drop (0 * 1)).take (k1 * 1)) → IntsG G (.slice A k1 c) (spotsTo g.hot (pick 0 g.hot) k1) := fun A c G hs1 => by
    have hl1 := IntsG.cut hs1 (by omega)
    rw [spotsTo_cut _ _ _ _ _ (by omega), e0] at hl1
    exact hl1
  have hcut2 : ∀ (A : Option Addr) (c : Nat) (G : GW), Sl G 3 1 k2 (.slice A k2 c) ((((spotsTo g.hot (pick 0 g.hot) k3).map (Value.int .i64)).drop (k1 * 1)).take (k2 * 1)) → IntsG G (.slice A k2 c) (spotsTo g.hot (pick 0 g.hot + 7 * (k1 : Int)) k2) := fun A c G hs2 => by
    have hl2 := IntsG.cut hs2 (by omega)
    rw [spotsTo_cut _ _ _ _ _ (by omega)] at hl2
    exact hl2
  generalize spotsTo g.hot (pick 0 g.hot) k1 = l at hsp1 hap hll1 hcut1
  generalize spotsTo g.hot (pick 0 g.hot + 7 * (k1 : Int)) k2 = r at hsp2 hap hll2 hcut2
  have hroom1 : roomB g l (b.length : Int) = true := roomB_yes hsp1 ⟨by omega, by omega, by omega⟩
  have hroom2 : roomB g r (y.length : Int) = true := roomB_yes hsp2 ⟨by omega, by omega, by omega⟩
  clear hl
  refine cut_code2 (N := 3000) (ι := Dev × (Option Addr × Nat) × (Option Addr × Nat) × (Option Addr × Nat) × GW)
    (fun i => match i with | (z, (F1, f1), (F2, f2), (F3, f3), G) => ⟨[(3, .c (.v (.int .i64 a3))), (4, .c (.v (.slice A' keep.length c'))), (11, .c (.p 0 g1 0)), (12, .c (.v (.slice Ab b.length cb))), (13, .c (.v (.slice Ay y.length cy))), (14, .c (.v (.slice Al k3 cl))), (15, .c (.v (.int .i64 (k1 : Int)))), (16, .c (.p 1 g2 0)), (17, .c (.v (.int .i64 0))), (18, .c (.v (.int .i64 0)))],
      [⟨1, g2, 37, [.v (.slice F1 z.safe.length f1), .v (.slice F2 z.cache.length f2), .v (.slice F3 z.vols.length f3), .v (.int .i64 z.fuel)]⟩, ⟨0, g1, 32, [.v (.int .i64 g.ring), .v (.int .i64 g.area), .v (.int .i64 g.hot), .v (.int .i64 g.volume), .v (.int .i64 g.volumes)]⟩], [], [], [G, G9, G7, G4, ⟨Non, w⟩], 2⟩)
    (fun i => match i with | (z, (F1, f1), (F2, f2), (F3, f3), G) => DevG G (.agg #[.slice F1 z.safe.length f1, .slice F2 z.cache.length f2, .slice F3 z.vols.length f3, .int .i64 z.fuel]) z ∧ GoodDev g z ∧ (readTo g z l l.length).take b.length = b ∧ z.cache.length = 0) (QOk_body _ _ _) ?_ ?_
  rotate_left
  · intro k' J hk' hJ
    refine draw_ok (N := 3000) (.take 0 (.take 2 (.take 3 (.take 5 (.alt 1 (.alt 4 (.alt 6 (.take 7 (.take 8 (.take 9 (.alt 10 (.take 11 .done) .last)))) .last) .last) (.alt 4 (.alt 1 (.alt 6 (.take 7 (.take 8 (.take 9 (.alt 10 (.take 11 .done) .last)))) .last) .last) .last)))))) [1] hk' follows_mixed (by kernel_rfl) (by kernel_rfl) ?_
    simp only [go_sem, Nat.reduceAdd, Nat.reduceSub, Nat.reduceMul, Nat.reduceEqDiff, Nat.reduceLT, Nat.reduceLeDiff, Nat.reduceBEq, Nat.reduceBNe, Int.reduceLT, Int.reduceLE, Int.reduceEq, Int.reduceAdd, Int.reduceSub, Int.reduceNeg, decide_true, decide_false, Bool.not_true, Bool.not_false, cond_true, cond_false, beq_self_eq_true, and_self, ne_eq, not_true_eq_false, not_false_eq_true, reduceCtorEq, Bool.true_beq, Bool.false_beq]
    refine ⟨?_, ?_⟩
    · refine any_ok2 (N := 3000) (cut_does 0 k1 cl rfl tySlice28 tySize3 rfl rfl ⟨_, _, rfl, by omega⟩ (show 0 + cl = cl from by omega) (by simp) (by simp only [dOk_some, dOk_none, Nat.reduceLT]) (by omega) (by omega) (by omega) (fun G hG => (hsl.mono (hG.le G9 (by simp)) : Sl _ _ _ _ _ _))) hk' rfl (by first | exact .inl rfl | exact .inr ⟨_, _, rfl, rfl⟩) (by intro _ hK; first | (obtain ⟨_, _, _, _, rfl⟩ := hK; exact ⟨rfl, fun _ h => h⟩) | (obtain ⟨_, _, rfl⟩ := hK; exact ⟨rfl, fun _ h => h⟩) | (obtain ⟨_, _, _, _, _, _, rfl⟩ := hK; exact ⟨rfl, fun _ h => List.mem_cons_of_mem _ h⟩) | (obtain ⟨_, _, _, _, _, _, _, rfl⟩ := hK; exact ⟨rfl, fun _ h => List.mem_cons_of_mem _ h⟩) | (obtain rfl := hK; exact ⟨rfl, fun _ h => h⟩)) ?_
      rintro _ ⟨A1, G10, hs1, hn10, rfl⟩
      clear hn10
      have hl1 := hcut1 _ _ _ hs1
      clear hs1
      simp only [go_sem, Nat.reduceAdd, Nat.reduceSub, Nat.reduceMul, Nat.reduceEqDiff, Nat.reduceLT, Nat.reduceLeDiff, Nat.reduceBEq, Nat.reduceBNe, Int.reduceLT, Int.reduceLE, Int.reduceEq, Int.reduceAdd, Int.reduceSub, Int.reduceNeg, decide_true, decide_false, Bool.not_true, Bool.not_false, cond_true, cond_false, beq_self_eq_true, and_self, ne_eq, not_true_eq_false, not_false_eq_true, reduceCtorEq, Bool.true_beq, Bool.false_beq]
      refine any_ok2 (N := 3000) (call_does (fun v G => ∃ dv, v = .tuple #[dv, .int .i64 0] ∧ DevG G dv (flushDev (writeTo g d0 l b l.length)) ∧ GoodDev g (writeTo g d0 l b l.length)) rfl rfl (by kernel_rfl) rfl (by simp only [dOk_some, dOk_none, Nat.reduceLT]) (fun G hG => ret_mono (write_does hg hg0 hroom1 (by omega) hG.wf (tidL hG (by simp) (by simp; decide)) (hd0.mono (hG.le G13 (by simp))) (hl1.mono (hG.le G10 (by simp))) (ByG.mono hby (hG.le G4 (by simp)))) fun v G' _ h => wrote_ok hf0 h)) hk' rfl (by first | exact .inl rfl | exact .inr ⟨_, _, rfl, rfl⟩) (by intro _ hK; first | (obtain ⟨_, _, _, _, rfl⟩ := hK; exact ⟨rfl, fun _ h => h⟩) | (obtain ⟨_, _, rfl⟩ := hK; exact ⟨rfl, fun _ h => h⟩) | (obtain ⟨_, _, _, _, _, _, rfl⟩ := hK; exact ⟨rfl, fun _ h => List.mem_cons_of_mem _ h⟩) | (obtain ⟨_, _, _, _, _, _, _, rfl⟩ := hK; exact ⟨rfl, fun _ h => List.mem_cons_of_mem _ h⟩) | (obtain rfl := hK; exact ⟨rfl, fun _ h => h⟩)) ?_
      rintro _ ⟨_, G14, ⟨dv, rfl, hd1, hgw⟩, hn14, rfl⟩
      clear hn14
      have hr1 := flushed_read hg hsp1 hgw (show b.length ≤ 64 * l.length by omega)
      obtain ⟨C1, n1, C2, n2, C3, n3, rfl, hfo⟩ := hd1.form
      clear hfo
      simp only [go_sem, Nat.reduceAdd, Nat.reduceSub, Nat.reduceMul, Nat.reduceEqDiff, Nat.reduceLT, Nat.reduceLeDiff, Nat.reduceBEq, Nat.reduceBNe, Int.reduceLT, Int.reduceLE, Int.reduceEq, Int.reduceAdd, Int.reduceSub, Int.reduceNeg, decide_true, decide_false, Bool.not_true, Bool.not_false, cond_true, cond_false, beq_self_eq_true, and_self, ne_eq, not_true_eq_false, not_false_eq_true, reduceCtorEq, Bool.true_beq, Bool.false_beq]
      exact hJ (_, (C1, n1), (C2, n2), (C3, n3), G14) _ ⟨hd1, good_flush hgw, hr1, rfl⟩ (by simp only [go_sem, Nat.reduceAdd, Nat.reduceSub, Nat.reduceMul, Nat.reduceEqDiff, Nat.reduceLT, Nat.reduceLeDiff, Nat.reduceBEq, Nat.reduceBNe, Int.reduceLT, Int.reduceLE, Int.reduceEq, Int.reduceAdd, Int.reduceSub, Int.reduceNeg, decide_true, decide_false, Bool.not_true, Bool.not_false, cond_true, cond_false, beq_self_eq_true, and_self, ne_eq, not_true_eq_false, not_false_eq_true, reduceCtorEq, Bool.true_beq, Bool.false_beq]; simp)
    · refine any_ok2 (N := 3000) (cut_does 0 k1 cl rfl tySlice28 tySize3 rfl rfl ⟨_, _, rfl, by omega⟩ (show 0 + cl = cl from by omega) (by simp) (by simp only [dOk_some, dOk_none, Nat.reduceLT]) (by omega) (by omega) (by omega) (fun G hG => (hsl.mono (hG.le G9 (by simp)) : Sl _ _ _ _ _ _))) hk' rfl (by first | exact .inl rfl | exact .inr ⟨_, _, rfl, rfl⟩) (by intro _ hK; first | (obtain ⟨_, _, _, _, rfl⟩ := hK; exact ⟨rfl, fun _ h => h⟩) | (obtain ⟨_, _, rfl⟩ := hK; exact ⟨rfl, fun _ h => h⟩) | (obtain ⟨_, _, _, _, _, _, rfl⟩ := hK; exact ⟨rfl, fun _ h => List.mem_cons_of_mem _ h⟩) | (obtain ⟨_, _, _, _, _, _, _, rfl⟩ := hK; exact ⟨rfl, fun _ h => List.mem_cons_of_mem _ h⟩) | (obtain rfl := hK; exact ⟨rfl, fun _ h => h⟩)) ?_
      rintro _ ⟨A1, G10, hs1, hn10, rfl⟩
      clear hn10
      have hl1 := hcut1 _ _ _ hs1
      clear hs1
      simp only [go_sem, Nat.reduceAdd, Nat.reduceSub, Nat.reduceMul, Nat.reduceEqDiff, Nat.reduceLT, Nat.reduceLeDiff, Nat.reduceBEq, Nat.reduceBNe, Int.reduceLT, Int.reduceLE, Int.reduceEq, Int.reduceAdd, Int.reduceSub, Int.reduceNeg, decide_true, decide_false, Bool.not_true, Bool.not_false, cond_true, cond_false, beq_self_eq_true, and_self, ne_eq, not_true_eq_false, not_false_eq_true, reduceCtorEq, Bool.true_beq, Bool.false_beq]
      refine any_ok2 (N := 3000) (call_does (fun v G => ∃ dv, v = .tuple #[dv, .int .i64 0] ∧ DevG G dv (flushDev (writeTo g d0 l b l.length)) ∧ GoodDev g (writeTo g d0 l b l.length)) rfl rfl (by kernel_rfl) rfl (by simp only [dOk_some, dOk_none, Nat.reduceLT]) (fun G hG => ret_mono (write_does hg hg0 hroom1 (by omega) hG.wf (tidL hG (by simp) (by simp; decide)) (hd0.mono (hG.le G13 (by simp))) (hl1.mono (hG.le G10 (by simp))) (ByG.mono hby (hG.le G4 (by simp)))) fun v G' _ h => wrote_ok hf0 h)) hk' rfl (by first | exact .inl rfl | exact .inr ⟨_, _, rfl, rfl⟩) (by intro _ hK; first | (obtain ⟨_, _, _, _, rfl⟩ := hK; exact ⟨rfl, fun _ h => h⟩) | (obtain ⟨_, _, rfl⟩ := hK; exact ⟨rfl, fun _ h => h⟩) | (obtain ⟨_, _, _, _, _, _, rfl⟩ := hK; exact ⟨rfl, fun _ h => List.mem_cons_of_mem _ h⟩) | (obtain ⟨_, _, _, _, _, _, _, rfl⟩ := hK; exact ⟨rfl, fun _ h => List.mem_cons_of_mem _ h⟩) | (obtain rfl := hK; exact ⟨rfl, fun _ h => h⟩)) ?_
      rintro _ ⟨_, G14, ⟨dv, rfl, hd1, hgw⟩, hn14, rfl⟩
      clear hn14
      have hr1 := flushed_read hg hsp1 hgw (show b.length ≤ 64 * l.length by omega)
      obtain ⟨C1, n1, C2, n2, C3, n3, rfl, hfo⟩ := hd1.form
      clear hfo
      simp only [go_sem, Nat.reduceAdd, Nat.reduceSub, Nat.reduceMul, Nat.reduceEqDiff, Nat.reduceLT, Nat.reduceLeDiff, Nat.reduceBEq, Nat.reduceBNe, Int.reduceLT, Int.reduceLE, Int.reduceEq, Int.reduceAdd, Int.reduceSub, Int.reduceNeg, decide_true, decide_false, Bool.not_true, Bool.not_false, cond_true, cond_false, beq_self_eq_true, and_self, ne_eq, not_true_eq_false, not_false_eq_true, reduceCtorEq, Bool.true_beq, Bool.false_beq]
      exact hJ (_, (C1, n1), (C2, n2), (C3, n3), G14) _ ⟨hd1, good_flush hgw, hr1, rfl⟩ (by simp only [go_sem, Nat.reduceAdd, Nat.reduceSub, Nat.reduceMul, Nat.reduceEqDiff, Nat.reduceLT, Nat.reduceLeDiff, Nat.reduceBEq, Nat.reduceBNe, Int.reduceLT, Int.reduceLE, Int.reduceEq, Int.reduceAdd, Int.reduceSub, Int.reduceNeg, decide_true, decide_false, Bool.not_true, Bool.not_false, cond_true, cond_false, beq_self_eq_true, and_self, ne_eq, not_true_eq_false, not_false_eq_true, reduceCtorEq, Bool.true_beq, Bool.false_beq]; simp)
  rintro ⟨x1, ⟨C1, n1⟩, ⟨C2, n2⟩, ⟨C3, n3⟩, G14⟩ hC
  obtain ⟨hd1, hg1, hr1, hc1⟩ := hC
  clear hd0 hg0 hf0 hc0 d0 G13 B1 B2 B3 m1 m2 m3
  simp only
  simp only [go_sem, Nat.reduceAdd, Nat.reduceSub, Nat.reduceMul, Nat.reduceEqDiff, Nat.reduceLT, Nat.reduceLeDiff, Nat.reduceBEq, Nat.reduceBNe, Int.reduceLT, Int.reduceLE, Int.reduceEq, Int.reduceAdd, Int.reduceSub, Int.reduceNeg, decide_true, decide_false, Bool.not_true, Bool.not_false, cond_true, cond_false, beq_self_eq_true, and_self, ne_eq, not_true_eq_false, not_false_eq_true, reduceCtorEq, Bool.true_beq, Bool.false_beq]
  refine cut_code2 (N := 3000) (ι := Dev × (Option Addr × Nat) × (Option Addr × Nat) × (Option Addr × Nat) × GW)
    (fun i => match i with | (z, (F1, f1), (F2, f2), (F3, f3), G) => ⟨[(4, .c (.v (.slice A' keep.length c'))), (11, .c (.p 0 g1 0)), (12, .c (.v (.slice Ab b.length cb))), (13, .c (.v (.slice Ay y.length cy))), (14, .c (.v (.slice Al k3 cl))), (15, .c (.v (.int .i64 (k1 : Int)))), (16, .c (.p 1 g2 0)), (17, .c (.v (.int .i64 0))), (18, .c (.v (.int .i64 0))), (19, .c (.v (.int .i64 0)))],
      [⟨1, g2, 37, [.v (.slice F1 z.safe.length f1), .v (.slice F2 z.cache.length f2), .v (.slice F3 z.vols.length f3), .v (.int .i64 z.fuel)]⟩, ⟨0, g1, 32, [.v (.int .i64 g.ring), .v (.int .i64 g.area), .v (.int .i64 g.hot), .v (.int .i64 g.volume), .v (.int .i64 g.volumes)]⟩], [], [], [G, G9, G7, G4, ⟨Non, w⟩], 2⟩)
    (fun i => match i with | (z, (F1, f1), (F2, f2), (F3, f3), G) => DevG G (.agg #[.slice F1 z.safe.length f1, .slice F2 z.cache.length f2, .slice F3 z.vols.length f3, .int .i64 z.fuel]) z ∧ GoodDev g z ∧ (readTo g z l l.length).take b.length = b ∧ z.cache.length = 0) (QOk_body _ _ _) ?_ ?_
  rotate_left
  · intro k' J hk' hJ
    refine draw_ok (N := 3000) (.take 0 (.take 2 (.alt 1 (.alt 3 (.alt 4 (.take 5 (.take 6 (.take 7 (.alt 8 (.take 9 .done) .last)))) .last) .last) (.alt 3 (.alt 1 (.alt 4 (.take 5 (.take 6 (.take 7 (.alt 8 (.take 9 .done) .last)))) .last) .last) .last)))) [1] hk' follows_mixed (by kernel_rfl) (by kernel_rfl) ?_
    simp only [go_sem, Nat.reduceAdd, Nat.reduceSub, Nat.reduceMul, Nat.reduceEqDiff, Nat.reduceLT, Nat.reduceLeDiff, Nat.reduceBEq, Nat.reduceBNe, Int.reduceLT, Int.reduceLE, Int.reduceEq, Int.reduceAdd, Int.reduceSub, Int.reduceNeg, decide_true, decide_false, Bool.not_true, Bool.not_false, cond_true, cond_false, beq_self_eq_true, and_self, ne_eq, not_true_eq_false, not_false_eq_true, reduceCtorEq, Bool.true_beq, Bool.false_beq]
    refine ⟨?_, ?_⟩
    · refine any_ok2 (N := 3000) (call_does (fun v _ => ∃ k : Nat, (k : Int) = pick a3 8 ∧ (k : Int) < 8 ∧ v = .int .i64 (k : Int)) rfl rfl (by kernel_rfl) rfl (by simp only [dOk_some, dOk_none, Nat.reduceLT]) (fun G hG => picked_does i3.1 i3.2 (by omega) (by omega))) hk' rfl (by first | exact .inl rfl | exact .inr ⟨_, _, rfl, rfl⟩) (by intro _ hK; first | (obtain ⟨_, _, _, _, rfl⟩ := hK; exact ⟨rfl, fun _ h => h⟩) | (obtain ⟨_, _, rfl⟩ := hK; exact ⟨rfl, fun _ h => h⟩) | (obtain ⟨_, _, _, _, _, _, rfl⟩ := hK; exact ⟨rfl, fun _ h => List.mem_cons_of_mem _ h⟩) | (obtain ⟨_, _, _, _, _, _, _, rfl⟩ := hK; exact ⟨rfl, fun _ h => List.mem_cons_of_mem _ h⟩) | (obtain rfl := hK; exact ⟨rfl, fun _ h => h⟩)) ?_
      rintro _ ⟨_, G15, ⟨k, _, hk, rfl⟩, hn15, rfl⟩
      clear hn15
      simp only [go_sem, Nat.reduceAdd, Nat.reduceSub, Nat.reduceMul, Nat.reduceEqDiff, Nat.reduceLT, Nat.reduceLeDiff, Nat.reduceBEq, Nat.reduceBNe, Int.reduceLT, Int.reduceLE, Int.reduceEq, Int.reduceAdd, Int.reduceSub, Int.reduceNeg, decide_true, decide_false, Bool.not_true, Bool.not_false, cond_true, cond_false, beq_self_eq_true, and_self, ne_eq, not_true_eq_false, not_false_eq_true, reduceCtorEq, Bool.true_beq, Bool.false_beq]
      have he : armErr (k : Int) = 0 := by unfold armErr; rw [if_neg (by omega)]
      refine any_ok2 (N := 3000) (call_does (fun v G => ∃ dv, v = .tuple #[dv, .int .i64 0] ∧ DevG G dv { x1 with fuel := (k : Int) }) rfl rfl (by kernel_rfl) rfl (by simp only [dOk_some, dOk_none, Nat.reduceLT]) (fun G hG => ret_mono (arm_does (f := (k : Int)) hg hg1 hG.wf (tidL hG (by simp) (by simp; decide)) (hd1.mono (hG.le G14 (by simp)))) fun v G' _ h => dev_get h he)) hk' rfl (by first | exact .inl rfl | exact .inr ⟨_, _, rfl, rfl⟩) (by intro _ hK; first | (obtain ⟨_, _, _, _, rfl⟩ := hK; exact ⟨rfl, fun _ h => h⟩) | (obtain ⟨_, _, rfl⟩ := hK; exact ⟨rfl, fun _ h => h⟩) | (obtain ⟨_, _, _, _, _, _, rfl⟩ := hK; exact ⟨rfl, fun _ h => List.mem_cons_of_mem _ h⟩) | (obtain ⟨_, _, _, _, _, _, _, rfl⟩ := hK; exact ⟨rfl, fun _ h => List.mem_cons_of_mem _ h⟩) | (obtain rfl := hK; exact ⟨rfl, fun _ h => h⟩)) ?_
      rintro _ ⟨_, G16, ⟨dv, rfl, hd2⟩, hn16, rfl⟩
      clear hn16
      obtain ⟨D1, e1, D2, e2, D3, e3, rfl, hfo⟩ := hd2.form
      clear hfo
      simp only [go_sem, Nat.reduceAdd, Nat.reduceSub, Nat.reduceMul, Nat.reduceEqDiff, Nat.reduceLT, Nat.reduceLeDiff, Nat.reduceBEq, Nat.reduceBNe, Int.reduceLT, Int.reduceLE, Int.reduceEq, Int.reduceAdd, Int.reduceSub, Int.reduceNeg, decide_true, decide_false, Bool.not_true, Bool.not_false, cond_true, cond_false, beq_self_eq_true, and_self, ne_eq, not_true_eq_false, not_false_eq_true, reduceCtorEq, Bool.true_beq, Bool.false_beq]
      exact hJ (_, (D1, e1), (D2, e2), (D3, e3), G16) _ ⟨hd2, good_arm hg1 (by omega) (by omega), by rw [readTo_same (d := x1) (fun n hn => content_armed x1 _ _)]; exact hr1, hc1⟩ (by simp only [go_sem, Nat.reduceAdd, Nat.reduceSub, Nat.reduceMul, Nat.reduceEqDiff, Nat.reduceLT, Nat.reduceLeDiff, Nat.reduceBEq, Nat.reduceBNe, Int.reduceLT, Int.reduceLE, Int.reduceEq, Int.reduceAdd, Int.reduceSub, Int.reduceNeg, decide_true, decide_false, Bool.not_true, Bool.not_false, cond_true, cond_false, beq_self_eq_true, and_self, ne_eq, not_true_eq_false, not_false_eq_true, reduceCtorEq, Bool.true_beq, Bool.false_beq]; simp)
    · refine any_ok2 (N := 3000) (call_does (fun v _ => ∃ k : Nat, (k : Int) = pick a3 8 ∧ (k : Int) < 8 ∧ v = .int .i64 (k : Int)) rfl rfl (by kernel_rfl) rfl (by simp only [dOk_some, dOk_none, Nat.reduceLT]) (fun G hG => picked_does i3.1 i3.2 (by omega) (by omega))) hk' rfl (by first | exact .inl rfl | exact .inr ⟨_, _, rfl, rfl⟩) (by intro _ hK; first | (obtain ⟨_, _, _, _, rfl⟩ := hK; exact ⟨rfl, fun _ h => h⟩) | (obtain ⟨_, _, rfl⟩ := hK; exact ⟨rfl, fun _ h => h⟩) | (obtain ⟨_, _, _, _, _, _, rfl⟩ := hK; exact ⟨rfl, fun _ h => List.mem_cons_of_mem _ h⟩) | (obtain ⟨_, _, _, _, _, _, _, rfl⟩ := hK; exact ⟨rfl, fun _ h => List.mem_cons_of_mem _ h⟩) | (obtain rfl := hK; exact ⟨rfl, fun _ h => h⟩)) ?_
      rintro _ ⟨_, G15, ⟨k, _, hk, rfl⟩, hn15, rfl⟩
      clear hn15
      simp only [go_sem, Nat.reduceAdd, Nat.reduceSub, Nat.reduceMul, Nat.reduceEqDiff, Nat.reduceLT, Nat.reduceLeDiff, Nat.reduceBEq, Nat.reduceBNe, Int.reduceLT, Int.reduceLE, Int.reduceEq, Int.reduceAdd, Int.reduceSub, Int.reduceNeg, decide_true, decide_false, Bool.not_true, Bool.not_false, cond_true, cond_false, beq_self_eq_true, and_self, ne_eq, not_true_eq_false, not_false_eq_true, reduceCtorEq, Bool.true_beq, Bool.false_beq]
      have he : armErr (k : Int) = 0 := by unfold armErr; rw [if_neg (by omega)]
      refine any_ok2 (N := 3000) (call_does (fun v G => ∃ dv, v = .tuple #[dv, .int .i64 0] ∧ DevG G dv { x1 with fuel := (k : Int) }) rfl rfl (by kernel_rfl) rfl (by simp only [dOk_some, dOk_none, Nat.reduceLT]) (fun G hG => ret_mono (arm_does (f := (k : Int)) hg hg1 hG.wf (tidL hG (by simp) (by simp; decide)) (hd1.mono (hG.le G14 (by simp)))) fun v G' _ h => dev_get h he)) hk' rfl (by first | exact .inl rfl | exact .inr ⟨_, _, rfl, rfl⟩) (by intro _ hK; first | (obtain ⟨_, _, _, _, rfl⟩ := hK; exact ⟨rfl, fun _ h => h⟩) | (obtain ⟨_, _, rfl⟩ := hK; exact ⟨rfl, fun _ h => h⟩) | (obtain ⟨_, _, _, _, _, _, rfl⟩ := hK; exact ⟨rfl, fun _ h => List.mem_cons_of_mem _ h⟩) | (obtain ⟨_, _, _, _, _, _, _, rfl⟩ := hK; exact ⟨rfl, fun _ h => List.mem_cons_of_mem _ h⟩) | (obtain rfl := hK; exact ⟨rfl, fun _ h => h⟩)) ?_
      rintro _ ⟨_, G16, ⟨dv, rfl, hd2⟩, hn16, rfl⟩
      clear hn16
      obtain ⟨D1, e1, D2, e2, D3, e3, rfl, hfo⟩ := hd2.form
      clear hfo
      simp only [go_sem, Nat.reduceAdd, Nat.reduceSub, Nat.reduceMul, Nat.reduceEqDiff, Nat.reduceLT, Nat.reduceLeDiff, Nat.reduceBEq, Nat.reduceBNe, Int.reduceLT, Int.reduceLE, Int.reduceEq, Int.reduceAdd, Int.reduceSub, Int.reduceNeg, decide_true, decide_false, Bool.not_true, Bool.not_false, cond_true, cond_false, beq_self_eq_true, and_self, ne_eq, not_true_eq_false, not_false_eq_true, reduceCtorEq, Bool.true_beq, Bool.false_beq]
      exact hJ (_, (D1, e1), (D2, e2), (D3, e3), G16) _ ⟨hd2, good_arm hg1 (by omega) (by omega), by rw [readTo_same (d := x1) (fun n hn => content_armed x1 _ _)]; exact hr1, hc1⟩ (by simp only [go_sem, Nat.reduceAdd, Nat.reduceSub, Nat.reduceMul, Nat.reduceEqDiff, Nat.reduceLT, Nat.reduceLeDiff, Nat.reduceBEq, Nat.reduceBNe, Int.reduceLT, Int.reduceLE, Int.reduceEq, Int.reduceAdd, Int.reduceSub, Int.reduceNeg, decide_true, decide_false, Bool.not_true, Bool.not_false, cond_true, cond_false, beq_self_eq_true, and_self, ne_eq, not_true_eq_false, not_false_eq_true, reduceCtorEq, Bool.true_beq, Bool.false_beq]; simp)
  rintro ⟨x2, ⟨D1, e1⟩, ⟨D2, e2⟩, ⟨D3, e3⟩, G16⟩ hC
  obtain ⟨hd2, hg2, hr2, hc2⟩ := hC
  clear hd1 hg1 hr1 hc1 x1 G14 C1 C2 C3 n1 n2 n3
  simp only
  simp only [go_sem, Nat.reduceAdd, Nat.reduceSub, Nat.reduceMul, Nat.reduceEqDiff, Nat.reduceLT, Nat.reduceLeDiff, Nat.reduceBEq, Nat.reduceBNe, Int.reduceLT, Int.reduceLE, Int.reduceEq, Int.reduceAdd, Int.reduceSub, Int.reduceNeg, decide_true, decide_false, Bool.not_true, Bool.not_false, cond_true, cond_false, beq_self_eq_true, and_self, ne_eq, not_true_eq_false, not_false_eq_true, reduceCtorEq, Bool.true_beq, Bool.false_beq]
  refine cut_code2 (N := 3000) (ι := Int × Dev × (Option Addr × Nat) × (Option Addr × Nat) × (Option Addr × Nat) × Nat × GW)
    (fun i => match i with | (e, z, (F1, f1), (F2, f2), (F3, f3), g3, G) => ⟨[(4, .c (.v (.slice A' keep.length c'))), (11, .c (.p 0 g1 0)), (12, .c (.v (.slice Ab b.length cb))), (13, .c (.v (.slice Ay y.length cy))), (14, .c (.v (.slice Al k3 cl))), (15, .c (.v (.int .i64 (k1 : Int)))), (17, .c (.v (.int .i64 0))), (18, .c (.v (.int .i64 0))), (19, .c (.v (.int .i64 0))), (20, .c (.p 2 g3 0)), (21, .c (.v (.int .i64 e)))],
      [⟨2, g3, 37, [.v (.slice F1 z.safe.length f1), .v (.slice F2 z.cache.length f2), .v (.slice F3 z.vols.length f3), .v (.int .i64 z.fuel)]⟩, ⟨0, g1, 32, [.v (.int .i64 g.ring), .v (.int .i64 g.area), .v (.int .i64 g.hot), .v (.int .i64 g.volume), .v (.int .i64 g.volumes)]⟩], [], [], [G, G9, G7, G4, ⟨Non, w⟩], 3⟩)
    (fun i => match i with | (e, z, (F1, f1), (F2, f2), (F3, f3), g3, G) => DevG G (.agg #[.slice F1 z.safe.length f1, .slice F2 z.cache.length f2, .slice F3 z.vols.length f3, .int .i64 z.fuel]) z ∧ GoodDev g z ∧ (e = 0 ∨ e = 10) ∧ (readTo g (crashDev z keep 0) l l.length).take b.length = b ∧ (e = 0 → (readTo g (crashDev z keep 0) r r.length).take y.length = y)) (QOk_body _ _ _) ?_ ?_
  · rintro ⟨e, z, ⟨F1, f1⟩, ⟨F2, f2⟩, ⟨F3, f3⟩, g3, G17⟩ hC
    obtain ⟨hd3, hg3, hee, hrl, hry⟩ := hC
    clear hd2 hg2 hc2 hr2 G16 D1 D2 D3 e1 e2 e3
    simp only
    simp only [go_sem, Nat.reduceAdd, Nat.reduceSub, Nat.reduceMul, Nat.reduceEqDiff, Nat.reduceLT, Nat.reduceLeDiff, Nat.reduceBEq, Nat.reduceBNe, Int.reduceLT, Int.reduceLE, Int.reduceEq, Int.reduceAdd, Int.reduceSub, Int.reduceNeg, decide_true, decide_false, Bool.not_true, Bool.not_false, cond_true, cond_false, beq_self_eq_true, and_self, ne_eq, not_true_eq_false, not_false_eq_true, reduceCtorEq, Bool.true_beq, Bool.false_beq]
    refine plain_ok (N := 3000) (call_does (fun v G => ∃ dv, v = .tuple #[dv, .int .i64 0] ∧ DevG G dv (crashDev z keep 0)) rfl rfl (by kernel_rfl) rfl (by simp only [dOk_some, dOk_none, Nat.reduceLT]) (fun G hG => ret_mono (crash_does (keep := keep) (t := 0) hg hg3 (by omega) hG.wf (tidL hG (by simp) (by simp; decide)) (hd3.mono (hG.le G17 (by simp))) (ScR.mono h4 boolG_mono (hG.le ⟨Non, w⟩ (by simp)))) fun v G' _ h => dev_get h (by decide))) (QOk_body _ _ _) (by first | exact .inl rfl | exact .inr ⟨_, _, rfl, rfl⟩) ?_
    rintro _ ⟨_, G18, ⟨dv, rfl, hd4⟩, hn18, rfl⟩
    clear hn18
    have hg4 := good_crash (keep := keep) (t := 0) hg3 (by omega)
    generalize crashDev z keep 0 = x4 at hd4 hg4 hrl hry
    obtain ⟨E1, i1, E2, i2, E3, i3, rfl, hfo⟩ := hd4.form
    clear hfo
    simp only [go_sem, Nat.reduceAdd, Nat.reduceSub, Nat.reduceMul, Nat.reduceEqDiff, Nat.reduceLT, Nat.reduceLeDiff, Nat.reduceBEq, Nat.reduceBNe, Int.reduceLT, Int.reduceLE, Int.reduceEq, Int.reduceAdd, Int.reduceSub, Int.reduceNeg, decide_true, decide_false, Bool.not_true, Bool.not_false, cond_true, cond_false, beq_self_eq_true, and_self, ne_eq, not_true_eq_false, not_false_eq_true, reduceCtorEq, Bool.true_beq, Bool.false_beq]
    intro g4
    refine draw_ok (N := 3000) (.take 0 (.take 1 (.take 2 (.take 3 (.take 5 (.take 6 (.alt 4 (.alt 7 (.take 8 (.take 9 (.take 10 (.take 11 (.take 12 .done))))) .last) .last))))))) [] (QOk_body _ _ _) follows_mixed (by kernel_rfl) (by kernel_rfl) ?_
    simp only [go_sem, Nat.reduceAdd, Nat.reduceSub, Nat.reduceMul, Nat.reduceEqDiff, Nat.reduceLT, Nat.reduceLeDiff, Nat.reduceBEq, Nat.reduceBNe, Int.reduceLT, Int.reduceLE, Int.reduceEq, Int.reduceAdd, Int.reduceSub, Int.reduceNeg, decide_true, decide_false, Bool.not_true, Bool.not_false, cond_true, cond_false, beq_self_eq_true, and_self, ne_eq, not_true_eq_false, not_false_eq_true, reduceCtorEq, Bool.true_beq, Bool.false_beq]
    refine any_ok2 (N := 3000) (cut_does 0 k1 cl rfl tySlice28 tySize3 rfl rfl ⟨_, _, rfl, by omega⟩ (show 0 + cl = cl from by omega) (by simp) (by simp only [dOk_some, dOk_none, Nat.reduceLT]) (by omega) (by omega) (by omega) (fun G hG => (hsl.mono (hG.le G9 (by simp)) : Sl _ _ _ _ _ _))) (QOk_body _ _ _) rfl (by first | exact .inl rfl | exact .inr ⟨_, _, rfl, rfl⟩) (by intro _ hK; first | (obtain ⟨_, _, _, _, rfl⟩ := hK; exact ⟨rfl, fun _ h => h⟩) | (obtain ⟨_, _, rfl⟩ := hK; exact ⟨rfl, fun _ h => h⟩) | (obtain ⟨_, _, _, _, _, _, rfl⟩ := hK; exact ⟨rfl, fun _ h => List.mem_cons_of_mem _ h⟩) | (obtain ⟨_, _, _, _, _, _, _, rfl⟩ := hK; exact ⟨rfl, fun _ h => List.mem_cons_of_mem _ h⟩) | (obtain rfl := hK; exact ⟨rfl, fun _ h => h⟩)) ?_
    rintro _ ⟨A3, G19, hs3, hn19, rfl⟩
    clear hn19
    have hl3 := hcut1 _ _ _ hs3
    clear hs3
    simp only [go_sem, Nat.reduceAdd, Nat.reduceSub, Nat.reduceMul, Nat.reduceEqDiff, Nat.reduceLT, Nat.reduceLeDiff, Nat.reduceBEq, Nat.reduceBNe, Int.reduceLT, Int.reduceLE, Int.reduceEq, Int.reduceAdd, Int.reduceSub, Int.reduceNeg, decide_true, decide_false, Bool.not_true, Bool.not_false, cond_true, cond_false, beq_self_eq_true, and_self, ne_eq, not_true_eq_false, not_false_eq_true, reduceCtorEq, Bool.true_beq, Bool.false_beq]
    refine any_ok2 (N := 3000) (call_does (fun v G => ∃ A c, v = .tuple #[.slice A b.length c, .int .i64 0] ∧ ByG G (.slice A b.length c) b) rfl rfl (by kernel_rfl) rfl (by simp only [dOk_some, dOk_none, Nat.reduceLT]) (fun G hG => read_gets hg hg4 hroom1 hrl hG.wf (hd4.mono (hG.le G18 (by simp))) (hl3.mono (hG.le G19 (by simp))))) (QOk_body _ _ _) rfl (by first | exact .inl rfl | exact .inr ⟨_, _, rfl, rfl⟩) (by intro _ hK; first | (obtain ⟨_, _, _, _, rfl⟩ := hK; exact ⟨rfl, fun _ h => h⟩) | (obtain ⟨_, _, rfl⟩ := hK; exact ⟨rfl, fun _ h => h⟩) | (obtain ⟨_, _, _, _, _, _, rfl⟩ := hK; exact ⟨rfl, fun _ h => List.mem_cons_of_mem _ h⟩) | (obtain ⟨_, _, _, _, _, _, _, rfl⟩ := hK; exact ⟨rfl, fun _ h => List.mem_cons_of_mem _ h⟩) | (obtain rfl := hK; exact ⟨rfl, fun _ h => h⟩)) ?_
    rintro _ ⟨_, G20, ⟨Ag, cg, rfl, hgot⟩, hn20, rfl⟩
    clear hn20
    simp only [go_sem, Nat.reduceAdd, Nat.reduceSub, Nat.reduceMul, Nat.reduceEqDiff, Nat.reduceLT, Nat.reduceLeDiff, Nat.reduceBEq, Nat.reduceBNe, Int.reduceLT, Int.reduceLE, Int.reduceEq, Int.reduceAdd, Int.reduceSub, Int.reduceNeg, decide_true, decide_false, Bool.not_true, Bool.not_false, cond_true, cond_false, beq_self_eq_true, and_self, ne_eq, not_true_eq_false, not_false_eq_true, reduceCtorEq, Bool.true_beq, Bool.false_beq]
    refine draw_ok (N := 3000) (.take 0 (.take 1 (.take 2 (.take 3 (.take 4 (.take 5 (.take 6 (.take 10 (.take 11 (.alt 7 (.take 8 (.alt 9 (.alt 12 (.take 13 (.take 14 (.take 15 (.take 16 (.take 17 .done))))) .last) .last)) .last)))))))))) [] (QOk_body _ _ _) follows_mixed (by kernel_rfl) (by kernel_rfl) ?_
    simp only [go_sem, Nat.reduceAdd, Nat.reduceSub, Nat.reduceMul, Nat.reduceEqDiff, Nat.reduceLT, Nat.reduceLeDiff, Nat.reduceBEq, Nat.reduceBNe, Int.reduceLT, Int.reduceLE, Int.reduceEq, Int.reduceAdd, Int.reduceSub, Int.reduceNeg, decide_true, decide_false, Bool.not_true, Bool.not_false, cond_true, cond_false, beq_self_eq_true, and_self, ne_eq, not_true_eq_false, not_false_eq_true, reduceCtorEq, Bool.true_beq, Bool.false_beq]
    refine any_ok2 (N := 3000) (call_does (fun v _ => v = .int .i64 (k2 : Int)) rfl rfl (by kernel_rfl) rfl (by simp only [dOk_some, dOk_none, Nat.reduceLT]) (fun G hG => ret_mono (secs_does hG.wf (by omega) (by omega)) fun v G' _ h => by rw [h, hk2])) (QOk_body _ _ _) rfl (by first | exact .inl rfl | exact .inr ⟨_, _, rfl, rfl⟩) (by intro _ hK; first | (obtain ⟨_, _, _, _, rfl⟩ := hK; exact ⟨rfl, fun _ h => h⟩) | (obtain ⟨_, _, rfl⟩ := hK; exact ⟨rfl, fun _ h => h⟩) | (obtain ⟨_, _, _, _, _, _, rfl⟩ := hK; exact ⟨rfl, fun _ h => List.mem_cons_of_mem _ h⟩) | (obtain ⟨_, _, _, _, _, _, _, rfl⟩ := hK; exact ⟨rfl, fun _ h => List.mem_cons_of_mem _ h⟩) | (obtain rfl := hK; exact ⟨rfl, fun _ h => h⟩)) ?_
    rintro _ ⟨_, G21, rfl, hn21, rfl⟩
    clear hn21
    simp only [go_sem, Nat.reduceAdd, Nat.reduceSub, Nat.reduceMul, Nat.reduceEqDiff, Nat.reduceLT, Nat.reduceLeDiff, Nat.reduceBEq, Nat.reduceBNe, Int.reduceLT, Int.reduceLE, Int.reduceEq, Int.reduceAdd, Int.reduceSub, Int.reduceNeg, decide_true, decide_false, Bool.not_true, Bool.not_false, cond_true, cond_false, beq_self_eq_true, and_self, ne_eq, not_true_eq_false, not_false_eq_true, reduceCtorEq, Bool.true_beq, Bool.false_beq]
    refine ⟨by omega, ?_⟩
    refine any_ok2 (N := 3000) (cut_does k1 k2 (cl - k1) rfl tySlice28 tySize3 rfl ⟨_, _, rfl, rfl⟩ ⟨_, _, rfl, by omega⟩ (show k1 + (cl - k1) = cl from by omega) (by simp) (by simp only [dOk_some, dOk_none, Nat.reduceLT]) (by omega) (by omega) (by omega) (fun G hG => (hsl.mono (hG.le G9 (by simp)) : Sl _ _ _ _ _ _))) (QOk_body _ _ _) rfl (by first | exact .inl rfl | exact .inr ⟨_, _, rfl, rfl⟩) (by intro _ hK; first | (obtain ⟨_, _, _, _, rfl⟩ := hK; exact ⟨rfl, fun _ h => h⟩) | (obtain ⟨_, _, rfl⟩ := hK; exact ⟨rfl, fun _ h => h⟩) | (obtain ⟨_, _, _, _, _, _, rfl⟩ := hK; exact ⟨rfl, fun _ h => List.mem_cons_of_mem _ h⟩) | (obtain ⟨_, _, _, _, _, _, _, rfl⟩ := hK; exact ⟨rfl, fun _ h => List.mem_cons_of_mem _ h⟩) | (obtain rfl := hK; exact ⟨rfl, fun _ h => h⟩)) ?_
    rintro _ ⟨A4, G22, hs4, hn22, rfl⟩
    clear hn22
    have hl4 := hcut2 _ _ _ hs4
    clear hs4
    simp only [go_sem, Nat.reduceAdd, Nat.reduceSub, Nat.reduceMul, Nat.reduceEqDiff, Nat.reduceLT, Nat.reduceLeDiff, Nat.reduceBEq, Nat.reduceBNe, Int.reduceLT, Int.reduceLE, Int.reduceEq, Int.reduceAdd, Int.reduceSub, Int.reduceNeg, decide_true, decide_false, Bool.not_true, Bool.not_false, cond_true, cond_false, beq_self_eq_true, and_self, ne_eq, not_true_eq_false, not_false_eq_true, reduceCtorEq, Bool.true_beq, Bool.false_beq]
    refine any_ok2 (N := 3000) (call_does (fun v G => ∃ A c q, v = .tuple #[.slice A y.length c, .int .i64 0] ∧ ByG G (.slice A y.length c) q ∧ (e = 0 → q = y)) rfl rfl (by kernel_rfl) rfl (by simp only [dOk_some, dOk_none, Nat.reduceLT]) (fun G hG => ret_mono (read_does hg hg4 hroom2 hG.wf (hd4.mono (hG.le G18 (by simp))) (hl4.mono (hG.le G22 (by simp)))) fun v G' _ h => by obtain ⟨A, c, rfl, h1, _⟩ := h; exact ⟨A, c, _, rfl, h1, hry⟩)) (QOk_body _ _ _) rfl (by first | exact .inl rfl | exact .inr ⟨_, _, rfl, rfl⟩) (by intro _ hK; first | (obtain ⟨_, _, _, _, rfl⟩ := hK; exact ⟨rfl, fun _ h => h⟩) | (obtain ⟨_, _, rfl⟩ := hK; exact ⟨rfl, fun _ h => h⟩) | (obtain ⟨_, _, _, _, _, _, rfl⟩ := hK; exact ⟨rfl, fun _ h => List.mem_cons_of_mem _ h⟩) | (obtain ⟨_, _, _, _, _, _, _, rfl⟩ := hK; exact ⟨rfl, fun _ h => List.mem_cons_of_mem _ h⟩) | (obtain rfl := hK; exact ⟨rfl, fun _ h => h⟩)) ?_
    rintro _ ⟨_, G23, ⟨Ah, ch, q, rfl, hgot2, hq⟩, hn23, rfl⟩
    clear hn23
    rcases hee with rfl | rfl
    · obtain rfl := hq rfl
      simp only [go_sem, Nat.reduceAdd, Nat.reduceSub, Nat.reduceMul, Nat.reduceEqDiff, Nat.reduceLT, Nat.reduceLeDiff, Nat.reduceBEq, Nat.reduceBNe, Int.reduceLT, Int.reduceLE, Int.reduceEq, Int.reduceAdd, Int.reduceSub, Int.reduceNeg, decide_true, decide_false, Bool.not_true, Bool.not_false, cond_true, cond_false, beq_self_eq_true, and_self, ne_eq, not_true_eq_false, not_false_eq_true, reduceCtorEq, Bool.true_beq, Bool.false_beq]
      refine plain_ok (N := 3000) (text_does (bs := b) (e := 5) rfl tyStr9 tySlice23 tyInt5 rfl (by simp only [dOk_some, dOk_none, Nat.reduceLT]) (fun G hG => hgot.mono (hG.le G20 (by simp)))) (QOk_body _ _ _) (by first | exact .inl rfl | exact .inr ⟨_, _, rfl, rfl⟩) ?_
      rintro _ rfl
      simp only [go_sem, Nat.reduceAdd, Nat.reduceSub, Nat.reduceMul, Nat.reduceEqDiff, Nat.reduceLT, Nat.reduceLeDiff, Nat.reduceBEq, Nat.reduceBNe, Int.reduceLT, Int.reduceLE, Int.reduceEq, Int.reduceAdd, Int.reduceSub, Int.reduceNeg, decide_true, decide_false, Bool.not_true, Bool.not_false, cond_true, cond_false, beq_self_eq_true, and_self, ne_eq, not_true_eq_false, not_false_eq_true, reduceCtorEq, Bool.true_beq, Bool.false_beq]
      refine plain_ok (N := 3000) (text_does (bs := b) (e := 5) rfl tyStr9 tySlice23 tyInt5 rfl (by simp only [dOk_some, dOk_none, Nat.reduceLT]) (fun G hG => ByG.mono hby (hG.le G4 (by simp)))) (QOk_body _ _ _) (by first | exact .inl rfl | exact .inr ⟨_, _, rfl, rfl⟩) ?_
      rintro _ rfl
      simp only [go_sem, Nat.reduceAdd, Nat.reduceSub, Nat.reduceMul, Nat.reduceEqDiff, Nat.reduceLT, Nat.reduceLeDiff, Nat.reduceBEq, Nat.reduceBNe, Int.reduceLT, Int.reduceLE, Int.reduceEq, Int.reduceAdd, Int.reduceSub, Int.reduceNeg, decide_true, decide_false, Bool.not_true, Bool.not_false, cond_true, cond_false, beq_self_eq_true, and_self, ne_eq, not_true_eq_false, not_false_eq_true, reduceCtorEq, Bool.true_beq, Bool.false_beq]
      refine plain_ok (N := 3000) (text_does (bs := q) (e := 5) rfl tyStr9 tySlice23 tyInt5 rfl (by simp only [dOk_some, dOk_none, Nat.reduceLT]) (fun G hG => hgot2.mono (hG.le G23 (by simp)))) (QOk_body _ _ _) (by first | exact .inl rfl | exact .inr ⟨_, _, rfl, rfl⟩) ?_
      rintro _ rfl
      simp only [go_sem, Nat.reduceAdd, Nat.reduceSub, Nat.reduceMul, Nat.reduceEqDiff, Nat.reduceLT, Nat.reduceLeDiff, Nat.reduceBEq, Nat.reduceBNe, Int.reduceLT, Int.reduceLE, Int.reduceEq, Int.reduceAdd, Int.reduceSub, Int.reduceNeg, decide_true, decide_false, Bool.not_true, Bool.not_false, cond_true, cond_false, beq_self_eq_true, and_self, ne_eq, not_true_eq_false, not_false_eq_true, reduceCtorEq, Bool.true_beq, Bool.false_beq]
      refine plain_ok (N := 3000) (text_does (bs := q) (e := 5) rfl tyStr9 tySlice23 tyInt5 rfl (by simp only [dOk_some, dOk_none, Nat.reduceLT]) (fun G hG => ByG.mono hyy (hG.le G7 (by simp)))) (QOk_body _ _ _) (by first | exact .inl rfl | exact .inr ⟨_, _, rfl, rfl⟩) ?_
      rintro _ rfl
      simp only [go_sem, Nat.reduceAdd, Nat.reduceSub, Nat.reduceMul, Nat.reduceEqDiff, Nat.reduceLT, Nat.reduceLeDiff, Nat.reduceBEq, Nat.reduceBNe, Int.reduceLT, Int.reduceLE, Int.reduceEq, Int.reduceAdd, Int.reduceSub, Int.reduceNeg, decide_true, decide_false, Bool.not_true, Bool.not_false, cond_true, cond_false, beq_self_eq_true, and_self, ne_eq, not_true_eq_false, not_false_eq_true, reduceCtorEq, Bool.true_beq, Bool.false_beq]
      refine fin_ret (G := ⟨Non, w⟩) Try.results15 ?_
      simp only [go_sem, Nat.reduceAdd, Nat.reduceSub, Nat.reduceMul, Nat.reduceEqDiff, Nat.reduceLT, Nat.reduceLeDiff, Nat.reduceBEq, Nat.reduceBNe, Int.reduceLT, Int.reduceLE, Int.reduceEq, Int.reduceAdd, Int.reduceSub, Int.reduceNeg, decide_true, decide_false, Bool.not_true, Bool.not_false, cond_true, cond_false, beq_self_eq_true, and_self, ne_eq, not_true_eq_false, not_false_eq_true, reduceCtorEq, Bool.true_beq, Bool.false_beq]
      intro aa w' _ _
      rfl
    · simp only [go_sem, Nat.reduceAdd, Nat.reduceSub, Nat.reduceMul, Nat.reduceEqDiff, Nat.reduceLT, Nat.reduceLeDiff, Nat.reduceBEq, Nat.reduceBNe, Int.reduceLT, Int.reduceLE, Int.reduceEq, Int.reduceAdd, Int.reduceSub, Int.reduceNeg, decide_true, decide_false, Bool.not_true, Bool.not_false, cond_true, cond_false, beq_self_eq_true, and_self, ne_eq, not_true_eq_false, not_false_eq_true, reduceCtorEq, Bool.true_beq, Bool.false_beq]
      refine plain_ok (N := 3000) (text_does (bs := b) (e := 5) rfl tyStr9 tySlice23 tyInt5 rfl (by simp only [dOk_some, dOk_none, Nat.reduceLT]) (fun G hG => hgot.mono (hG.le G20 (by simp)))) (QOk_body _ _ _) (by first | exact .inl rfl | exact .inr ⟨_, _, rfl, rfl⟩) ?_
      rintro _ rfl
      simp only [go_sem, Nat.reduceAdd, Nat.reduceSub, Nat.reduceMul, Nat.reduceEqDiff, Nat.reduceLT, Nat.reduceLeDiff, Nat.reduceBEq, Nat.reduceBNe, Int.reduceLT, Int.reduceLE, Int.reduceEq, Int.reduceAdd, Int.reduceSub, Int.reduceNeg, decide_true, decide_false, Bool.not_true, Bool.not_false, cond_true, cond_false, beq_self_eq_true, and_self, ne_eq, not_true_eq_false, not_false_eq_true, reduceCtorEq, Bool.true_beq, Bool.false_beq]
      refine plain_ok (N := 3000) (text_does (bs := b) (e := 5) rfl tyStr9 tySlice23 tyInt5 rfl (by simp only [dOk_some, dOk_none, Nat.reduceLT]) (fun G hG => ByG.mono hby (hG.le G4 (by simp)))) (QOk_body _ _ _) (by first | exact .inl rfl | exact .inr ⟨_, _, rfl, rfl⟩) ?_
      rintro _ rfl
      simp only [go_sem, Nat.reduceAdd, Nat.reduceSub, Nat.reduceMul, Nat.reduceEqDiff, Nat.reduceLT, Nat.reduceLeDiff, Nat.reduceBEq, Nat.reduceBNe, Int.reduceLT, Int.reduceLE, Int.reduceEq, Int.reduceAdd, Int.reduceSub, Int.reduceNeg, decide_true, decide_false, Bool.not_true, Bool.not_false, cond_true, cond_false, beq_self_eq_true, and_self, ne_eq, not_true_eq_false, not_false_eq_true, reduceCtorEq, Bool.true_beq, Bool.false_beq]
      refine fin_ret (G := ⟨Non, w⟩) Try.results15 ?_
      simp only [go_sem, Nat.reduceAdd, Nat.reduceSub, Nat.reduceMul, Nat.reduceEqDiff, Nat.reduceLT, Nat.reduceLeDiff, Nat.reduceBEq, Nat.reduceBNe, Int.reduceLT, Int.reduceLE, Int.reduceEq, Int.reduceAdd, Int.reduceSub, Int.reduceNeg, decide_true, decide_false, Bool.not_true, Bool.not_false, cond_true, cond_false, beq_self_eq_true, and_self, ne_eq, not_true_eq_false, not_false_eq_true, reduceCtorEq, Bool.true_beq, Bool.false_beq]
      intro aa w' _ _
      rfl
  · intro k' J hk' hJ
    refine draw_ok (N := 3000) (.take 0 (.take 1 (.take 2 (.take 3 (.take 4 (.take 5 (.take 6 (.take 10 (.alt 7 (.take 8 (.alt 9 (.alt 11 (.take 12 (.take 13 (.take 14 (.alt 15 (.alt 16 (.take 17 .done) .last) .last)))) (.alt 15 (.alt 11 (.take 12 (.take 13 (.take 14 (.alt 16 (.take 17 .done) .last)))) .last) .last)) (.alt 15 (.alt 9 (.alt 11 (.take 12 (.take 13 (.take 14 (.alt 16 (.take 17 .done) .last)))) .last) .last) .last))) (.alt 15 (.alt 7 (.take 8 (.alt 9 (.alt 11 (.take 12 (.take 13 (.take 14 (.alt 16 (.take 17 .done) .last)))) .last) .last)) .last) .last)))))))))) [2] hk' follows_mixed (by kernel_rfl) (by kernel_rfl) ?_
    simp only [go_sem, Nat.reduceAdd, Nat.reduceSub, Nat.reduceMul, Nat.reduceEqDiff, Nat.reduceLT, Nat.reduceLeDiff, Nat.reduceBEq, Nat.reduceBNe, Int.reduceLT, Int.reduceLE, Int.reduceEq, Int.reduceAdd, Int.reduceSub, Int.reduceNeg, decide_true, decide_false, Bool.not_true, Bool.not_false, cond_true, cond_false, beq_self_eq_true, and_self, ne_eq, not_true_eq_false, not_false_eq_true, reduceCtorEq, Bool.true_beq, Bool.false_beq]
    refine ⟨?_, fun g3 => ?_⟩
    · refine any_ok2 (N := 3000) (call_does (fun v _ => v = .int .i64 (k2 : Int)) rfl rfl (by kernel_rfl) rfl (by simp only [dOk_some, dOk_none, Nat.reduceLT]) (fun G hG => ret_mono (secs_does hG.wf (by omega) (by omega)) fun v G' _ h => by rw [h, hk2])) hk' rfl (by first | exact .inl rfl | exact .inr ⟨_, _, rfl, rfl⟩) (by intro _ hK; first | (obtain ⟨_, _, _, _, rfl⟩ := hK; exact ⟨rfl, fun _ h => h⟩) | (obtain ⟨_, _, rfl⟩ := hK; exact ⟨rfl, fun _ h => h⟩) | (obtain ⟨_, _, _, _, _, _, rfl⟩ := hK; exact ⟨rfl, fun _ h => List.mem_cons_of_mem _ h⟩) | (obtain ⟨_, _, _, _, _, _, _, rfl⟩ := hK; exact ⟨rfl, fun _ h => List.mem_cons_of_mem _ h⟩) | (obtain rfl := hK; exact ⟨rfl, fun _ h => h⟩)) ?_
      rintro _ ⟨_, G17, rfl, hn17, rfl⟩
      clear hn17
      simp only [go_sem, Nat.reduceAdd, Nat.reduceSub, Nat.reduceMul, Nat.reduceEqDiff, Nat.reduceLT, Nat.reduceLeDiff, Nat.reduceBEq, Nat.reduceBNe, Int.reduceLT, Int.reduceLE, Int.reduceEq, Int.reduceAdd, Int.reduceSub, Int.reduceNeg, decide_true, decide_false, Bool.not_true, Bool.not_false, cond_true, cond_false, beq_self_eq_true, and_self, ne_eq, not_true_eq_false, not_false_eq_true, reduceCtorEq, Bool.true_beq, Bool.false_beq]
      refine ⟨by omega, ?_⟩
      refine ⟨?_, fun g3 => ?_⟩
      · refine any_ok2 (N := 3000) (cut_does k1 k2 (cl - k1) rfl tySlice28 tySize3 rfl ⟨_, _, rfl, rfl⟩ ⟨_, _, rfl, by omega⟩ (show k1 + (cl - k1) = cl from by omega) (by simp) (by simp only [dOk_some, dOk_none, Nat.reduceLT]) (by omega) (by omega) (by omega) (fun G hG => (hsl.mono (hG.le G9 (by simp)) : Sl _ _ _ _ _ _))) hk' rfl (by first | exact .inl rfl | exact .inr ⟨_, _, rfl, rfl⟩) (by intro _ hK; first | (obtain ⟨_, _, _, _, rfl⟩ := hK; exact ⟨rfl, fun _ h => h⟩) | (obtain ⟨_, _, rfl⟩ := hK; exact ⟨rfl, fun _ h => h⟩) | (obtain ⟨_, _, _, _, _, _, rfl⟩ := hK; exact ⟨rfl, fun _ h => List.mem_cons_of_mem _ h⟩) | (obtain ⟨_, _, _, _, _, _, _, rfl⟩ := hK; exact ⟨rfl, fun _ h => List.mem_cons_of_mem _ h⟩) | (obtain rfl := hK; exact ⟨rfl, fun _ h => h⟩)) ?_
        rintro _ ⟨A2, G18, hs2, hn18, rfl⟩
        clear hn18
        have hl2 := hcut2 _ _ _ hs2
        clear hs2
        simp only [go_sem, Nat.reduceAdd, Nat.reduceSub, Nat.reduceMul, Nat.reduceEqDiff, Nat.reduceLT, Nat.reduceLeDiff, Nat.reduceBEq, Nat.reduceBNe, Int.reduceLT, Int.reduceLE, Int.reduceEq, Int.reduceAdd, Int.reduceSub, Int.reduceNeg, decide_true, decide_false, Bool.not_true, Bool.not_false, cond_true, cond_false, beq_self_eq_true, and_self, ne_eq, not_true_eq_false, not_false_eq_true, reduceCtorEq, Bool.true_beq, Bool.false_beq]
        refine ⟨?_, fun g3 => ?_⟩
        · refine any_ok2 (N := 3000) (call_does (fun v G => ∃ dv e z, v = .tuple #[dv, .int .i64 e] ∧ DevG G dv z ∧ GoodDev g z ∧ (e = 0 ∨ e = 10) ∧ (readTo g (crashDev z keep 0) l l.length).take b.length = b ∧ (e = 0 → (readTo g (crashDev z keep 0) r r.length).take y.length = y)) rfl rfl (by kernel_rfl) rfl (by simp only [dOk_some, dOk_none, Nat.reduceLT]) (fun G hG => ret_mono (write_does hg hg2 hroom2 (by omega) hG.wf (tidL hG (by simp) (by simp; decide)) (hd2.mono (hG.le G16 (by simp))) (hl2.mono (hG.le G18 (by simp))) (ByG.mono hyy (hG.le G7 (by simp)))) fun v G' _ h => died hg hc2 hsp1 hsp2 hap hr2 (by omega) keep h)) hk' rfl (by first | exact .inl rfl | exact .inr ⟨_, _, rfl, rfl⟩) (by intro _ hK; first | (obtain ⟨_, _, _, _, rfl⟩ := hK; exact ⟨rfl, fun _ h => h⟩) | (obtain ⟨_, _, rfl⟩ := hK; exact ⟨rfl, fun _ h => h⟩) | (obtain ⟨_, _, _, _, _, _, rfl⟩ := hK; exact ⟨rfl, fun _ h => List.mem_cons_of_mem _ h⟩) | (obtain ⟨_, _, _, _, _, _, _, rfl⟩ := hK; exact ⟨rfl, fun _ h => List.mem_cons_of_mem _ h⟩) | (obtain rfl := hK; exact ⟨rfl, fun _ h => h⟩)) ?_
          rintro _ ⟨_, G19, ⟨dv, e, z, rfl, hd3, hz⟩, hn19, rfl⟩
          clear hn19
          obtain ⟨F1, f1, F2, f2, F3, f3, rfl, hfo⟩ := hd3.form
          clear hfo
          simp only [go_sem, Nat.reduceAdd, Nat.reduceSub, Nat.reduceMul, Nat.reduceEqDiff, Nat.reduceLT, Nat.reduceLeDiff, Nat.reduceBEq, Nat.reduceBNe, Int.reduceLT, Int.reduceLE, Int.reduceEq, Int.reduceAdd, Int.reduceSub, Int.reduceNeg, decide_true, decide_false, Bool.not_true, Bool.not_false, cond_true, cond_false, beq_self_eq_true, and_self, ne_eq, not_true_eq_false, not_false_eq_true, reduceCtorEq, Bool.true_beq, Bool.false_beq]
          intro g3
          exact hJ (e, z, (F1, f1), (F2, f2), (F3, f3), g3, G19) _ ⟨hd3, hz⟩ (by simp only [go_sem, Nat.reduceAdd, Nat.reduceSub, Nat.reduceMul, Nat.reduceEqDiff, Nat.reduceLT, Nat.reduceLeDiff, Nat.reduceBEq, Nat.reduceBNe, Int.reduceLT, Int.reduceLE, Int.reduceEq, Int.reduceAdd, Int.reduceSub, Int.reduceNeg, decide_true, decide_false, Bool.not_true, Bool.not_false, cond_true, cond_false, beq_self_eq_true, and_self, ne_eq, not_true_eq_false, not_false_eq_true, reduceCtorEq, Bool.true_beq, Bool.false_beq]; simp)
        · refine any_ok2 (N := 3000) (call_does (fun v G => ∃ dv e z, v = .tuple #[dv, .int .i64 e] ∧ DevG G dv z ∧ GoodDev g z ∧ (e = 0 ∨ e = 10) ∧ (readTo g (crashDev z keep 0) l l.length).take b.length = b ∧ (e = 0 → (readTo g (crashDev z keep 0) r r.length).take y.length = y)) rfl rfl (by kernel_rfl) rfl (by simp only [dOk_some, dOk_none, Nat.reduceLT]) (fun G hG => ret_mono (write_does hg hg2 hroom2 (by omega) hG.wf (tidL hG (by simp) (by simp; decide)) (hd2.mono (hG.le G16 (by simp))) (hl2.mono (hG.le G18 (by simp))) (ByG.mono hyy (hG.le G7 (by simp)))) fun v G' _ h => died hg hc2 hsp1 hsp2 hap hr2 (by omega) keep h)) hk' rfl (by first | exact .inl rfl | exact .inr ⟨_, _, rfl, rfl⟩) (by intro _ hK; first | (obtain ⟨_, _, _, _, rfl⟩ := hK; exact ⟨rfl, fun _ h => h⟩) | (obtain ⟨_, _, rfl⟩ := hK; exact ⟨rfl, fun _ h => h⟩) | (obtain ⟨_, _, _, _, _, _, rfl⟩ := hK; exact ⟨rfl, fun _ h => List.mem_cons_of_mem _ h⟩) | (obtain ⟨_, _, _, _, _, _, _, rfl⟩ := hK; exact ⟨rfl, fun _ h => List.mem_cons_of_mem _ h⟩) | (obtain rfl := hK; exact ⟨rfl, fun _ h => h⟩)) ?_
          rintro _ ⟨_, G19, ⟨dv, e, z, rfl, hd3, hz⟩, hn19, rfl⟩
          clear hn19
          obtain ⟨F1, f1, F2, f2, F3, f3, rfl, hfo⟩ := hd3.form
          clear hfo
          simp only [go_sem, Nat.reduceAdd, Nat.reduceSub, Nat.reduceMul, Nat.reduceEqDiff, Nat.reduceLT, Nat.reduceLeDiff, Nat.reduceBEq, Nat.reduceBNe, Int.reduceLT, Int.reduceLE, Int.reduceEq, Int.reduceAdd, Int.reduceSub, Int.reduceNeg, decide_true, decide_false, Bool.not_true, Bool.not_false, cond_true, cond_false, beq_self_eq_true, and_self, ne_eq, not_true_eq_false, not_false_eq_true, reduceCtorEq, Bool.true_beq, Bool.false_beq]
          exact hJ (e, z, (F1, f1), (F2, f2), (F3, f3), g3, G19) _ ⟨hd3, hz⟩ (by simp only [go_sem, Nat.reduceAdd, Nat.reduceSub, Nat.reduceMul, Nat.reduceEqDiff, Nat.reduceLT, Nat.reduceLeDiff, Nat.reduceBEq, Nat.reduceBNe, Int.reduceLT, Int.reduceLE, Int.reduceEq, Int.reduceAdd, Int.reduceSub, Int.reduceNeg, decide_true, decide_false, Bool.not_true, Bool.not_false, cond_true, cond_false, beq_self_eq_true, and_self, ne_eq, not_true_eq_false, not_false_eq_true, reduceCtorEq, Bool.true_beq, Bool.false_beq]; simp)
      · refine any_ok2 (N := 3000) (cut_does k1 k2 (cl - k1) rfl tySlice28 tySize3 rfl ⟨_, _, rfl, rfl⟩ ⟨_, _, rfl, by omega⟩ (show k1 + (cl - k1) = cl from by omega) (by simp) (by simp only [dOk_some, dOk_none, Nat.reduceLT]) (by omega) (by omega) (by omega) (fun G hG => (hsl.mono (hG.le G9 (by simp)) : Sl _ _ _ _ _ _))) hk' rfl (by first | exact .inl rfl | exact .inr ⟨_, _, rfl, rfl⟩) (by intro _ hK; first | (obtain ⟨_, _, _, _, rfl⟩ := hK; exact ⟨rfl, fun _ h => h⟩) | (obtain ⟨_, _, rfl⟩ := hK; exact ⟨rfl, fun _ h => h⟩) | (obtain ⟨_, _, _, _, _, _, rfl⟩ := hK; exact ⟨rfl, fun _ h => List.mem_cons_of_mem _ h⟩) | (obtain ⟨_, _, _, _, _, _, _, rfl⟩ := hK; exact ⟨rfl, fun _ h => List.mem_cons_of_mem _ h⟩) | (obtain rfl := hK; exact ⟨rfl, fun _ h => h⟩)) ?_
        rintro _ ⟨A2, G18, hs2, hn18, rfl⟩
        clear hn18
        have hl2 := hcut2 _ _ _ hs2
        clear hs2
        simp only [go_sem, Nat.reduceAdd, Nat.reduceSub, Nat.reduceMul, Nat.reduceEqDiff, Nat.reduceLT, Nat.reduceLeDiff, Nat.reduceBEq, Nat.reduceBNe, Int.reduceLT, Int.reduceLE, Int.reduceEq, Int.reduceAdd, Int.reduceSub, Int.reduceNeg, decide_true, decide_false, Bool.not_true, Bool.not_false, cond_true, cond_false, beq_self_eq_true, and_self, ne_eq, not_true_eq_false, not_false_eq_true, reduceCtorEq, Bool.true_beq, Bool.false_beq]
        refine any_ok2 (N := 3000) (call_does (fun v G => ∃ dv e z, v = .tuple #[dv, .int .i64 e] ∧ DevG G dv z ∧ GoodDev g z ∧ (e = 0 ∨ e = 10) ∧ (readTo g (crashDev z keep 0) l l.length).take b.length = b ∧ (e = 0 → (readTo g (crashDev z keep 0) r r.length).take y.length = y)) rfl rfl (by kernel_rfl) rfl (by simp only [dOk_some, dOk_none, Nat.reduceLT]) (fun G hG => ret_mono (write_does hg hg2 hroom2 (by omega) hG.wf (tidL hG (by simp) (by simp; decide)) (hd2.mono (hG.le G16 (by simp))) (hl2.mono (hG.le G18 (by simp))) (ByG.mono hyy (hG.le G7 (by simp)))) fun v G' _ h => died hg hc2 hsp1 hsp2 hap hr2 (by omega) keep h)) hk' rfl (by first | exact .inl rfl | exact .inr ⟨_, _, rfl, rfl⟩) (by intro _ hK; first | (obtain ⟨_, _, _, _, rfl⟩ := hK; exact ⟨rfl, fun _ h => h⟩) | (obtain ⟨_, _, rfl⟩ := hK; exact ⟨rfl, fun _ h => h⟩) | (obtain ⟨_, _, _, _, _, _, rfl⟩ := hK; exact ⟨rfl, fun _ h => List.mem_cons_of_mem _ h⟩) | (obtain ⟨_, _, _, _, _, _, _, rfl⟩ := hK; exact ⟨rfl, fun _ h => List.mem_cons_of_mem _ h⟩) | (obtain rfl := hK; exact ⟨rfl, fun _ h => h⟩)) ?_
        rintro _ ⟨_, G19, ⟨dv, e, z, rfl, hd3, hz⟩, hn19, rfl⟩
        clear hn19
        obtain ⟨F1, f1, F2, f2, F3, f3, rfl, hfo⟩ := hd3.form
        clear hfo
        simp only [go_sem, Nat.reduceAdd, Nat.reduceSub, Nat.reduceMul, Nat.reduceEqDiff, Nat.reduceLT, Nat.reduceLeDiff, Nat.reduceBEq, Nat.reduceBNe, Int.reduceLT, Int.reduceLE, Int.reduceEq, Int.reduceAdd, Int.reduceSub, Int.reduceNeg, decide_true, decide_false, Bool.not_true, Bool.not_false, cond_true, cond_false, beq_self_eq_true, and_self, ne_eq, not_true_eq_false, not_false_eq_true, reduceCtorEq, Bool.true_beq, Bool.false_beq]
        exact hJ (e, z, (F1, f1), (F2, f2), (F3, f3), g3, G19) _ ⟨hd3, hz⟩ (by simp only [go_sem, Nat.reduceAdd, Nat.reduceSub, Nat.reduceMul, Nat.reduceEqDiff, Nat.reduceLT, Nat.reduceLeDiff, Nat.reduceBEq, Nat.reduceBNe, Int.reduceLT, Int.reduceLE, Int.reduceEq, Int.reduceAdd, Int.reduceSub, Int.reduceNeg, decide_true, decide_false, Bool.not_true, Bool.not_false, cond_true, cond_false, beq_self_eq_true, and_self, ne_eq, not_true_eq_false, not_false_eq_true, reduceCtorEq, Bool.true_beq, Bool.false_beq]; simp)
    · refine any_ok2 (N := 3000) (call_does (fun v _ => v = .int .i64 (k2 : Int)) rfl rfl (by kernel_rfl) rfl (by simp only [dOk_some, dOk_none, Nat.reduceLT]) (fun G hG => ret_mono (secs_does hG.wf (by omega) (by omega)) fun v G' _ h => by rw [h, hk2])) hk' rfl (by first | exact .inl rfl | exact .inr ⟨_, _, rfl, rfl⟩) (by intro _ hK; first | (obtain ⟨_, _, _, _, rfl⟩ := hK; exact ⟨rfl, fun _ h => h⟩) | (obtain ⟨_, _, rfl⟩ := hK; exact ⟨rfl, fun _ h => h⟩) | (obtain ⟨_, _, _, _, _, _, rfl⟩ := hK; exact ⟨rfl, fun _ h => List.mem_cons_of_mem _ h⟩) | (obtain ⟨_, _, _, _, _, _, _, rfl⟩ := hK; exact ⟨rfl, fun _ h => List.mem_cons_of_mem _ h⟩) | (obtain rfl := hK; exact ⟨rfl, fun _ h => h⟩)) ?_
      rintro _ ⟨_, G17, rfl, hn17, rfl⟩
      clear hn17
      simp only [go_sem, Nat.reduceAdd, Nat.reduceSub, Nat.reduceMul, Nat.reduceEqDiff, Nat.reduceLT, Nat.reduceLeDiff, Nat.reduceBEq, Nat.reduceBNe, Int.reduceLT, Int.reduceLE, Int.reduceEq, Int.reduceAdd, Int.reduceSub, Int.reduceNeg, decide_true, decide_false, Bool.not_true, Bool.not_false, cond_true, cond_false, beq_self_eq_true, and_self, ne_eq, not_true_eq_false, not_false_eq_true, reduceCtorEq, Bool.true_beq, Bool.false_beq]
      refine ⟨by omega, ?_⟩
      refine any_ok2 (N := 3000) (cut_does k1 k2 (cl - k1) rfl tySlice28 tySize3 rfl ⟨_, _, rfl, rfl⟩ ⟨_, _, rfl, by omega⟩ (show k1 + (cl - k1) = cl from by omega) (by simp) (by simp only [dOk_some, dOk_none, Nat.reduceLT]) (by omega) (by omega) (by omega) (fun G hG => (hsl.mono (hG.le G9 (by simp)) : Sl _ _ _ _ _ _))) hk' rfl (by first | exact .inl rfl | exact .inr ⟨_, _, rfl, rfl⟩) (by intro _ hK; first | (obtain ⟨_, _, _, _, rfl⟩ := hK; exact ⟨rfl, fun _ h => h⟩) | (obtain ⟨_, _, rfl⟩ := hK; exact ⟨rfl, fun _ h => h⟩) | (obtain ⟨_, _, _, _, _, _, rfl⟩ := hK; exact ⟨rfl, fun _ h => List.mem_cons_of_mem _ h⟩) | (obtain ⟨_, _, _, _, _, _, _, rfl⟩ := hK; exact ⟨rfl, fun _ h => List.mem_cons_of_mem _ h⟩) | (obtain rfl := hK; exact ⟨rfl, fun _ h => h⟩)) ?_
      rintro _ ⟨A2, G18, hs2, hn18, rfl⟩
      clear hn18
      have hl2 := hcut2 _ _ _ hs2
      clear hs2
      simp only [go_sem, Nat.reduceAdd, Nat.reduceSub, Nat.reduceMul, Nat.reduceEqDiff, Nat.reduceLT, Nat.reduceLeDiff, Nat.reduceBEq, Nat.reduceBNe, Int.reduceLT, Int.reduceLE, Int.reduceEq, Int.reduceAdd, Int.reduceSub, Int.reduceNeg, decide_true, decide_false, Bool.not_true, Bool.not_false, cond_true, cond_false, beq_self_eq_true, and_self, ne_eq, not_true_eq_false, not_false_eq_true, reduceCtorEq, Bool.true_beq, Bool.false_beq]
      refine any_ok2 (N := 3000) (call_does (fun v G => ∃ dv e z, v = .tuple #[dv, .int .i64 e] ∧ DevG G dv z ∧ GoodDev g z ∧ (e = 0 ∨ e = 10) ∧ (readTo g (crashDev z keep 0) l l.length).take b.length = b ∧ (e = 0 → (readTo g (crashDev z keep 0) r r.length).take y.length = y)) rfl rfl (by kernel_rfl) rfl (by simp only [dOk_some, dOk_none, Nat.reduceLT]) (fun G hG => ret_mono (write_does hg hg2 hroom2 (by omega) hG.wf (tidL hG (by simp) (by simp; decide)) (hd2.mono (hG.le G16 (by simp))) (hl2.mono (hG.le G18 (by simp))) (ByG.mono hyy (hG.le G7 (by simp)))) fun v G' _ h => died hg hc2 hsp1 hsp2 hap hr2 (by omega) keep h)) hk' rfl (by first | exact .inl rfl | exact .inr ⟨_, _, rfl, rfl⟩) (by intro _ hK; first | (obtain ⟨_, _, _, _, rfl⟩ := hK; exact ⟨rfl, fun _ h => h⟩) | (obtain ⟨_, _, rfl⟩ := hK; exact ⟨rfl, fun _ h => h⟩) | (obtain ⟨_, _, _, _, _, _, rfl⟩ := hK; exact ⟨rfl, fun _ h => List.mem_cons_of_mem _ h⟩) | (obtain ⟨_, _, _, _, _, _, _, rfl⟩ := hK; exact ⟨rfl, fun _ h => List.mem_cons_of_mem _ h⟩) | (obtain rfl := hK; exact ⟨rfl, fun _ h => h⟩)) ?_
      rintro _ ⟨_, G19, ⟨dv, e, z, rfl, hd3, hz⟩, hn19, rfl⟩
      clear hn19
      obtain ⟨F1, f1, F2, f2, F3, f3, rfl, hfo⟩ := hd3.form
      clear hfo
      simp only [go_sem, Nat.reduceAdd, Nat.reduceSub, Nat.reduceMul, Nat.reduceEqDiff, Nat.reduceLT, Nat.reduceLeDiff, Nat.reduceBEq, Nat.reduceBNe, Int.reduceLT, Int.reduceLE, Int.reduceEq, Int.reduceAdd, Int.reduceSub, Int.reduceNeg, decide_true, decide_false, Bool.not_true, Bool.not_false, cond_true, cond_false, beq_self_eq_true, and_self, ne_eq, not_true_eq_false, not_false_eq_true, reduceCtorEq, Bool.true_beq, Bool.false_beq]
      exact hJ (e, z, (F1, f1), (F2, f2), (F3, f3), g3, G19) _ ⟨hd3, hz⟩ (by simp only [go_sem, Nat.reduceAdd, Nat.reduceSub, Nat.reduceMul, Nat.reduceEqDiff, Nat.reduceLT, Nat.reduceLeDiff, Nat.reduceBEq, Nat.reduceBNe, Int.reduceLT, Int.reduceLE, Int.reduceEq, Int.reduceAdd, Int.reduceSub, Int.reduceNeg, decide_true, decide_false, Bool.not_true, Bool.not_false, cond_true, cond_false, beq_self_eq_true, and_self, ne_eq, not_true_eq_false, not_false_eq_true, reduceCtorEq, Bool.true_beq, Bool.false_beq]; simp)
theorem writeDies_walk {w : World} (a0 : Int) (w0 : (Lit.int .i64 a0).wf = true) (s : ByteArray) (hs : s.size ≤ 1048576) (t : ByteArray) (ht : t.size ≤ 1048576) (a3 : Int) (w3 : (Lit.int .i64 a3).wf = true) (v4 : Value) (keep : List Bool) (h4 : BoolsG ⟨Non, w⟩ v4 keep) :
    Calls Try.prog 15 #[.int .i64 a0, .string s, .string t, .int .i64 a3, v4] w fun e w' => e = .returned (.bool true) ∧ Below w.heap.size w w' :=
  (writeDies_ret a0 w0 s (by unfold maxLen; omega) t (by unfold maxLen; omega) a3 w3 v4 keep h4).mono fun e w' ⟨v, he, hv, hc⟩ => ⟨by rw [he, hv], hc.below⟩
end Go.Proofs.Ytomfladifefomaa
