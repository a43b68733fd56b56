/- 'icehousekeep.TakeGone' returns true for every text and int. Conditions: none. -/
import Derived.Test.YtomfladifefomaaT15
import Derived.Test.YtomfladifefomaaTy
namespace Go.Proofs.Ytomfladifefomaa
open Go.RowKit
set_option linter.unusedSimpArgs false
/-- own boxes are of other types than devices lie in -/
def Tidy (G : GW) : Prop := ∀ k, G.M k → ∀ cur t fr, G.w.heap[k]? = some (.cells cur t fr) → devX t = false
def DevT (G : GW) (dv : Value) (d : Dev) : Prop := DevR G.w dv d ∧ Tidy G
theorem keepX_of {G G' : GW} (h : G.Le G') (ht : Tidy G) : KeepX devX G.w G'.w :=
  ⟨h.size, fun g cur t fr hg hx => (h.keep g (lt_of_block hg) (fun hm => by rw [ht g hm cur t fr hg] at hx; cases hx)).1.trans hg⟩
theorem DevT.at_ {G G' : GW} {dv : Value} {d : Dev} (h : DevT G dv d) (hl : G.Le G') : DevR G'.w dv d := DevR.keep (X := devX) rfl rfl rfl rfl (keepX_of hl h.2) h.1
theorem tidy_of {E : Env} {σ : St} {G : GW} (hn : Now E σ G) (hE : ∀ k, ¬ E.M k) (hr : σ.rows = []) (hb : ∀ b ∈ σ.blks, devX b.t = false) : Tidy G := by
  intro k hm cur t fr hk
  rcases hn.only k hm with q | ⟨b, hb', rfl⟩ | ⟨r, hr', _⟩
  · exact absurd q (hE k)
  · have := hn.blks b hb'
    unfold Blk at this
    rw [this] at hk
    cases hk
    exact hb b hb'
  · rw [hr] at hr'; cases hr'
theorem DevR.form {w : World} {dv : Value} {d : Dev} (h : DevR w dv d) : ∃ A1 c1 A2 c2 A3 c3, dv = .agg #[.slice A1 d.safe.length c1, .slice A2 d.cache.length c2, .slice A3 d.vols.length c3, .int .i64 d.fuel] := by
  obtain ⟨s', c', v', rfl, h1, h2, h3⟩ := h
  obtain ⟨A1, c1, rfl, _⟩ := SeqR.form h1
  obtain ⟨A2, c2, rfl, _⟩ := SeqR.form h2
  obtain ⟨A3, c3, rfl, _⟩ := SeqR.form h3
  exact ⟨A1, c1, A2, c2, A3, c3, rfl⟩
theorem tg_form {w : World} {dv : Value} {bs : List UInt8} {v : Nat} (h : DevR w dv (tg bs v)) : ∃ A1 c1 A2 c2 A3 c3, dv = .agg #[.slice A1 18 c1, .slice A2 0 c2, .slice A3 v c3, .int .i64 (-1)] := by
  obtain ⟨A1, c1, A2, c2, A3, c3, rfl⟩ := h.form
  refine ⟨A1, c1, A2, c2, A3, c3, ?_⟩
  rw [tg_len]
  have h1 : (tg bs v).safe.length = 18 := by simp [tg, newDev, sectorsOf, smallGeo]
  have h2 : (tg bs v).cache.length = 0 := rfl
  have h3 : (tg bs v).fuel = -1 := rfl
  rw [h1, h2, h3]
def geoS : Value := .agg #[.int .i64 6, .int .i64 2, .int .i64 6, .int .i64 300, .int .i64 3]
theorem tg_append (bs : List UInt8) (v : Nat) (dv bv : Value) (w : World) (h : DevR w dv (tg bs v)) (hb : BytesR w bv bs) (hl : bs.length ≤ 50) (hv : v < 3) :
    Calls Try.prog 29 #[.agg #[.int .i64 6, .int .i64 2, .int .i64 6, .int .i64 300, .int .i64 3], dv, .int .i64 (v : Int), bv] w fun e w' => ∃ dv', e = .returned (.tuple #[dv', .int .i64 0]) ∧ DevR w' dv' (tg bs (v + 1)) ∧ Below w.heap.size w w' := by
  have h1 := append_fresh smallGeo smallGood (tg bs v) (tg_good bs v (by omega) hl) (tg_fuel bs v) dv bv bs w h hb (by rw [tg_len]; show (v : Int) < 3; omega) (by show (bs.length : Int) ≤ 300; omega)
  rw [tg_len, tg_succ] at h1
  exact h1
/-- small devices, one volume taken away -/
def td (bs : List UInt8) (m r : Nat) : Dev := { spent (tg bs m) with vols := (spent (tg bs m)).vols.set r ⟨[], 0, true⟩ }
theorem td_form {w : World} {dv : Value} {bs : List UInt8} {m r : Nat} (h : DevR w dv (td bs m r)) : ∃ A1 c1 A2 c2 A3 c3, dv = .agg #[.slice A1 18 c1, .slice A2 0 c2, .slice A3 m c3, .int .i64 (-1)] := by
  obtain ⟨A1, c1, A2, c2, A3, c3, rfl⟩ := h.form
  refine ⟨A1, c1, A2, c2, A3, c3, ?_⟩
  have h1 : (td bs m r).safe.length = 18 := by simp [td, spent, tg, newDev, sectorsOf, smallGeo]
  have h2 : (td bs m r).cache.length = 0 := rfl
  have h3 : (td bs m r).fuel = -1 := rfl
  have h4 : (td bs m r).vols.length = m := by simp [td, spent, tg]
  rw [h1, h2, h3, h4]
theorem td_good (bs : List UInt8) (m r : Nat) (hm : m ≤ 3) (hb : bs.length ≤ 50) : GoodDev smallGeo (td bs m r) := by
  have h := newGood smallGeo smallGood
  refine ⟨h.safe, h.rows, h.most, h.cache, ?_, ?_, h.f1, h.f2⟩
  · show (((List.replicate m _).set r _).length : Int) ≤ 3
    rw [List.length_set, List.length_replicate]; omega
  · intro x hx
    have hx' : x ∈ (List.replicate m (⟨bs, 0, false⟩ : Vol)).set r ⟨[], 0, true⟩ := hx
    rcases List.mem_or_eq_of_mem_set hx' with h1 | h1
    · have : x = ⟨bs, 0, false⟩ := (List.mem_replicate.1 h1).2
      subst this
      show vBad bs.length 0 false 300 = false
      simp [vBad]; omega
    · subst h1
      show vBad 0 0 true 300 = false
      simp [vBad]
theorem td_vol (bs : List UInt8) (m r : Nat) (h : r < m) : volOk (td bs m r) (r : Int) = false := by
  simp [volOk, td, spent, tg, h]
theorem td_fresh (bs : List UInt8) (m r : Nat) (h : r < m) : ¬ ((r : Int) = ((td bs m r).vols.length : Int) ∧ (r : Int) < smallGeo.volumes) := by
  have h4 : (td bs m r).vols.length = m := by simp [td, spent, tg]
  rw [h4]; omega
theorem tdiv3_bd (n : Int) (h1 : -9223372036854775808 ≤ n) (h2 : n ≤ 9223372036854775807) : -9223372036854775808 ≤ n.tdiv 3 ∧ n.tdiv 3 ≤ 9223372036854775807 := by
  rcases Int.le_total 0 n with h | h
  · rw [Int.tdiv_eq_ediv_of_nonneg h]; omega
  · have e : n.tdiv 3 = -((-n) / 3) := by
      rw [← Int.tdiv_eq_ediv_of_nonneg (by omega : 0 ≤ -n), Int.neg_tdiv]; omega
    rw [e]; omega
theorem wf_non (w : World) : GW.Wf ⟨Non, w⟩ := fun _ h => h.elim
set_option maxRecDepth 100000 in
set_option maxHeartbeats 4000000 in
theorem takeGone_ret (s : ByteArray) (hs : s.size ≤ maxLen) (n : Int) (hn : (Lit.int .i64 n).wf = true) (w : World) :
    Calls Try.prog 4 #[.string s, .int .i64 n] w (Ret ⟨Non, w⟩ fun v _ => v = .bool true) := by
  obtain ⟨hn1, hn2⟩ := i64_bd hn
  obtain ⟨p1, p2⟩ := pick_bd n 3 (by omega)
  refine enter (G := ⟨Non, w⟩) (n := 107) 3000 (wf_non w) Try.func4 rfl Try.ntmps4 (by simp) ?_
  simp only [go_sem, Nat.reduceAdd, Nat.reduceSub, Nat.reduceMul, Nat.reduceEqDiff, Nat.reduceLT, Nat.reduceLeDiff, Nat.reduceBEq, Nat.reduceBNe, Int.reduceLT, Int.reduceLE, Int.reduceEq, Int.reduceAdd, Int.reduceSub, Int.reduceNeg, decide_true, decide_false, Bool.not_true, Bool.not_false, cond_true, cond_false, beq_self_eq_true, and_self, ne_eq, not_true_eq_false, not_false_eq_true, reduceCtorEq, Bool.true_beq, Bool.false_beq]
  refine plain_ok (N := 3000) (call_does (fun v _ => v = .agg #[.int .i64 6, .int .i64 2, .int .i64 6, .int .i64 300, .int .i64 3]) rfl rfl (by kernel_rfl) rfl (by simp only [dOk_some, dOk_none, Nat.reduceLT]) (fun G hG => ret_of (small_any _) ?_)) (QOk_body _ _ _) (.inl rfl) ?_
  · rintro e w' ⟨rfl, hb⟩
    exact ⟨_, rfl, rfl, hb⟩
  rintro _ ⟨v, G1, rfl, hn1, rfl⟩
  simp only [go_sem, Nat.reduceAdd, Nat.reduceSub, Nat.reduceMul, Nat.reduceEqDiff, Nat.reduceLT, Nat.reduceLeDiff, Nat.reduceBEq, Nat.reduceBNe, Int.reduceLT, Int.reduceLE, Int.reduceEq, Int.reduceAdd, Int.reduceSub, Int.reduceNeg, decide_true, decide_false, Bool.not_true, Bool.not_false, cond_true, cond_false, beq_self_eq_true, and_self, ne_eq, not_true_eq_false, not_false_eq_true, reduceCtorEq, Bool.true_beq, Bool.false_beq]
  intro g1
  obtain ⟨bs, hbs⟩ : ∃ bs : List UInt8, bs = (s.extract 0 (min s.size 50)).data.toList := ⟨_, rfl⟩
  have hbl : bs.length ≤ 50 := by
    rw [hbs, Array.length_toList]
    show (s.extract 0 (min s.size 50)).size ≤ 50
    simp; omega
  refine plain_ok (N := 3000) (call_does (fun v G => ∃ dv, v = .tuple #[dv, .int .i64 0] ∧ DevR G.w dv (tg bs 0)) rfl rfl (by kernel_rfl) rfl (by simp only [dOk_some, dOk_none, Nat.reduceLT]) (fun G hG => ret_of (new_any smallGeo smallGood _) ?_)) (QOk_body _ _ _) (.inl rfl) ?_
  · rintro e w' ⟨dv, rfl, hd, hb⟩
    exact ⟨_, rfl, ⟨_, rfl, hd⟩, hb⟩
  rintro _ ⟨_, G2, ⟨dv, rfl, hd0⟩, hn2, rfl⟩
  obtain ⟨A1, c1, A2, c2, A3, c3, rfl⟩ := tg_form hd0
  have hd : DevT G2 _ (tg bs 0) := ⟨hd0, tidy_of hn2 (fun _ h => h) rfl (by simp; decide)⟩
  simp only [go_sem, Nat.reduceAdd, Nat.reduceSub, Nat.reduceMul, Nat.reduceEqDiff, Nat.reduceLT, Nat.reduceLeDiff, Nat.reduceBEq, Nat.reduceBNe, Int.reduceLT, Int.reduceLE, Int.reduceEq, Int.reduceAdd, Int.reduceSub, Int.reduceNeg, decide_true, decide_false, Bool.not_true, Bool.not_false, cond_true, cond_false, beq_self_eq_true, and_self, ne_eq, not_true_eq_false, not_false_eq_true, reduceCtorEq, Bool.true_beq, Bool.false_beq]
  intro g2
  clear hn1 hn2
  obtain ⟨q, hq⟩ := Int.eq_ofNat_of_zero_le p1
  have hq2 : q < 3 := by omega
  refine plain_ok (N := 3000) (call_does (fun v _ => v = .int .i64 (q : Int)) rfl rfl (by kernel_rfl) rfl (by simp only [dOk_some, dOk_none, Nat.reduceLT]) (fun G hG => ret_of (picked_any n 3 _ (by omega) (by omega) (by omega) (by omega)) ?_)) (QOk_body _ _ _) (.inl rfl) ?_
  · rintro e w' ⟨rfl, rfl⟩
    exact ⟨_, rfl, by rw [hq], Below.refl _ _⟩
  rintro _ ⟨v, G3, rfl, hn3, rfl⟩
  clear hn3
  simp only [go_sem, Nat.reduceAdd, Nat.reduceSub, Nat.reduceMul, Nat.reduceEqDiff, Nat.reduceLT, Nat.reduceLeDiff, Nat.reduceBEq, Nat.reduceBNe, Int.reduceLT, Int.reduceLE, Int.reduceEq, Int.reduceAdd, Int.reduceSub, Int.reduceNeg, decide_true, decide_false, Bool.not_true, Bool.not_false, cond_true, cond_false, beq_self_eq_true, and_self, ne_eq, not_true_eq_false, not_false_eq_true, reduceCtorEq, Bool.true_beq, Bool.false_beq]
  refine ⟨by omega, ?_⟩
  refine loop_ok (N := 3000) (ι := Nat × Option Addr × Nat × Option Addr × Nat × Option Addr × Nat × GW)
    (fun i => match i with | (v, B1, d1, B2, d2, B3, d3, G) => ⟨[(0, .c (.v (.string s))), (1, .c (.v (.int .i64 n))), (5, .c (.p 0 g1 0)), (6, .c (.p 1 g2 0)), (7, .c (.v (.int .i64 0))), (8, .c (.v (.int .i64 (1 + (q : Int))))), (9, .c (.v (.int .i64 (v : Int))))],
      [⟨1, g2, 37, [.v (.slice B1 18 d1), .v (.slice B2 0 d2), .v (.slice B3 v d3), .v (.int .i64 (-1))]⟩, ⟨0, g1, 32, [.v (.int .i64 6), .v (.int .i64 2), .v (.int .i64 6), .v (.int .i64 300), .v (.int .i64 3)]⟩], [], [], [G], 2⟩)
    (fun i => match i with | (v, B1, d1, B2, d2, B3, d3, G) => v ≤ 1 + q ∧ DevT G (.agg #[.slice B1 18 d1, .slice B2 0 d2, .slice B3 v d3, .int .i64 (-1)]) (tg bs v))
    (fun i => 1 + q - i.1) (QOk_body _ _ _) (0, A1, c1, A2, c2, A3, c3, G2) ⟨by omega, hd⟩ (by simp only [go_sem, Nat.reduceAdd, Nat.reduceSub, Nat.reduceMul, Nat.reduceEqDiff, Nat.reduceLT, Nat.reduceLeDiff, Nat.reduceBEq, Nat.reduceBNe, Int.reduceLT, Int.reduceLE, Int.reduceEq, Int.reduceAdd, Int.reduceSub, Int.reduceNeg, decide_true, decide_false, Bool.not_true, Bool.not_false, cond_true, cond_false, beq_self_eq_true, and_self, ne_eq, not_true_eq_false, not_false_eq_true, reduceCtorEq, Bool.true_beq, Bool.false_beq]; simp) ?_
  clear hd hd0 G2 A1 c1 A2 c2 A3 c3 G3
  rintro ⟨v, A1, c1, A2, c2, A3, c3, G2⟩ ⟨hv, hd⟩
  simp only
  simp only [go_sem, Nat.reduceAdd, Nat.reduceSub, Nat.reduceMul, Nat.reduceEqDiff, Nat.reduceLT, Nat.reduceLeDiff, Nat.reduceBEq, Nat.reduceBNe, Int.reduceLT, Int.reduceLE, Int.reduceEq, Int.reduceAdd, Int.reduceSub, Int.reduceNeg, decide_true, decide_false, Bool.not_true, Bool.not_false, cond_true, cond_false, beq_self_eq_true, and_self, ne_eq, not_true_eq_false, not_false_eq_true, reduceCtorEq, Bool.true_beq, Bool.false_beq]
  refine Wb_mk (fun hlt => ?_) (fun hge => ?_)
  · have hlt' : v < 1 + q := by simp at hlt; omega
    refine draw_ok (N := 3000) (.take 0 (.take 1 (.take 2 (.take 3 (.take 4 (.take 5 (.take 6 (.take 7 (.alt 8 (.alt 9 (.take 10 (.take 11 (.take 12 (.alt 13 (.alt 14 (.take 15 .done) .last) .last)))) (.alt 13 (.alt 9 (.take 10 (.take 11 (.take 12 (.alt 14 (.take 15 .done) .last)))) .last) .last)) (.alt 13 (.alt 8 (.alt 9 (.take 10 (.take 11 (.take 12 (.alt 14 (.take 15 .done) .last)))) .last) .last) .last)))))))))) [] (QOk_body _ _ _) follows_mixed (by kernel_rfl) (by kernel_rfl) ?_
    simp only [go_sem, Nat.reduceAdd, Nat.reduceSub, Nat.reduceMul, Nat.reduceEqDiff, Nat.reduceLT, Nat.reduceLeDiff, Nat.reduceBEq, Nat.reduceBNe, Int.reduceLT, Int.reduceLE, Int.reduceEq, Int.reduceAdd, Int.reduceSub, Int.reduceNeg, decide_true, decide_false, Bool.not_true, Bool.not_false, cond_true, cond_false, beq_self_eq_true, and_self, ne_eq, not_true_eq_false, not_false_eq_true, reduceCtorEq, Bool.true_beq, Bool.false_beq]
    have hcut : (s.extract (Int.toNat 0) (min (s.size : Int) 50).toNat).data.toList = bs := by
      rw [hbs]
      congr 3
      omega
    have hsz : (s.extract (Int.toNat 0) (min (s.size : Int) 50).toNat).size ≤ 1000000 := by simp; omega
    refine ⟨by omega, ?_, fun gx => ?_⟩
    · refine any_ok2 (N := 3000) (bytes_does (e := 5) rfl (tyStr9) (tySlice23) (tyInt5) rfl (by simp only [dOk_some, dOk_none, Nat.reduceLT]) hsz) (QOk_body _ _ _) rfl (.inl rfl) (by rintro _ ⟨_, _, _, _, rfl⟩; exact ⟨rfl, fun _ h => h⟩) ?_
      rw [hcut]
      rintro _ ⟨Ab, cb, G3, hby, rfl⟩
      simp only [go_sem, Nat.reduceAdd, Nat.reduceSub, Nat.reduceMul, Nat.reduceEqDiff, Nat.reduceLT, Nat.reduceLeDiff, Nat.reduceBEq, Nat.reduceBNe, Int.reduceLT, Int.reduceLE, Int.reduceEq, Int.reduceAdd, Int.reduceSub, Int.reduceNeg, decide_true, decide_false, Bool.not_true, Bool.not_false, cond_true, cond_false, beq_self_eq_true, and_self, ne_eq, not_true_eq_false, not_false_eq_true, reduceCtorEq, Bool.true_beq, Bool.false_beq]
      refine ⟨?_, fun gx => ?_⟩
      · refine any_ok2 (N := 3000) (call_does (fun u G => ∃ dv', u = .tuple #[dv', .int .i64 0] ∧ DevR G.w dv' (tg bs (v + 1))) rfl rfl (by kernel_rfl) rfl (by simp only [dOk_some, dOk_none, Nat.reduceLT]) (fun G hG => ret_of (tg_append bs v _ _ _ (hd.at_ (hG.le G2 (by simp))) (Sl.mono hby (hG.le G3 (by simp))).tsl hbl (by omega)) ?_)) (QOk_body _ _ _) rfl (.inl rfl) (by rintro _ ⟨_, _, _, _, rfl⟩; exact ⟨rfl, fun _ h => h⟩) ?_
        · rintro e w' ⟨dv', rfl, hd', hb⟩
          exact ⟨_, rfl, ⟨_, rfl, hd'⟩, hb⟩
        rintro _ ⟨_, G4, ⟨dv', rfl, hd5⟩, hn5, rfl⟩
        obtain ⟨B1, d1, B2, d2, B3, d3, rfl⟩ := tg_form hd5
        have hd6 : DevT G4 _ (tg bs (v + 1)) := ⟨hd5, tidy_of hn5 (fun _ h => h) rfl (by simp; decide)⟩
        clear hn5 hd5
        simp only [go_sem, Nat.reduceAdd, Nat.reduceSub, Nat.reduceMul, Nat.reduceEqDiff, Nat.reduceLT, Nat.reduceLeDiff, Nat.reduceBEq, Nat.reduceBNe, Int.reduceLT, Int.reduceLE, Int.reduceEq, Int.reduceAdd, Int.reduceSub, Int.reduceNeg, decide_true, decide_false, Bool.not_true, Bool.not_false, cond_true, cond_false, beq_self_eq_true, and_self, ne_eq, not_true_eq_false, not_false_eq_true, reduceCtorEq, Bool.true_beq, Bool.false_beq]
        intro gx
        refine ⟨by omega, again_ok (v + 1, B1, d1, B2, d2, B3, d3, G4) ⟨by omega, hd6⟩ (by simp only; omega) (by simp only [go_sem, Nat.reduceAdd, Nat.reduceSub, Nat.reduceMul, Nat.reduceEqDiff, Nat.reduceLT, Nat.reduceLeDiff, Nat.reduceBEq, Nat.reduceBNe, Int.reduceLT, Int.reduceLE, Int.reduceEq, Int.reduceAdd, Int.reduceSub, Int.reduceNeg, decide_true, decide_false, Bool.not_true, Bool.not_false, cond_true, cond_false, beq_self_eq_true, and_self, ne_eq, not_true_eq_false, not_false_eq_true, reduceCtorEq, Bool.true_beq, Bool.false_beq]; simp)⟩
      · refine any_ok2 (N := 3000) (call_does (fun u G => ∃ dv', u = .tuple #[dv', .int .i64 0] ∧ DevR G.w dv' (tg bs (v + 1))) rfl rfl (by kernel_rfl) rfl (by simp only [dOk_some, dOk_none, Nat.reduceLT]) (fun G hG => ret_of (tg_append bs v _ _ _ (hd.at_ (hG.le G2 (by simp))) (Sl.mono hby (hG.le G3 (by simp))).tsl hbl (by omega)) ?_)) (QOk_body _ _ _) rfl (.inl rfl) (by rintro _ ⟨_, _, _, _, rfl⟩; exact ⟨rfl, fun _ h => h⟩) ?_
        · rintro e w' ⟨dv', rfl, hd', hb⟩
          exact ⟨_, rfl, ⟨_, rfl, hd'⟩, hb⟩
        rintro _ ⟨_, G4, ⟨dv', rfl, hd5⟩, hn5, rfl⟩
        obtain ⟨B1, d1, B2, d2, B3, d3, rfl⟩ := tg_form hd5
        have hd6 : DevT G4 _ (tg bs (v + 1)) := ⟨hd5, tidy_of hn5 (fun _ h => h) rfl (by simp; decide)⟩
        clear hn5 hd5
        simp only [go_sem, Nat.reduceAdd, Nat.reduceSub, Nat.reduceMul, Nat.reduceEqDiff, Nat.reduceLT, Nat.reduceLeDiff, Nat.reduceBEq, Nat.reduceBNe, Int.reduceLT, Int.reduceLE, Int.reduceEq, Int.reduceAdd, Int.reduceSub, Int.reduceNeg, decide_true, decide_false, Bool.not_true, Bool.not_false, cond_true, cond_false, beq_self_eq_true, and_self, ne_eq, not_true_eq_false, not_false_eq_true, reduceCtorEq, Bool.true_beq, Bool.false_beq]
        refine ⟨by omega, again_ok (v + 1, B1, d1, B2, d2, B3, d3, G4) ⟨by omega, hd6⟩ (by simp only; omega) (by simp only [go_sem, Nat.reduceAdd, Nat.reduceSub, Nat.reduceMul, Nat.reduceEqDiff, Nat.reduceLT, Nat.reduceLeDiff, Nat.reduceBEq, Nat.reduceBNe, Int.reduceLT, Int.reduceLE, Int.reduceEq, Int.reduceAdd, Int.reduceSub, Int.reduceNeg, decide_true, decide_false, Bool.not_true, Bool.not_false, cond_true, cond_false, beq_self_eq_true, and_self, ne_eq, not_true_eq_false, not_false_eq_true, reduceCtorEq, Bool.true_beq, Bool.false_beq]; simp)⟩
    · refine any_ok2 (N := 3000) (bytes_does (e := 5) rfl (tyStr9) (tySlice23) (tyInt5) rfl (by simp only [dOk_some, dOk_none, Nat.reduceLT]) hsz) (QOk_body _ _ _) rfl (.inl rfl) (by rintro _ ⟨_, _, _, _, rfl⟩; exact ⟨rfl, fun _ h => h⟩) ?_
      rw [hcut]
      rintro _ ⟨Ab, cb, G3, hby, rfl⟩
      simp only [go_sem, Nat.reduceAdd, Nat.reduceSub, Nat.reduceMul, Nat.reduceEqDiff, Nat.reduceLT, Nat.reduceLeDiff, Nat.reduceBEq, Nat.reduceBNe, Int.reduceLT, Int.reduceLE, Int.reduceEq, Int.reduceAdd, Int.reduceSub, Int.reduceNeg, decide_true, decide_false, Bool.not_true, Bool.not_false, cond_true, cond_false, beq_self_eq_true, and_self, ne_eq, not_true_eq_false, not_false_eq_true, reduceCtorEq, Bool.true_beq, Bool.false_beq]
      refine any_ok2 (N := 3000) (call_does (fun u G => ∃ dv', u = .tuple #[dv', .int .i64 0] ∧ DevR G.w dv' (tg bs (v + 1))) rfl rfl (by kernel_rfl) rfl (by simp only [dOk_some, dOk_none, Nat.reduceLT]) (fun G hG => ret_of (tg_append bs v _ _ _ (hd.at_ (hG.le G2 (by simp))) (Sl.mono hby (hG.le G3 (by simp))).tsl hbl (by omega)) ?_)) (QOk_body _ _ _) rfl (.inl rfl) (by rintro _ ⟨_, _, _, _, rfl⟩; exact ⟨rfl, fun _ h => h⟩) ?_
      · rintro e w' ⟨dv', rfl, hd', hb⟩
        exact ⟨_, rfl, ⟨_, rfl, hd'⟩, hb⟩
      rintro _ ⟨_, G4, ⟨dv', rfl, hd5⟩, hn5, rfl⟩
      obtain ⟨B1, d1, B2, d2, B3, d3, rfl⟩ := tg_form hd5
      have hd6 : DevT G4 _ (tg bs (v + 1)) := ⟨hd5, tidy_of hn5 (fun _ h => h) rfl (by simp; decide)⟩
      clear hn5 hd5
      simp only [go_sem, Nat.reduceAdd, Nat.reduceSub, Nat.reduceMul, Nat.reduceEqDiff, Nat.reduceLT, Nat.reduceLeDiff, Nat.reduceBEq, Nat.reduceBNe, Int.reduceLT, Int.reduceLE, Int.reduceEq, Int.reduceAdd, Int.reduceSub, Int.reduceNeg, decide_true, decide_false, Bool.not_true, Bool.not_false, cond_true, cond_false, beq_self_eq_true, and_self, ne_eq, not_true_eq_false, not_false_eq_true, reduceCtorEq, Bool.true_beq, Bool.false_beq]
      refine ⟨by omega, again_ok (v + 1, B1, d1, B2, d2, B3, d3, G4) ⟨by omega, hd6⟩ (by simp only; omega) (by simp only [go_sem, Nat.reduceAdd, Nat.reduceSub, Nat.reduceMul, Nat.reduceEqDiff, Nat.reduceLT, Nat.reduceLeDiff, Nat.reduceBEq, Nat.reduceBNe, Int.reduceLT, Int.reduceLE, Int.reduceEq, Int.reduceAdd, Int.reduceSub, Int.reduceNeg, decide_true, decide_false, Bool.not_true, Bool.not_false, cond_true, cond_false, beq_self_eq_true, and_self, ne_eq, not_true_eq_false, not_false_eq_true, reduceCtorEq, Bool.true_beq, Bool.false_beq]; simp)⟩
  · have hv2 : v = 1 + q := by simp at hge; omega
    subst hv2
    obtain ⟨r, hr⟩ := Int.eq_ofNat_of_zero_le (pick_bd (n.tdiv 3) (1 + (q : Int)) (by omega)).1
    have hr2 : r < 1 + q := by have := (pick_bd (n.tdiv 3) (1 + (q : Int)) (by omega)).2; omega
    obtain ⟨t1, t2⟩ := tdiv3_bd n hn1 hn2
    refine ⟨by omega, ?_⟩
    refine plain_ok (N := 3000) (call_does (fun v _ => v = .int .i64 (r : Int)) rfl rfl (by kernel_rfl) rfl (by simp only [dOk_some, dOk_none, Nat.reduceLT]) (fun G hG => ret_of (picked_any (n.tdiv 3) (1 + (q : Int)) _ t1 t2 (by omega) (by omega)) ?_)) (QOk_body _ _ _) (.inl rfl) ?_
    · rintro e w' ⟨rfl, rfl⟩
      exact ⟨_, rfl, by rw [hr], Below.refl _ _⟩
    rintro _ ⟨v, G3, rfl, hn3, rfl⟩
    clear hn3
    simp only [go_sem, Nat.reduceAdd, Nat.reduceSub, Nat.reduceMul, Nat.reduceEqDiff, Nat.reduceLT, Nat.reduceLeDiff, Nat.reduceBEq, Nat.reduceBNe, Int.reduceLT, Int.reduceLE, Int.reduceEq, Int.reduceAdd, Int.reduceSub, Int.reduceNeg, decide_true, decide_false, Bool.not_true, Bool.not_false, cond_true, cond_false, beq_self_eq_true, and_self, ne_eq, not_true_eq_false, not_false_eq_true, reduceCtorEq, Bool.true_beq, Bool.false_beq]
    have hgd := td_good bs (1 + q) r (by omega) hbl
    have hvo := td_vol bs (1 + q) r hr2
    refine plain_ok (N := 3000) (call_does (fun v G => ∃ dv, v = .tuple #[dv, .int .i64 0] ∧ DevR G.w dv (td bs (1 + q) r)) rfl rfl (by kernel_rfl) rfl (by simp only [dOk_some, dOk_none, Nat.reduceLT]) (fun G hG => ret_of (take_ok smallGeo smallGood (tg bs (1 + q)) (tg_good bs _ (by omega) hbl) (tg_fuel bs _) _ r ⟨bs, 0, false⟩ (tg_at bs _ r hr2) rfl _ (hd.at_ (hG.le G2 (by simp)))) ?_)) (QOk_body _ _ _) (.inl rfl) ?_
    · rintro e w' ⟨dv', rfl, hd', hb⟩
      exact ⟨_, rfl, ⟨_, rfl, hd'⟩, hb⟩
    rintro _ ⟨_, G4, ⟨dv', rfl, hd5⟩, hn5, rfl⟩
    obtain ⟨B1, d1, B2, d2, B3, d3, rfl⟩ := td_form hd5
    have hd6 : DevT G4 _ (td bs (1 + q) r) := ⟨hd5, tidy_of hn5 (fun _ h => h) rfl (by simp; decide)⟩
    clear hn5 hd5 hd
    simp only [go_sem, Nat.reduceAdd, Nat.reduceSub, Nat.reduceMul, Nat.reduceEqDiff, Nat.reduceLT, Nat.reduceLeDiff, Nat.reduceBEq, Nat.reduceBNe, Int.reduceLT, Int.reduceLE, Int.reduceEq, Int.reduceAdd, Int.reduceSub, Int.reduceNeg, decide_true, decide_false, Bool.not_true, Bool.not_false, cond_true, cond_false, beq_self_eq_true, and_self, ne_eq, not_true_eq_false, not_false_eq_true, reduceCtorEq, Bool.true_beq, Bool.false_beq]
    refine plain_ok (N := 3000) (call_does (fun v _ => v = .tuple #[.agg #[.slice none 0 0, .slice none 0 0, .slice none 0 0, .int .i64 0], .int .i64 6]) rfl rfl (by kernel_rfl) rfl (by simp only [dOk_some, dOk_none, Nat.reduceLT]) (fun G hG => ret_of (append_none smallGeo smallGood (td bs (1 + q) r) hgd _ (r : Int) _ _ (hd6.at_ (hG.le G4 (by simp))) hvo (td_fresh bs (1 + q) r hr2)) ?_)) (QOk_body _ _ _) (.inl rfl) ?_
    · rintro e w' ⟨rfl, hb⟩
      exact ⟨_, rfl, rfl, hb⟩
    rintro _ ⟨_, G5, rfl, hn5, rfl⟩
    clear hn5
    simp only [go_sem, Nat.reduceAdd, Nat.reduceSub, Nat.reduceMul, Nat.reduceEqDiff, Nat.reduceLT, Nat.reduceLeDiff, Nat.reduceBEq, Nat.reduceBNe, Int.reduceLT, Int.reduceLE, Int.reduceEq, Int.reduceAdd, Int.reduceSub, Int.reduceNeg, decide_true, decide_false, Bool.not_true, Bool.not_false, cond_true, cond_false, beq_self_eq_true, and_self, ne_eq, not_true_eq_false, not_false_eq_true, reduceCtorEq, Bool.true_beq, Bool.false_beq]
    intro g5
    refine plain_ok (N := 3000) (call_does (fun v _ => v = .tuple #[.agg #[.slice none 0 0, .slice none 0 0, .slice none 0 0, .int .i64 0], .int .i64 6]) rfl rfl (by kernel_rfl) rfl (by simp only [dOk_some, dOk_none, Nat.reduceLT]) (fun G hG => ret_of (take_none smallGeo smallGood (td bs (1 + q) r) hgd _ (r : Int) _ (hd6.at_ (hG.le G4 (by simp))) hvo) ?_)) (QOk_body _ _ _) (.inl rfl) ?_
    · rintro e w' ⟨rfl, hb⟩
      exact ⟨_, rfl, rfl, hb⟩
    rintro _ ⟨_, G6, rfl, hn5, rfl⟩
    clear hn5
    simp only [go_sem, Nat.reduceAdd, Nat.reduceSub, Nat.reduceMul, Nat.reduceEqDiff, Nat.reduceLT, Nat.reduceLeDiff, Nat.reduceBEq, Nat.reduceBNe, Int.reduceLT, Int.reduceLE, Int.reduceEq, Int.reduceAdd, Int.reduceSub, Int.reduceNeg, decide_true, decide_false, Bool.not_true, Bool.not_false, cond_true, cond_false, beq_self_eq_true, and_self, ne_eq, not_true_eq_false, not_false_eq_true, reduceCtorEq, Bool.true_beq, Bool.false_beq]
    intro g6
    refine plain_ok (N := 3000) (call_does (fun v _ => v = .tuple #[.slice none 0 0, .int .i64 6]) rfl rfl (by kernel_rfl) rfl (by simp only [dOk_some, dOk_none, Nat.reduceLT]) (fun G hG => ret_of (fetch_none smallGeo smallGood (td bs (1 + q) r) hgd _ (r : Int) 0 0 _ (hd6.at_ (hG.le G4 (by simp))) hvo) ?_)) (QOk_body _ _ _) (.inl rfl) ?_
    · rintro e w' ⟨rfl, hb⟩
      exact ⟨_, rfl, rfl, hb⟩
    rintro _ ⟨_, G7, rfl, hn5, rfl⟩
    clear hn5
    simp only [go_sem, Nat.reduceAdd, Nat.reduceSub, Nat.reduceMul, Nat.reduceEqDiff, Nat.reduceLT, Nat.reduceLeDiff, Nat.reduceBEq, Nat.reduceBNe, Int.reduceLT, Int.reduceLE, Int.reduceEq, Int.reduceAdd, Int.reduceSub, Int.reduceNeg, decide_true, decide_false, Bool.not_true, Bool.not_false, cond_true, cond_false, beq_self_eq_true, and_self, ne_eq, not_true_eq_false, not_false_eq_true, reduceCtorEq, Bool.true_beq, Bool.false_beq]
    refine fin_ret (G := ⟨Non, w⟩) Try.results4 ?_
    simp only [go_sem, Nat.reduceAdd, Nat.reduceSub, Nat.reduceMul, Nat.reduceEqDiff, Nat.reduceLT, Nat.reduceLeDiff, Nat.reduceBEq, Nat.reduceBNe, Int.reduceLT, Int.reduceLE, Int.reduceEq, Int.reduceAdd, Int.reduceSub, Int.reduceNeg, decide_true, decide_false, Bool.not_true, Bool.not_false, cond_true, cond_false, beq_self_eq_true, and_self, ne_eq, not_true_eq_false, not_false_eq_true, reduceCtorEq, Bool.true_beq, Bool.false_beq]
    intro a w' _ _
    show Value.bool (decide (((1 + q : Nat) : Int) = 1 + (q : Int))) = _
    simp
theorem takeGone_walk (s : ByteArray) (hs : s.size ≤ maxLen) (n : Int) (hn : (Lit.int .i64 n).wf = true) (w : World) :
    Calls Try.prog 4 #[.string s, .int .i64 n] w fun e w' => e = .returned (.bool true) ∧ Below w.heap.size w w' :=
  (takeGone_ret s hs n hn w).mono fun e w' ⟨v, he, hv, hc⟩ => ⟨by rw [he, hv], hc.below⟩
end Go.Proofs.Ytomfladifefomaa
