/- 'icehousekeep.RingRound' returns true for every int and text. Conditions: none. -/
import Derived.Test.YtomfladifefomaaR8
import Derived.Test.YtomfladifefomaaU19
import Derived.Test.YtomfladifefomaaU18
import Derived.Test.YtomfladifefomaaP3
namespace Go.Proofs.Ytomfladifefomaa
open Go.RowKit
set_option linter.unusedSimpArgs false
theorem commit_fullC {g : Geo} (hg : GoodGeo g) {d : Dev} (hd : GoodDev g d) (hf : d.fuel = -1) (hc : d.cache.length = 0) {j : Jr} {b snap : List UInt8} {l : List (Int × List UInt8)} (hk : Kept g (content d) j snap l 0) (hbl : b.length ≤ 5000) (h : fullJ g j b) {dv bv : Value} {G0 : GW} (hW : G0.Wf) (hT : Tid bX G0) (hdv : DevG G0 dv d) (hb : ByG G0 bv b) :
    Calls Try.prog 50 #[geoV g, dv, jrV j, bv] G0.w (Ret G0 fun v _ => v = .tuple #[zeroDev, jrV zeroJr, .int .i64 8]) :=
  ret_mono (commit_does hg hd hf hc (kept_weak hk) hbl hW hT hdv hb) fun _ _ _ q => by
    rcases q with ⟨_, q⟩ | ⟨q, _⟩
    · exact q
    · exact absurd h q
theorem commit_fit {g : Geo} (hg : GoodGeo g) {d : Dev} (hd : GoodDev g d) (hf : d.fuel = -1) (hc : d.cache.length = 0) {j : Jr} {b snap : List UInt8} {l : List (Int × List UInt8)} (hk : Kept g (content d) j snap l 0) (hbl : b.length ≤ 5000) (h : ¬ fullJ g j b) :
    ∃ d8 J8, (∀ {dv bv : Value} {G0 : GW}, G0.Wf → Tid bX G0 → DevG G0 dv d → ByG G0 bv b → Calls Try.prog 50 #[geoV g, dv, jrV j, bv] G0.w (Ret G0 fun v G => ∃ dv, v = .tuple #[dv, jrV J8, .int .i64 0] ∧ DevG G dv d8)) ∧
      GoodDev g d8 ∧ d8.fuel = -1 ∧ d8.cache.length = 0 ∧ Kept g (content d8) J8 snap (l ++ [(j.epoch, b)]) 0 ∧ J8.gen = j.gen ∧ J8.epoch = j.epoch ∧ J8.next = j.next + 1 := by
  obtain ⟨_, h1, h2, h3, h4⟩ := commit_kept hg hd hf hc (kept_weak hk) h
  exact ⟨_, _, fun hW hT hdv hb => ret_mono (commit_does hg hd hf hc (kept_weak hk) hbl hW hT hdv hb) fun _ _ _ q => by
    rcases q with ⟨q, _⟩ | ⟨_, q⟩
    · exact absurd q h
    · exact q, h1, h2, h3, h4, rfl, rfl, rfl⟩
theorem save_fit {g : Geo} (hg : GoodGeo g) {d : Dev} (hd : GoodDev g d) (hf : d.fuel = -1) (hc : d.cache.length = 0) {j : Jr} {b snap : List UInt8} {l : List (Int × List UInt8)} (hk : Kept g (content d) j snap l 0) (h : ¬ fullS g j b) :
    ∃ d8 J8, (∀ {dv bv : Value} {G0 : GW}, G0.Wf → Tid bX G0 → DevG G0 dv d → ByG G0 bv b → Calls Try.prog 51 #[geoV g, dv, jrV j, bv] G0.w (Ret G0 fun v G => ∃ dv, v = .tuple #[dv, jrV J8, .int .i64 0] ∧ DevG G dv d8)) ∧
      GoodDev g d8 ∧ d8.fuel = -1 ∧ d8.cache.length = 0 ∧ Kept g (content d8) J8 b [] 0 ∧ J8.gen = j.gen + 1 ∧ J8.epoch = j.epoch ∧ J8.next = j.next ∧ J8.used = 0 := by
  obtain ⟨he, h1, h2, h3, h4⟩ := save_kept hg hd hf hc hk h
  exact ⟨_, _, fun hW hT hdv hb => ret_mono (save_any hg hd hk.ok hW hT hdv hb) fun _ _ _ q => by
    rcases q with ⟨q, _⟩ | ⟨_, q⟩
    · exact absurd q h
    · exact handE_good q he, h1, h2, h3, h4, rfl, rfl, rfl, rfl⟩
theorem lit_by {G : GW} {A : Option Addr} {c : Nat} {y : UInt8} {b : List UInt8} {u : Value} (hu : u = enc8 y) (h : Sl G 5 1 (1 + b.length) (.slice A (1 + b.length) c) ([SC.v u].map SC.den ++ b.map enc8)) : ByG G (.slice A (1 + b.length) c) (y :: b) := by
  have e1 : (y :: b).length = 1 + b.length := by rw [List.length_cons]; omega
  show Sl G 5 1 (y :: b).length _ ((y :: b).map enc8)
  rw [e1, List.map_cons, ← hu]
  exact h
theorem lit_one {G : GW} {g : Nat} {y : UInt8} {u : Value} (hu : u = enc8 y) (h : Sl G 5 1 1 (.slice (some ⟨g, 0, none⟩) 1 1) (([SC.v u].map SC.den).take (1 * 1))) : ByG G (.slice (some ⟨g, 0, none⟩) 1 1) [y] := by
  subst hu
  exact h
/-- what was committed in the rounds from some round on -/
def rounds (b : List UInt8) (base n : Nat) : List (List UInt8) := (List.range n).map fun i => byteOf ((base + i : Nat) : Int) :: b
theorem rounds_succ (b : List UInt8) (base n : Nat) : rounds b base (n + 1) = rounds b base n ++ [byteOf ((base + n : Nat) : Int) :: b] := by
  unfold rounds
  rw [List.range_succ, List.map_append]
  rfl
theorem rounds_at {b : List UInt8} {base n i : Nat} (h : i < n) : (rounds b base n)[i]? = some (byteOf ((base + i : Nat) : Int) :: b) := by
  unfold rounds
  rw [List.getElem?_map, List.getElem?_range h]
  rfl
theorem byte_nat {n : Nat} (h : n < 256) : ((byteOf (n : Int)).toNat : Int) = (n : Int) := by
  rw [byteOf_val]
  omega
theorem enc_byte (n : Int) : Value.int .u8 (HMod.hMod n 256) = enc8 (byteOf n) := by
  rw [← byteOf_val]
  rfl
set_option maxRecDepth 100000 in
set_option maxHeartbeats 32000000 in
theorem ringRound_ret {w : World} (a0 : Int) (w0 : (Lit.int .i64 a0).wf = true) (s : ByteArray) (hs : s.size ≤ maxLen) :
    Calls Try.prog 23 #[.int .i64 a0, .string s] w (Ret ⟨Non, w⟩ fun v _ => v = .bool true) := by
  obtain ⟨x1, x2⟩ := i64_bd w0
  have hml := max_le
  refine enter (G := ⟨Non, w⟩) (n := 147) 3000 (wf_nonL w) Try.func23 rfl Try.ntmps23 (by simp) ?_
  simp only [go_sem, Nat.reduceAdd, Nat.reduceSub, Nat.reduceMul, Nat.reduceEqDiff, Nat.reduceLT, Nat.reduceLeDiff, Nat.reduceBEq, Nat.reduceBNe, Int.reduceLT, Int.reduceLE, Int.reduceEq, Int.reduceAdd, Int.reduceSub, Int.reduceNeg, reduceCtorEq]
  refine plain_ok (N := 3000) (call_does (fun v _ => v = .agg #[.int .i64 6, .int .i64 2, .int .i64 6, .int .i64 300, .int .i64 3]) rfl rfl (by kernel_rfl) rfl (by simp only [dOk_some, dOk_none, Nat.reduceLT]) (fun G hG => small_does _)) (QOk_body _ _ _) (by first | exact .inl rfl | exact .inr ⟨_, _, rfl, rfl⟩) ?_
  rintro _ ⟨v, G1, rfl, hn1, rfl⟩
  clear hn1
  simp only [go_sem, Nat.reduceAdd, Nat.reduceSub, Nat.reduceMul, Nat.reduceEqDiff, Nat.reduceLT, Nat.reduceLeDiff, Nat.reduceBEq, Nat.reduceBNe, Int.reduceLT, Int.reduceLE, Int.reduceEq, Int.reduceAdd, Int.reduceSub, Int.reduceNeg, reduceCtorEq]
  intro g1
  refine plain_ok (N := 3000) (call_does (fun v G => ∃ dv, v = .tuple #[dv, jrV firstJ, .bool true] ∧ DevG G dv (fmtDev smallGeo)) rfl rfl (by kernel_rfl) rfl (by simp only [dOk_some, dOk_none, Nat.reduceLT]) (fun G hG => formatted_does smallGood hG.wf (tidL hG (by simp) (by simp; decide)))) (QOk_body _ _ _) (by first | exact .inl rfl | exact .inr ⟨_, _, rfl, rfl⟩) ?_
  rintro _ ⟨_, G2, ⟨dv, rfl, hd0⟩, hn2, rfl⟩
  clear hn2
  obtain ⟨hg0, hf0, hc0⟩ := fmtDev_good smallGood
  have hk0 := fmt_kept smallGood
  generalize fmtDev smallGeo = d0 at hd0 hg0 hf0 hc0 hk0
  obtain ⟨A1, k1, A2, k2, A3, k3, rfl, hfo⟩ := hd0.form
  clear hfo
  have hju : firstJ.gen = 1 ∧ firstJ.epoch = 1 ∧ firstJ.next = 1 := ⟨rfl, rfl, rfl⟩
  have hjv : jrV firstJ = .agg #[.int .i64 firstJ.gen, .int .i64 firstJ.epoch, .int .i64 firstJ.area, .int .i64 firstJ.length, .int .i64 firstJ.start, .int .i64 firstJ.first, .int .i64 firstJ.place, .int .i64 firstJ.next, .int .i64 firstJ.used] := rfl
  rw [hjv]
  clear hjv
  generalize firstJ = j0 at hk0 hju
  simp only [go_sem, Nat.reduceAdd, Nat.reduceSub, Nat.reduceMul, Nat.reduceEqDiff, Nat.reduceLT, Nat.reduceLeDiff, Nat.reduceBEq, Nat.reduceBNe, Int.reduceLT, Int.reduceLE, Int.reduceEq, Int.reduceAdd, Int.reduceSub, Int.reduceNeg, reduceCtorEq]
  intro g2 g3
  refine plain_ok (N := 3000) (call_does (fun v _ => ∃ k : Nat, (k : Int) = pick a0 40 ∧ (k : Int) < 40 ∧ v = .int .i64 (k : Int)) rfl rfl (by kernel_rfl) rfl (by simp only [dOk_some, dOk_none, Nat.reduceLT]) (fun G hG => picked_does x1 x2 (by omega) (by omega))) (QOk_body _ _ _) (by first | exact .inl rfl | exact .inr ⟨_, _, rfl, rfl⟩) ?_
  rintro _ ⟨_, G3, ⟨k, _, hk40, rfl⟩, hn3, rfl⟩
  have hl23 : G2.Le G3 := hn3.le G2 (by simp)
  clear hn3
  obtain ⟨K, hK⟩ : ∃ K : Nat, (K : Int) = 5 + (k : Int) := ⟨5 + k, by omega⟩
  simp only [go_sem, Nat.reduceAdd, Nat.reduceSub, Nat.reduceMul, Nat.reduceEqDiff, Nat.reduceLT, Nat.reduceLeDiff, Nat.reduceBEq, Nat.reduceBNe, Int.reduceLT, Int.reduceLE, Int.reduceEq, Int.reduceAdd, Int.reduceSub, Int.reduceNeg, reduceCtorEq]
  rw [← hK]
  refine ⟨by omega, ?_⟩
  refine ⟨by omega, ?_⟩
  have hS : (s.extract (Int.toNat 0) (min (s.size : Int) 60).toNat).size ≤ 60 := by simp; omega
  refine plain_ok (N := 3000) (bytes_does (e := 5) rfl (tyStr9) (tySlice23) (tyInt5) rfl (by simp only [dOk_some, dOk_none, Nat.reduceLT]) (by omega)) (QOk_body _ _ _) (by first | exact .inl rfl | exact .inr ⟨_, _, rfl, rfl⟩) ?_
  rintro _ ⟨Ab, cb, G4, hbb, rfl⟩
  generalize s.extract (Int.toNat 0) (min (s.size : Int) 60).toNat = q at hbb hS
  have hbl : q.data.toList.length ≤ 60 := by rw [Array.length_toList]; exact hS
  generalize q.data.toList = b at hbb hbl
  clear hS
  simp only [go_sem, Nat.reduceAdd, Nat.reduceSub, Nat.reduceMul, Nat.reduceEqDiff, Nat.reduceLT, Nat.reduceLeDiff, Nat.reduceBEq, Nat.reduceBNe, Int.reduceLT, Int.reduceLE, Int.reduceEq, Int.reduceAdd, Int.reduceSub, Int.reduceNeg, reduceCtorEq]
  refine loop_ok (N := 3000) (ι := (Nat × Nat × Nat) × Dev × (Option Addr × Nat) × (Option Addr × Nat) × (Option Addr × Nat) × Jr × List UInt8 × List (Int × List UInt8) × GW)
    (fun i => match i with | ((v, base, saves), d, (A1, k1), (A2, k2), (A3, k3), j, snap, l, G) => ⟨[(5, .c (.p 0 g1 0)), (6, .c (.p 1 g2 0)), (7, .c (.p 2 g3 0)), (8, .c (.v (.bool true))), (9, .c (.v (.int .i64 (K : Int)))), (10, .c (.v (.slice Ab b.length cb))), (11, .c (.v (.int .i64 (saves : Int)))), (12, .c (.v (.int .i64 (v : Int))))],
      [⟨2, g3, 81, [.v (.int .i64 j.gen), .v (.int .i64 j.epoch), .v (.int .i64 j.area), .v (.int .i64 j.length), .v (.int .i64 j.start), .v (.int .i64 j.first), .v (.int .i64 j.place), .v (.int .i64 j.next), .v (.int .i64 j.used)]⟩, ⟨1, g2, 37, [.v (.slice A1 d.safe.length k1), .v (.slice A2 d.cache.length k2), .v (.slice A3 d.vols.length k3), .v (.int .i64 d.fuel)]⟩, ⟨0, g1, 32, [.v (.int .i64 6), .v (.int .i64 2), .v (.int .i64 6), .v (.int .i64 300), .v (.int .i64 3)]⟩], [], [], [G, G4, ⟨Non, w⟩], 3⟩)
    (fun i => match i with | ((v, base, saves), d, (A1, k1), (A2, k2), (A3, k3), j, snap, l, G) => (v ≤ K ∧ base ≤ v ∧ (v = 0 ∨ base < v) ∧ saves ≤ v ∧ (saves = 0 → base = 0) ∧ (0 < saves → snap = [byteOf (base : Int)]) ∧ j.gen = 1 + (saves : Int) ∧ j.epoch = 1 ∧ j.next = (v : Int) + 1 ∧ l.map (·.2) = rounds b base (v - base)) ∧ (GoodDev smallGeo d ∧ d.fuel = -1 ∧ d.cache.length = 0 ∧ Kept smallGeo (content d) j snap l 0) ∧ DevG G (.agg #[.slice A1 d.safe.length k1, .slice A2 d.cache.length k2, .slice A3 d.vols.length k3, .int .i64 d.fuel]) d) (fun i => K - i.1.1) (QOk_body _ _ _)
    ((0, 0, 0), d0, (A1, k1), (A2, k2), (A3, k3), j0, [], [], G3) ⟨⟨by omega, by omega, .inl rfl, by omega, fun _ => rfl, fun h => absurd h (by omega), hju.1, hju.2.1, hju.2.2, rfl⟩, ⟨hg0, hf0, hc0, hk0⟩, hd0.mono hl23⟩ (by simp only [go_sem, Nat.reduceAdd, Nat.reduceSub, Nat.reduceMul, Nat.reduceEqDiff, Nat.reduceLT, Nat.reduceLeDiff, Nat.reduceBEq, Nat.reduceBNe, Int.reduceLT, Int.reduceLE, Int.reduceEq, Int.reduceAdd, Int.reduceSub, Int.reduceNeg, reduceCtorEq]; simp) ?_
  clear hg0 hf0 hc0 hk0 hd0 hju d0 j0 A1 k1 A2 k2 A3 k3 hl23 G2
  rintro ⟨⟨v, base, saves⟩, d, ⟨A1, k1⟩, ⟨A2, k2⟩, ⟨A3, k3⟩, j, snap, l, G5⟩ ⟨⟨hv, hbv, hb0, hsv, hsb, hsn, hj1, hj2, hj3, hl⟩, ⟨hgd, hf, hc, hk⟩, hd⟩
  simp only
  by_cases hlt : v < K
  · have q1 : decide ((v : Int) < (K : Int)) = true := decide_eq_true (by omega)
    have hxl : (byteOf (v : Int) :: b).length ≤ 5000 := by rw [List.length_cons]; omega
    have hcx : cnt (byteOf (v : Int) :: b) ≤ 2 := by unfold cnt; rw [List.length_cons]; omega
    simp only [go_sem, Nat.reduceAdd, Nat.reduceSub, Nat.reduceMul, Nat.reduceEqDiff, Nat.reduceLT, Nat.reduceLeDiff, Nat.reduceBEq, Nat.reduceBNe, Int.reduceLT, Int.reduceLE, Int.reduceEq, Int.reduceAdd, Int.reduceSub, Int.reduceNeg, reduceCtorEq, q1]
    by_cases hfull : fullJ smallGeo j (byteOf (v : Int) :: b)
    · refine cut_code2 (N := 3000) (ι := Nat × Nat × GW)
        (fun i => match i with | (g4, g5, G) => ⟨[(5, .c (.p 0 g1 0)), (6, .c (.p 1 g2 0)), (7, .c (.p 2 g3 0)), (8, .c (.v (.bool true))), (9, .c (.v (.int .i64 (K : Int)))), (10, .c (.v (.slice Ab b.length cb))), (11, .c (.v (.int .i64 (saves : Int)))), (12, .c (.v (.int .i64 (v : Int)))), (13, .c (.p 4 g4 0)), (14, .c (.p 5 g5 0)), (15, .c (.v (.int .i64 8)))],
          [⟨5, g5, 81, [.v (.int .i64 0), .v (.int .i64 0), .v (.int .i64 0), .v (.int .i64 0), .v (.int .i64 0), .v (.int .i64 0), .v (.int .i64 0), .v (.int .i64 0), .v (.int .i64 0)]⟩, ⟨4, g4, 37, [.v (.slice none 0 0), .v (.slice none 0 0), .v (.slice none 0 0), .v (.int .i64 0)]⟩, ⟨2, g3, 81, [.v (.int .i64 j.gen), .v (.int .i64 j.epoch), .v (.int .i64 j.area), .v (.int .i64 j.length), .v (.int .i64 j.start), .v (.int .i64 j.first), .v (.int .i64 j.place), .v (.int .i64 j.next), .v (.int .i64 j.used)]⟩, ⟨1, g2, 37, [.v (.slice A1 d.safe.length k1), .v (.slice A2 d.cache.length k2), .v (.slice A3 d.vols.length k3), .v (.int .i64 d.fuel)]⟩, ⟨0, g1, 32, [.v (.int .i64 6), .v (.int .i64 2), .v (.int .i64 6), .v (.int .i64 300), .v (.int .i64 3)]⟩], [], [], [G, G5, G4, ⟨Non, w⟩], 6⟩) (fun _ => True) (QOk_body _ _ _) ?_ ?_
      rotate_left
      · intro k' J hk' hJ
        refine draw_ok (N := 3000) (.take 0 (.take 1 (.take 2 (.take 3 (.take 4 (.take 6 (.alt 5 (.alt 7 (.alt 8 (.take 9 (.take 10 (.take 11 (.take 12 (.alt 13 (.alt 14 (.alt 15 (.alt 16 (.take 17 .done) .last) .last) .last) (.alt 14 (.alt 13 (.alt 15 (.alt 16 (.take 17 .done) .last) .last) .last) .last)))))) (.alt 13 (.alt 8 (.take 9 (.take 10 (.take 11 (.take 12 (.alt 14 (.alt 15 (.alt 16 (.take 17 .done) .last) .last) .last))))) (.alt 14 (.alt 8 (.take 9 (.take 10 (.take 11 (.take 12 (.alt 15 (.alt 16 (.take 17 .done) .last) .last))))) .last) .last)) (.alt 14 (.alt 8 (.take 9 (.take 10 (.take 11 (.take 12 (.alt 13 (.alt 15 (.alt 16 (.take 17 .done) .last) .last) .last))))) (.alt 13 (.alt 8 (.take 9 (.take 10 (.take 11 (.take 12 (.alt 15 (.alt 16 (.take 17 .done) .last) .last))))) .last) .last)) .last))) (.alt 13 (.alt 7 (.alt 8 (.take 9 (.take 10 (.take 11 (.take 12 (.alt 14 (.alt 15 (.alt 16 (.take 17 .done) .last) .last) .last))))) (.alt 14 (.alt 8 (.take 9 (.take 10 (.take 11 (.take 12 (.alt 15 (.alt 16 (.take 17 .done) .last) .last))))) .last) .last)) (.alt 14 (.alt 7 (.alt 8 (.take 9 (.take 10 (.take 11 (.take 12 (.alt 15 (.alt 16 (.take 17 .done) .last) .last))))) .last) .last) .last)) (.alt 14 (.alt 7 (.alt 8 (.take 9 (.take 10 (.take 11 (.take 12 (.alt 13 (.alt 15 (.alt 16 (.take 17 .done) .last) .last) .last))))) (.alt 13 (.alt 8 (.take 9 (.take 10 (.take 11 (.take 12 (.alt 15 (.alt 16 (.take 17 .done) .last) .last))))) .last) .last)) (.alt 13 (.alt 7 (.alt 8 (.take 9 (.take 10 (.take 11 (.take 12 (.alt 15 (.alt 16 (.take 17 .done) .last) .last))))) .last) .last) .last)) .last))) (.alt 13 (.alt 5 (.alt 7 (.alt 8 (.take 9 (.take 10 (.take 11 (.take 12 (.alt 14 (.alt 15 (.alt 16 (.take 17 .done) .last) .last) .last))))) (.alt 14 (.alt 8 (.take 9 (.take 10 (.take 11 (.take 12 (.alt 15 (.alt 16 (.take 17 .done) .last) .last))))) .last) .last)) (.alt 14 (.alt 7 (.alt 8 (.take 9 (.take 10 (.take 11 (.take 12 (.alt 15 (.alt 16 (.take 17 .done) .last) .last))))) .last) .last) .last)) (.alt 14 (.alt 5 (.alt 7 (.alt 8 (.take 9 (.take 10 (.take 11 (.take 12 (.alt 15 (.alt 16 (.take 17 .done) .last) .last))))) .last) .last) .last) .last)) (.alt 14 (.alt 5 (.alt 7 (.alt 8 (.take 9 (.take 10 (.take 11 (.take 12 (.alt 13 (.alt 15 (.alt 16 (.take 17 .done) .last) .last) .last))))) (.alt 13 (.alt 8 (.take 9 (.take 10 (.take 11 (.take 12 (.alt 15 (.alt 16 (.take 17 .done) .last) .last))))) .last) .last)) (.alt 13 (.alt 7 (.alt 8 (.take 9 (.take 10 (.take 11 (.take 12 (.alt 15 (.alt 16 (.take 17 .done) .last) .last))))) .last) .last) .last)) (.alt 13 (.alt 5 (.alt 7 (.alt 8 (.take 9 (.take 10 (.take 11 (.take 12 (.alt 15 (.alt 16 (.take 17 .done) .last) .last))))) .last) .last) .last) .last)) .last))))))))) [] hk' follows_mixed (by kernel_rfl) (by kernel_rfl) ?_
        simp only [go_sem, Nat.reduceAdd, Nat.reduceSub, Nat.reduceMul, Nat.reduceEqDiff, Nat.reduceLT, Nat.reduceLeDiff, Nat.reduceBEq, Nat.reduceBNe, Int.reduceLT, Int.reduceLE, Int.reduceEq, Int.reduceAdd, Int.reduceSub, Int.reduceNeg, reduceCtorEq]
        refine ⟨fun gl => ?_, fun g4 => ?_, fun g5 => ?_⟩
        · refine ⟨?_, fun g4 => ?_, fun g5 => ?_⟩
          · refine any_ok (N := 3000) (lit_append_does (n := 1) (m := b.length) (B1 := []) (news := b.map enc8) rfl tySlice23 tyApp5 rfl (fun h => h) rfl rfl rfl rfl rfl (by simp only [dOk_some, dOk_none, Nat.reduceLT]) (enc8_one b) (by unfold maxLen; omega) (by omega) (fun G hG => (ByG.mono hbb (hG G4 (by simp))).tsl)) hk' rfl (.inl rfl) (by rintro _ ⟨_, _, _, _, _, rfl⟩ _ b hb; first | exact hb | exact List.mem_cons_of_mem _ hb | exact List.mem_cons_of_mem _ (List.mem_cons_of_mem _ hb)) (by rintro _ ⟨_, _, _, _, _, rfl⟩ v hv; exact hv) ?_
            rintro _ ⟨Al, cl, G6, hs6, _, rfl⟩
            have hb6 := lit_by (enc_byte _) hs6
            clear hs6
            simp only [go_sem, Nat.reduceAdd, Nat.reduceSub, Nat.reduceMul, Nat.reduceEqDiff, Nat.reduceLT, Nat.reduceLeDiff, Nat.reduceBEq, Nat.reduceBNe, Int.reduceLT, Int.reduceLE, Int.reduceEq, Int.reduceAdd, Int.reduceSub, Int.reduceNeg, reduceCtorEq]
            refine ⟨?_, fun g4 => ?_, fun g5 => ?_⟩
            · refine anyc_ok (N := 3000) (call_does (fun u G => u = .tuple #[zeroDev, jrV zeroJr, .int .i64 8]) rfl rfl (by kernel_rfl) rfl (by simp only [dOk_some, dOk_none, Nat.reduceLT]) (fun G hG => commit_fullC smallGood hgd hf hc hk hxl hfull hG.wf (tidL hG (by simp) (by simp; decide)) (hd.mono (hG.le G5 (by simp))) (hb6.mono (hG.le G6 (by simp))))) hk' rfl (by first | exact .inl rfl | exact .inr ⟨_, _, rfl, rfl⟩) ?_
              rintro _ ⟨_, G7, rfl, hn7, rfl⟩
              clear hn7
              simp only [go_sem, Nat.reduceAdd, Nat.reduceSub, Nat.reduceMul, Nat.reduceEqDiff, Nat.reduceLT, Nat.reduceLeDiff, Nat.reduceBEq, Nat.reduceBNe, Int.reduceLT, Int.reduceLE, Int.reduceEq, Int.reduceAdd, Int.reduceSub, Int.reduceNeg, reduceCtorEq, zeroDev, jrV, zeroJr]
              refine ⟨fun g4 => ?_, fun g5 => ?_⟩
              · intro g5
                exact hJ (g4, g5, G7) _ trivial (by simp only [go_sem, Nat.reduceAdd, Nat.reduceSub, Nat.reduceMul, Nat.reduceEqDiff, Nat.reduceLT, Nat.reduceLeDiff, Nat.reduceBEq, Nat.reduceBNe, Int.reduceLT, Int.reduceLE, Int.reduceEq, Int.reduceAdd, Int.reduceSub, Int.reduceNeg, reduceCtorEq]; simp)
              · intro g4
                refine ren_ok (swapN 4 5) ?_
                exact hJ (g4, g5, G7) _ trivial (by simp only [go_sem, Nat.reduceAdd, Nat.reduceSub, Nat.reduceMul, Nat.reduceEqDiff, Nat.reduceLT, Nat.reduceLeDiff, Nat.reduceBEq, Nat.reduceBNe, Int.reduceLT, Int.reduceLE, Int.reduceEq, Int.reduceAdd, Int.reduceSub, Int.reduceNeg, reduceCtorEq, swapN]; simp)
            · refine ⟨?_, fun g5 => ?_⟩
              · refine anyc_ok (N := 3000) (call_does (fun u G => u = .tuple #[zeroDev, jrV zeroJr, .int .i64 8]) rfl rfl (by kernel_rfl) rfl (by simp only [dOk_some, dOk_none, Nat.reduceLT]) (fun G hG => commit_fullC smallGood hgd hf hc hk hxl hfull hG.wf (tidL hG (by simp) (by simp; decide)) (hd.mono (hG.le G5 (by simp))) (hb6.mono (hG.le G6 (by simp))))) hk' rfl (by first | exact .inl rfl | exact .inr ⟨_, _, rfl, rfl⟩) ?_
                rintro _ ⟨_, G7, rfl, hn7, rfl⟩
                clear hn7
                simp only [go_sem, Nat.reduceAdd, Nat.reduceSub, Nat.reduceMul, Nat.reduceEqDiff, Nat.reduceLT, Nat.reduceLeDiff, Nat.reduceBEq, Nat.reduceBNe, Int.reduceLT, Int.reduceLE, Int.reduceEq, Int.reduceAdd, Int.reduceSub, Int.reduceNeg, reduceCtorEq, zeroDev, jrV, zeroJr]
                intro g5
                exact hJ (g4, g5, G7) _ trivial (by simp only [go_sem, Nat.reduceAdd, Nat.reduceSub, Nat.reduceMul, Nat.reduceEqDiff, Nat.reduceLT, Nat.reduceLeDiff, Nat.reduceBEq, Nat.reduceBNe, Int.reduceLT, Int.reduceLE, Int.reduceEq, Int.reduceAdd, Int.reduceSub, Int.reduceNeg, reduceCtorEq]; simp)
              · refine anyc_ok (N := 3000) (call_does (fun u G => u = .tuple #[zeroDev, jrV zeroJr, .int .i64 8]) rfl rfl (by kernel_rfl) rfl (by simp only [dOk_some, dOk_none, Nat.reduceLT]) (fun G hG => commit_fullC smallGood hgd hf hc hk hxl hfull hG.wf (tidL hG (by simp) (by simp; decide)) (hd.mono (hG.le G5 (by simp))) (hb6.mono (hG.le G6 (by simp))))) hk' rfl (by first | exact .inl rfl | exact .inr ⟨_, _, rfl, rfl⟩) ?_
                rintro _ ⟨_, G7, rfl, hn7, rfl⟩
                clear hn7
                simp only [go_sem, Nat.reduceAdd, Nat.reduceSub, Nat.reduceMul, Nat.reduceEqDiff, Nat.reduceLT, Nat.reduceLeDiff, Nat.reduceBEq, Nat.reduceBNe, Int.reduceLT, Int.reduceLE, Int.reduceEq, Int.reduceAdd, Int.reduceSub, Int.reduceNeg, reduceCtorEq, zeroDev, jrV, zeroJr]
                exact hJ (g4, g5, G7) _ trivial (by simp only [go_sem, Nat.reduceAdd, Nat.reduceSub, Nat.reduceMul, Nat.reduceEqDiff, Nat.reduceLT, Nat.reduceLeDiff, Nat.reduceBEq, Nat.reduceBNe, Int.reduceLT, Int.reduceLE, Int.reduceEq, Int.reduceAdd, Int.reduceSub, Int.reduceNeg, reduceCtorEq]; simp)
            · refine ⟨?_, fun g4 => ?_⟩
              · refine anyc_ok (N := 3000) (call_does (fun u G => u = .tuple #[zeroDev, jrV zeroJr, .int .i64 8]) rfl rfl (by kernel_rfl) rfl (by simp only [dOk_some, dOk_none, Nat.reduceLT]) (fun G hG => commit_fullC smallGood hgd hf hc hk hxl hfull hG.wf (tidL hG (by simp) (by simp; decide)) (hd.mono (hG.le G5 (by simp))) (hb6.mono (hG.le G6 (by simp))))) hk' rfl (by first | exact .inl rfl | exact .inr ⟨_, _, rfl, rfl⟩) ?_
                rintro _ ⟨_, G7, rfl, hn7, rfl⟩
                clear hn7
                simp only [go_sem, Nat.reduceAdd, Nat.reduceSub, Nat.reduceMul, Nat.reduceEqDiff, Nat.reduceLT, Nat.reduceLeDiff, Nat.reduceBEq, Nat.reduceBNe, Int.reduceLT, Int.reduceLE, Int.reduceEq, Int.reduceAdd, Int.reduceSub, Int.reduceNeg, reduceCtorEq, zeroDev, jrV, zeroJr]
                intro g4
                refine ren_ok (swapN 4 5) ?_
                exact hJ (g4, g5, G7) _ trivial (by simp only [go_sem, Nat.reduceAdd, Nat.reduceSub, Nat.reduceMul, Nat.reduceEqDiff, Nat.reduceLT, Nat.reduceLeDiff, Nat.reduceBEq, Nat.reduceBNe, Int.reduceLT, Int.reduceLE, Int.reduceEq, Int.reduceAdd, Int.reduceSub, Int.reduceNeg, reduceCtorEq, swapN]; simp)
              · refine anyc_ok (N := 3000) (call_does (fun u G => u = .tuple #[zeroDev, jrV zeroJr, .int .i64 8]) rfl rfl (by kernel_rfl) rfl (by simp only [dOk_some, dOk_none, Nat.reduceLT]) (fun G hG => commit_fullC smallGood hgd hf hc hk hxl hfull hG.wf (tidL hG (by simp) (by simp; decide)) (hd.mono (hG.le G5 (by simp))) (hb6.mono (hG.le G6 (by simp))))) hk' rfl (by first | exact .inl rfl | exact .inr ⟨_, _, rfl, rfl⟩) ?_
                rintro _ ⟨_, G7, rfl, hn7, rfl⟩
                clear hn7
                simp only [go_sem, Nat.reduceAdd, Nat.reduceSub, Nat.reduceMul, Nat.reduceEqDiff, Nat.reduceLT, Nat.reduceLeDiff, Nat.reduceBEq, Nat.reduceBNe, Int.reduceLT, Int.reduceLE, Int.reduceEq, Int.reduceAdd, Int.reduceSub, Int.reduceNeg, reduceCtorEq, zeroDev, jrV, zeroJr]
                refine ren_ok (swapN 4 5) ?_
                exact hJ (g4, g5, G7) _ trivial (by simp only [go_sem, Nat.reduceAdd, Nat.reduceSub, Nat.reduceMul, Nat.reduceEqDiff, Nat.reduceLT, Nat.reduceLeDiff, Nat.reduceBEq, Nat.reduceBNe, Int.reduceLT, Int.reduceLE, Int.reduceEq, Int.reduceAdd, Int.reduceSub, Int.reduceNeg, reduceCtorEq, swapN]; simp)
          · refine ⟨?_, fun g5 => ?_⟩
            · refine any_ok (N := 3000) (lit_append_does (n := 1) (m := b.length) (B1 := [_]) (news := b.map enc8) rfl tySlice23 tyApp5 rfl (fun h => h) rfl rfl rfl rfl rfl (by simp only [dOk_some, dOk_none, Nat.reduceLT]) (enc8_one b) (by unfold maxLen; omega) (by omega) (fun G hG => (ByG.mono hbb (hG G4 (by simp))).tsl)) hk' rfl (.inl rfl) (by rintro _ ⟨_, _, _, _, _, rfl⟩ _ b hb; first | exact hb | exact List.mem_cons_of_mem _ hb | exact List.mem_cons_of_mem _ (List.mem_cons_of_mem _ hb)) (by rintro _ ⟨_, _, _, _, _, rfl⟩ v hv; exact hv) ?_
              rintro _ ⟨Al, cl, G6, hs6, _, rfl⟩
              have hb6 := lit_by (enc_byte _) hs6
              clear hs6
              simp only [go_sem, Nat.reduceAdd, Nat.reduceSub, Nat.reduceMul, Nat.reduceEqDiff, Nat.reduceLT, Nat.reduceLeDiff, Nat.reduceBEq, Nat.reduceBNe, Int.reduceLT, Int.reduceLE, Int.reduceEq, Int.reduceAdd, Int.reduceSub, Int.reduceNeg, reduceCtorEq]
              refine ⟨?_, fun g5 => ?_⟩
              · refine anyc_ok (N := 3000) (call_does (fun u G => u = .tuple #[zeroDev, jrV zeroJr, .int .i64 8]) rfl rfl (by kernel_rfl) rfl (by simp only [dOk_some, dOk_none, Nat.reduceLT]) (fun G hG => commit_fullC smallGood hgd hf hc hk hxl hfull hG.wf (tidL hG (by simp) (by simp; decide)) (hd.mono (hG.le G5 (by simp))) (hb6.mono (hG.le G6 (by simp))))) hk' rfl (by first | exact .inl rfl | exact .inr ⟨_, _, rfl, rfl⟩) ?_
                rintro _ ⟨_, G7, rfl, hn7, rfl⟩
                clear hn7
                simp only [go_sem, Nat.reduceAdd, Nat.reduceSub, Nat.reduceMul, Nat.reduceEqDiff, Nat.reduceLT, Nat.reduceLeDiff, Nat.reduceBEq, Nat.reduceBNe, Int.reduceLT, Int.reduceLE, Int.reduceEq, Int.reduceAdd, Int.reduceSub, Int.reduceNeg, reduceCtorEq, zeroDev, jrV, zeroJr]
                intro g5
                exact hJ (g4, g5, G7) _ trivial (by simp only [go_sem, Nat.reduceAdd, Nat.reduceSub, Nat.reduceMul, Nat.reduceEqDiff, Nat.reduceLT, Nat.reduceLeDiff, Nat.reduceBEq, Nat.reduceBNe, Int.reduceLT, Int.reduceLE, Int.reduceEq, Int.reduceAdd, Int.reduceSub, Int.reduceNeg, reduceCtorEq]; simp)
              · refine anyc_ok (N := 3000) (call_does (fun u G => u = .tuple #[zeroDev, jrV zeroJr, .int .i64 8]) rfl rfl (by kernel_rfl) rfl (by simp only [dOk_some, dOk_none, Nat.reduceLT]) (fun G hG => commit_fullC smallGood hgd hf hc hk hxl hfull hG.wf (tidL hG (by simp) (by simp; decide)) (hd.mono (hG.le G5 (by simp))) (hb6.mono (hG.le G6 (by simp))))) hk' rfl (by first | exact .inl rfl | exact .inr ⟨_, _, rfl, rfl⟩) ?_
                rintro _ ⟨_, G7, rfl, hn7, rfl⟩
                clear hn7
                simp only [go_sem, Nat.reduceAdd, Nat.reduceSub, Nat.reduceMul, Nat.reduceEqDiff, Nat.reduceLT, Nat.reduceLeDiff, Nat.reduceBEq, Nat.reduceBNe, Int.reduceLT, Int.reduceLE, Int.reduceEq, Int.reduceAdd, Int.reduceSub, Int.reduceNeg, reduceCtorEq, zeroDev, jrV, zeroJr]
                exact hJ (g4, g5, G7) _ trivial (by simp only [go_sem, Nat.reduceAdd, Nat.reduceSub, Nat.reduceMul, Nat.reduceEqDiff, Nat.reduceLT, Nat.reduceLeDiff, Nat.reduceBEq, Nat.reduceBNe, Int.reduceLT, Int.reduceLE, Int.reduceEq, Int.reduceAdd, Int.reduceSub, Int.reduceNeg, reduceCtorEq]; simp)
            · refine any_ok (N := 3000) (lit_append_does (n := 1) (m := b.length) (B1 := [_, _]) (news := b.map enc8) rfl tySlice23 tyApp5 rfl (fun h => h) rfl rfl rfl rfl rfl (by simp only [dOk_some, dOk_none, Nat.reduceLT]) (enc8_one b) (by unfold maxLen; omega) (by omega) (fun G hG => (ByG.mono hbb (hG G4 (by simp))).tsl)) hk' rfl (.inl rfl) (by rintro _ ⟨_, _, _, _, _, rfl⟩ _ b hb; first | exact hb | exact List.mem_cons_of_mem _ hb | exact List.mem_cons_of_mem _ (List.mem_cons_of_mem _ hb)) (by rintro _ ⟨_, _, _, _, _, rfl⟩ v hv; exact hv) ?_
              rintro _ ⟨Al, cl, G6, hs6, _, rfl⟩
              have hb6 := lit_by (enc_byte _) hs6
              clear hs6
              simp only [go_sem, Nat.reduceAdd, Nat.reduceSub, Nat.reduceMul, Nat.reduceEqDiff, Nat.reduceLT, Nat.reduceLeDiff, Nat.reduceBEq, Nat.reduceBNe, Int.reduceLT, Int.reduceLE, Int.reduceEq, Int.reduceAdd, Int.reduceSub, Int.reduceNeg, reduceCtorEq]
              refine anyc_ok (N := 3000) (call_does (fun u G => u = .tuple #[zeroDev, jrV zeroJr, .int .i64 8]) rfl rfl (by kernel_rfl) rfl (by simp only [dOk_some, dOk_none, Nat.reduceLT]) (fun G hG => commit_fullC smallGood hgd hf hc hk hxl hfull hG.wf (tidL hG (by simp) (by simp; decide)) (hd.mono (hG.le G5 (by simp))) (hb6.mono (hG.le G6 (by simp))))) hk' rfl (by first | exact .inl rfl | exact .inr ⟨_, _, rfl, rfl⟩) ?_
              rintro _ ⟨_, G7, rfl, hn7, rfl⟩
              clear hn7
              simp only [go_sem, Nat.reduceAdd, Nat.reduceSub, Nat.reduceMul, Nat.reduceEqDiff, Nat.reduceLT, Nat.reduceLeDiff, Nat.reduceBEq, Nat.reduceBNe, Int.reduceLT, Int.reduceLE, Int.reduceEq, Int.reduceAdd, Int.reduceSub, Int.reduceNeg, reduceCtorEq, zeroDev, jrV, zeroJr]
              exact hJ (g4, g5, G7) _ trivial (by simp only [go_sem, Nat.reduceAdd, Nat.reduceSub, Nat.reduceMul, Nat.reduceEqDiff, Nat.reduceLT, Nat.reduceLeDiff, Nat.reduceBEq, Nat.reduceBNe, Int.reduceLT, Int.reduceLE, Int.reduceEq, Int.reduceAdd, Int.reduceSub, Int.reduceNeg, reduceCtorEq]; simp)
          · refine ⟨?_, fun g4 => ?_⟩
            · refine any_ok (N := 3000) (lit_append_does (n := 1) (m := b.length) (B1 := [_]) (news := b.map enc8) rfl tySlice23 tyApp5 rfl (fun h => h) rfl rfl rfl rfl rfl (by simp only [dOk_some, dOk_none, Nat.reduceLT]) (enc8_one b) (by unfold maxLen; omega) (by omega) (fun G hG => (ByG.mono hbb (hG G4 (by simp))).tsl)) hk' rfl (.inl rfl) (by rintro _ ⟨_, _, _, _, _, rfl⟩ _ b hb; first | exact hb | exact List.mem_cons_of_mem _ hb | exact List.mem_cons_of_mem _ (List.mem_cons_of_mem _ hb)) (by rintro _ ⟨_, _, _, _, _, rfl⟩ v hv; exact hv) ?_
              rintro _ ⟨Al, cl, G6, hs6, _, rfl⟩
              have hb6 := lit_by (enc_byte _) hs6
              clear hs6
              simp only [go_sem, Nat.reduceAdd, Nat.reduceSub, Nat.reduceMul, Nat.reduceEqDiff, Nat.reduceLT, Nat.reduceLeDiff, Nat.reduceBEq, Nat.reduceBNe, Int.reduceLT, Int.reduceLE, Int.reduceEq, Int.reduceAdd, Int.reduceSub, Int.reduceNeg, reduceCtorEq]
              refine ⟨?_, fun g4 => ?_⟩
              · refine anyc_ok (N := 3000) (call_does (fun u G => u = .tuple #[zeroDev, jrV zeroJr, .int .i64 8]) rfl rfl (by kernel_rfl) rfl (by simp only [dOk_some, dOk_none, Nat.reduceLT]) (fun G hG => commit_fullC smallGood hgd hf hc hk hxl hfull hG.wf (tidL hG (by simp) (by simp; decide)) (hd.mono (hG.le G5 (by simp))) (hb6.mono (hG.le G6 (by simp))))) hk' rfl (by first | exact .inl rfl | exact .inr ⟨_, _, rfl, rfl⟩) ?_
                rintro _ ⟨_, G7, rfl, hn7, rfl⟩
                clear hn7
                simp only [go_sem, Nat.reduceAdd, Nat.reduceSub, Nat.reduceMul, Nat.reduceEqDiff, Nat.reduceLT, Nat.reduceLeDiff, Nat.reduceBEq, Nat.reduceBNe, Int.reduceLT, Int.reduceLE, Int.reduceEq, Int.reduceAdd, Int.reduceSub, Int.reduceNeg, reduceCtorEq, zeroDev, jrV, zeroJr]
                intro g4
                refine ren_ok (swapN 4 5) ?_
                exact hJ (g4, g5, G7) _ trivial (by simp only [go_sem, Nat.reduceAdd, Nat.reduceSub, Nat.reduceMul, Nat.reduceEqDiff, Nat.reduceLT, Nat.reduceLeDiff, Nat.reduceBEq, Nat.reduceBNe, Int.reduceLT, Int.reduceLE, Int.reduceEq, Int.reduceAdd, Int.reduceSub, Int.reduceNeg, reduceCtorEq, swapN]; simp)
              · refine anyc_ok (N := 3000) (call_does (fun u G => u = .tuple #[zeroDev, jrV zeroJr, .int .i64 8]) rfl rfl (by kernel_rfl) rfl (by simp only [dOk_some, dOk_none, Nat.reduceLT]) (fun G hG => commit_fullC smallGood hgd hf hc hk hxl hfull hG.wf (tidL hG (by simp) (by simp; decide)) (hd.mono (hG.le G5 (by simp))) (hb6.mono (hG.le G6 (by simp))))) hk' rfl (by first | exact .inl rfl | exact .inr ⟨_, _, rfl, rfl⟩) ?_
                rintro _ ⟨_, G7, rfl, hn7, rfl⟩
                clear hn7
                simp only [go_sem, Nat.reduceAdd, Nat.reduceSub, Nat.reduceMul, Nat.reduceEqDiff, Nat.reduceLT, Nat.reduceLeDiff, Nat.reduceBEq, Nat.reduceBNe, Int.reduceLT, Int.reduceLE, Int.reduceEq, Int.reduceAdd, Int.reduceSub, Int.reduceNeg, reduceCtorEq, zeroDev, jrV, zeroJr]
                refine ren_ok (swapN 4 5) ?_
                exact hJ (g4, g5, G7) _ trivial (by simp only [go_sem, Nat.reduceAdd, Nat.reduceSub, Nat.reduceMul, Nat.reduceEqDiff, Nat.reduceLT, Nat.reduceLeDiff, Nat.reduceBEq, Nat.reduceBNe, Int.reduceLT, Int.reduceLE, Int.reduceEq, Int.reduceAdd, Int.reduceSub, Int.reduceNeg, reduceCtorEq, swapN]; simp)
            · refine any_ok (N := 3000) (lit_append_does (n := 1) (m := b.length) (B1 := [_, _]) (news := b.map enc8) rfl tySlice23 tyApp5 rfl (fun h => h) rfl rfl rfl rfl rfl (by simp only [dOk_some, dOk_none, Nat.reduceLT]) (enc8_one b) (by unfold maxLen; omega) (by omega) (fun G hG => (ByG.mono hbb (hG G4 (by simp))).tsl)) hk' rfl (.inl rfl) (by rintro _ ⟨_, _, _, _, _, rfl⟩ _ b hb; first | exact hb | exact List.mem_cons_of_mem _ hb | exact List.mem_cons_of_mem _ (List.mem_cons_of_mem _ hb)) (by rintro _ ⟨_, _, _, _, _, rfl⟩ v hv; exact hv) ?_
              rintro _ ⟨Al, cl, G6, hs6, _, rfl⟩
              have hb6 := lit_by (enc_byte _) hs6
              clear hs6
              simp only [go_sem, Nat.reduceAdd, Nat.reduceSub, Nat.reduceMul, Nat.reduceEqDiff, Nat.reduceLT, Nat.reduceLeDiff, Nat.reduceBEq, Nat.reduceBNe, Int.reduceLT, Int.reduceLE, Int.reduceEq, Int.reduceAdd, Int.reduceSub, Int.reduceNeg, reduceCtorEq]
              refine anyc_ok (N := 3000) (call_does (fun u G => u = .tuple #[zeroDev, jrV zeroJr, .int .i64 8]) rfl rfl (by kernel_rfl) rfl (by simp only [dOk_some, dOk_none, Nat.reduceLT]) (fun G hG => commit_fullC smallGood hgd hf hc hk hxl hfull hG.wf (tidL hG (by simp) (by simp; decide)) (hd.mono (hG.le G5 (by simp))) (hb6.mono (hG.le G6 (by simp))))) hk' rfl (by first | exact .inl rfl | exact .inr ⟨_, _, rfl, rfl⟩) ?_
              rintro _ ⟨_, G7, rfl, hn7, rfl⟩
              clear hn7
              simp only [go_sem, Nat.reduceAdd, Nat.reduceSub, Nat.reduceMul, Nat.reduceEqDiff, Nat.reduceLT, Nat.reduceLeDiff, Nat.reduceBEq, Nat.reduceBNe, Int.reduceLT, Int.reduceLE, Int.reduceEq, Int.reduceAdd, Int.reduceSub, Int.reduceNeg, reduceCtorEq, zeroDev, jrV, zeroJr]
              refine ren_ok (swapN 4 5) ?_
              exact hJ (g4, g5, G7) _ trivial (by simp only [go_sem, Nat.reduceAdd, Nat.reduceSub, Nat.reduceMul, Nat.reduceEqDiff, Nat.reduceLT, Nat.reduceLeDiff, Nat.reduceBEq, Nat.reduceBNe, Int.reduceLT, Int.reduceLE, Int.reduceEq, Int.reduceAdd, Int.reduceSub, Int.reduceNeg, reduceCtorEq, swapN]; simp)
        · refine ⟨fun gl => ?_, fun g5 => ?_⟩
          · refine ⟨?_, fun g5 => ?_⟩
            · refine any_ok (N := 3000) (lit_append_does (n := 1) (m := b.length) (B1 := []) (news := b.map enc8) rfl tySlice23 tyApp5 rfl (fun h => h) rfl rfl rfl rfl rfl (by simp only [dOk_some, dOk_none, Nat.reduceLT]) (enc8_one b) (by unfold maxLen; omega) (by omega) (fun G hG => (ByG.mono hbb (hG G4 (by simp))).tsl)) hk' rfl (.inl rfl) (by rintro _ ⟨_, _, _, _, _, rfl⟩ _ b hb; first | exact hb | exact List.mem_cons_of_mem _ hb | exact List.mem_cons_of_mem _ (List.mem_cons_of_mem _ hb)) (by rintro _ ⟨_, _, _, _, _, rfl⟩ v hv; exact hv) ?_
              rintro _ ⟨Al, cl, G6, hs6, _, rfl⟩
              have hb6 := lit_by (enc_byte _) hs6
              clear hs6
              simp only [go_sem, Nat.reduceAdd, Nat.reduceSub, Nat.reduceMul, Nat.reduceEqDiff, Nat.reduceLT, Nat.reduceLeDiff, Nat.reduceBEq, Nat.reduceBNe, Int.reduceLT, Int.reduceLE, Int.reduceEq, Int.reduceAdd, Int.reduceSub, Int.reduceNeg, reduceCtorEq]
              refine ⟨?_, fun g5 => ?_⟩
              · refine anyc_ok (N := 3000) (call_does (fun u G => u = .tuple #[zeroDev, jrV zeroJr, .int .i64 8]) rfl rfl (by kernel_rfl) rfl (by simp only [dOk_some, dOk_none, Nat.reduceLT]) (fun G hG => commit_fullC smallGood hgd hf hc hk hxl hfull hG.wf (tidL hG (by simp) (by simp; decide)) (hd.mono (hG.le G5 (by simp))) (hb6.mono (hG.le G6 (by simp))))) hk' rfl (by first | exact .inl rfl | exact .inr ⟨_, _, rfl, rfl⟩) ?_
                rintro _ ⟨_, G7, rfl, hn7, rfl⟩
                clear hn7
                simp only [go_sem, Nat.reduceAdd, Nat.reduceSub, Nat.reduceMul, Nat.reduceEqDiff, Nat.reduceLT, Nat.reduceLeDiff, Nat.reduceBEq, Nat.reduceBNe, Int.reduceLT, Int.reduceLE, Int.reduceEq, Int.reduceAdd, Int.reduceSub, Int.reduceNeg, reduceCtorEq, zeroDev, jrV, zeroJr]
                intro g5
                refine ren_ok (swapN 3 4) ?_
                exact hJ (g4, g5, G7) _ trivial (by simp only [go_sem, Nat.reduceAdd, Nat.reduceSub, Nat.reduceMul, Nat.reduceEqDiff, Nat.reduceLT, Nat.reduceLeDiff, Nat.reduceBEq, Nat.reduceBNe, Int.reduceLT, Int.reduceLE, Int.reduceEq, Int.reduceAdd, Int.reduceSub, Int.reduceNeg, reduceCtorEq, swapN]; simp)
              · refine anyc_ok (N := 3000) (call_does (fun u G => u = .tuple #[zeroDev, jrV zeroJr, .int .i64 8]) rfl rfl (by kernel_rfl) rfl (by simp only [dOk_some, dOk_none, Nat.reduceLT]) (fun G hG => commit_fullC smallGood hgd hf hc hk hxl hfull hG.wf (tidL hG (by simp) (by simp; decide)) (hd.mono (hG.le G5 (by simp))) (hb6.mono (hG.le G6 (by simp))))) hk' rfl (by first | exact .inl rfl | exact .inr ⟨_, _, rfl, rfl⟩) ?_
                rintro _ ⟨_, G7, rfl, hn7, rfl⟩
                clear hn7
                simp only [go_sem, Nat.reduceAdd, Nat.reduceSub, Nat.reduceMul, Nat.reduceEqDiff, Nat.reduceLT, Nat.reduceLeDiff, Nat.reduceBEq, Nat.reduceBNe, Int.reduceLT, Int.reduceLE, Int.reduceEq, Int.reduceAdd, Int.reduceSub, Int.reduceNeg, reduceCtorEq, zeroDev, jrV, zeroJr]
                refine ren_ok (swapN 3 4) ?_
                exact hJ (g4, g5, G7) _ trivial (by simp only [go_sem, Nat.reduceAdd, Nat.reduceSub, Nat.reduceMul, Nat.reduceEqDiff, Nat.reduceLT, Nat.reduceLeDiff, Nat.reduceBEq, Nat.reduceBNe, Int.reduceLT, Int.reduceLE, Int.reduceEq, Int.reduceAdd, Int.reduceSub, Int.reduceNeg, reduceCtorEq, swapN]; simp)
            · refine any_ok (N := 3000) (lit_append_does (n := 1) (m := b.length) (B1 := [_]) (news := b.map enc8) rfl tySlice23 tyApp5 rfl (fun h => h) rfl rfl rfl rfl rfl (by simp only [dOk_some, dOk_none, Nat.reduceLT]) (enc8_one b) (by unfold maxLen; omega) (by omega) (fun G hG => (ByG.mono hbb (hG G4 (by simp))).tsl)) hk' rfl (.inl rfl) (by rintro _ ⟨_, _, _, _, _, rfl⟩ _ b hb; first | exact hb | exact List.mem_cons_of_mem _ hb | exact List.mem_cons_of_mem _ (List.mem_cons_of_mem _ hb)) (by rintro _ ⟨_, _, _, _, _, rfl⟩ v hv; exact hv) ?_
              rintro _ ⟨Al, cl, G6, hs6, _, rfl⟩
              have hb6 := lit_by (enc_byte _) hs6
              clear hs6
              simp only [go_sem, Nat.reduceAdd, Nat.reduceSub, Nat.reduceMul, Nat.reduceEqDiff, Nat.reduceLT, Nat.reduceLeDiff, Nat.reduceBEq, Nat.reduceBNe, Int.reduceLT, Int.reduceLE, Int.reduceEq, Int.reduceAdd, Int.reduceSub, Int.reduceNeg, reduceCtorEq]
              refine anyc_ok (N := 3000) (call_does (fun u G => u = .tuple #[zeroDev, jrV zeroJr, .int .i64 8]) rfl rfl (by kernel_rfl) rfl (by simp only [dOk_some, dOk_none, Nat.reduceLT]) (fun G hG => commit_fullC smallGood hgd hf hc hk hxl hfull hG.wf (tidL hG (by simp) (by simp; decide)) (hd.mono (hG.le G5 (by simp))) (hb6.mono (hG.le G6 (by simp))))) hk' rfl (by first | exact .inl rfl | exact .inr ⟨_, _, rfl, rfl⟩) ?_
              rintro _ ⟨_, G7, rfl, hn7, rfl⟩
              clear hn7
              simp only [go_sem, Nat.reduceAdd, Nat.reduceSub, Nat.reduceMul, Nat.reduceEqDiff, Nat.reduceLT, Nat.reduceLeDiff, Nat.reduceBEq, Nat.reduceBNe, Int.reduceLT, Int.reduceLE, Int.reduceEq, Int.reduceAdd, Int.reduceSub, Int.reduceNeg, reduceCtorEq, zeroDev, jrV, zeroJr]
              refine ren_ok (swapN 3 4) ?_
              exact hJ (g4, g5, G7) _ trivial (by simp only [go_sem, Nat.reduceAdd, Nat.reduceSub, Nat.reduceMul, Nat.reduceEqDiff, Nat.reduceLT, Nat.reduceLeDiff, Nat.reduceBEq, Nat.reduceBNe, Int.reduceLT, Int.reduceLE, Int.reduceEq, Int.reduceAdd, Int.reduceSub, Int.reduceNeg, reduceCtorEq, swapN]; simp)
          · intro gl
            refine any_ok (N := 3000) (lit_append_does (n := 1) (m := b.length) (B1 := []) (news := b.map enc8) rfl tySlice23 tyApp5 rfl (fun h => h) rfl rfl rfl rfl rfl (by simp only [dOk_some, dOk_none, Nat.reduceLT]) (enc8_one b) (by unfold maxLen; omega) (by omega) (fun G hG => (ByG.mono hbb (hG G4 (by simp))).tsl)) hk' rfl (.inl rfl) (by rintro _ ⟨_, _, _, _, _, rfl⟩ _ b hb; first | exact hb | exact List.mem_cons_of_mem _ hb | exact List.mem_cons_of_mem _ (List.mem_cons_of_mem _ hb)) (by rintro _ ⟨_, _, _, _, _, rfl⟩ v hv; exact hv) ?_
            rintro _ ⟨Al, cl, G6, hs6, _, rfl⟩
            have hb6 := lit_by (enc_byte _) hs6
            clear hs6
            simp only [go_sem, Nat.reduceAdd, Nat.reduceSub, Nat.reduceMul, Nat.reduceEqDiff, Nat.reduceLT, Nat.reduceLeDiff, Nat.reduceBEq, Nat.reduceBNe, Int.reduceLT, Int.reduceLE, Int.reduceEq, Int.reduceAdd, Int.reduceSub, Int.reduceNeg, reduceCtorEq]
            refine anyc_ok (N := 3000) (call_does (fun u G => u = .tuple #[zeroDev, jrV zeroJr, .int .i64 8]) rfl rfl (by kernel_rfl) rfl (by simp only [dOk_some, dOk_none, Nat.reduceLT]) (fun G hG => commit_fullC smallGood hgd hf hc hk hxl hfull hG.wf (tidL hG (by simp) (by simp; decide)) (hd.mono (hG.le G5 (by simp))) (hb6.mono (hG.le G6 (by simp))))) hk' rfl (by first | exact .inl rfl | exact .inr ⟨_, _, rfl, rfl⟩) ?_
            rintro _ ⟨_, G7, rfl, hn7, rfl⟩
            clear hn7
            simp only [go_sem, Nat.reduceAdd, Nat.reduceSub, Nat.reduceMul, Nat.reduceEqDiff, Nat.reduceLT, Nat.reduceLeDiff, Nat.reduceBEq, Nat.reduceBNe, Int.reduceLT, Int.reduceLE, Int.reduceEq, Int.reduceAdd, Int.reduceSub, Int.reduceNeg, reduceCtorEq, zeroDev, jrV, zeroJr]
            refine ren_ok (swapN 4 5) ?_
            simp only [go_sem, Nat.reduceAdd, Nat.reduceSub, Nat.reduceMul, Nat.reduceEqDiff, Nat.reduceLT, Nat.reduceLeDiff, Nat.reduceBEq, Nat.reduceBNe, Int.reduceLT, Int.reduceLE, Int.reduceEq, Int.reduceAdd, Int.reduceSub, Int.reduceNeg, reduceCtorEq, swapN]
            refine ren_ok (swapN 3 4) ?_
            exact hJ (g4, g5, G7) _ trivial (by simp only [go_sem, Nat.reduceAdd, Nat.reduceSub, Nat.reduceMul, Nat.reduceEqDiff, Nat.reduceLT, Nat.reduceLeDiff, Nat.reduceBEq, Nat.reduceBNe, Int.reduceLT, Int.reduceLE, Int.reduceEq, Int.reduceAdd, Int.reduceSub, Int.reduceNeg, reduceCtorEq, swapN]; simp)
        · refine ⟨fun gl => ?_, fun g4 => ?_⟩
          · refine ⟨?_, fun g4 => ?_⟩
            · refine any_ok (N := 3000) (lit_append_does (n := 1) (m := b.length) (B1 := []) (news := b.map enc8) rfl tySlice23 tyApp5 rfl (fun h => h) rfl rfl rfl rfl rfl (by simp only [dOk_some, dOk_none, Nat.reduceLT]) (enc8_one b) (by unfold maxLen; omega) (by omega) (fun G hG => (ByG.mono hbb (hG G4 (by simp))).tsl)) hk' rfl (.inl rfl) (by rintro _ ⟨_, _, _, _, _, rfl⟩ _ b hb; first | exact hb | exact List.mem_cons_of_mem _ hb | exact List.mem_cons_of_mem _ (List.mem_cons_of_mem _ hb)) (by rintro _ ⟨_, _, _, _, _, rfl⟩ v hv; exact hv) ?_
              rintro _ ⟨Al, cl, G6, hs6, _, rfl⟩
              have hb6 := lit_by (enc_byte _) hs6
              clear hs6
              simp only [go_sem, Nat.reduceAdd, Nat.reduceSub, Nat.reduceMul, Nat.reduceEqDiff, Nat.reduceLT, Nat.reduceLeDiff, Nat.reduceBEq, Nat.reduceBNe, Int.reduceLT, Int.reduceLE, Int.reduceEq, Int.reduceAdd, Int.reduceSub, Int.reduceNeg, reduceCtorEq]
              refine ⟨?_, fun g4 => ?_⟩
              · refine anyc_ok (N := 3000) (call_does (fun u G => u = .tuple #[zeroDev, jrV zeroJr, .int .i64 8]) rfl rfl (by kernel_rfl) rfl (by simp only [dOk_some, dOk_none, Nat.reduceLT]) (fun G hG => commit_fullC smallGood hgd hf hc hk hxl hfull hG.wf (tidL hG (by simp) (by simp; decide)) (hd.mono (hG.le G5 (by simp))) (hb6.mono (hG.le G6 (by simp))))) hk' rfl (by first | exact .inl rfl | exact .inr ⟨_, _, rfl, rfl⟩) ?_
                rintro _ ⟨_, G7, rfl, hn7, rfl⟩
                clear hn7
                simp only [go_sem, Nat.reduceAdd, Nat.reduceSub, Nat.reduceMul, Nat.reduceEqDiff, Nat.reduceLT, Nat.reduceLeDiff, Nat.reduceBEq, Nat.reduceBNe, Int.reduceLT, Int.reduceLE, Int.reduceEq, Int.reduceAdd, Int.reduceSub, Int.reduceNeg, reduceCtorEq, zeroDev, jrV, zeroJr]
                intro g4
                refine ren_ok (swapN 3 5) ?_
                simp only [go_sem, Nat.reduceAdd, Nat.reduceSub, Nat.reduceMul, Nat.reduceEqDiff, Nat.reduceLT, Nat.reduceLeDiff, Nat.reduceBEq, Nat.reduceBNe, Int.reduceLT, Int.reduceLE, Int.reduceEq, Int.reduceAdd, Int.reduceSub, Int.reduceNeg, reduceCtorEq, swapN]
                refine ren_ok (swapN 3 4) ?_
                exact hJ (g4, g5, G7) _ trivial (by simp only [go_sem, Nat.reduceAdd, Nat.reduceSub, Nat.reduceMul, Nat.reduceEqDiff, Nat.reduceLT, Nat.reduceLeDiff, Nat.reduceBEq, Nat.reduceBNe, Int.reduceLT, Int.reduceLE, Int.reduceEq, Int.reduceAdd, Int.reduceSub, Int.reduceNeg, reduceCtorEq, swapN]; simp)
              · refine anyc_ok (N := 3000) (call_does (fun u G => u = .tuple #[zeroDev, jrV zeroJr, .int .i64 8]) rfl rfl (by kernel_rfl) rfl (by simp only [dOk_some, dOk_none, Nat.reduceLT]) (fun G hG => commit_fullC smallGood hgd hf hc hk hxl hfull hG.wf (tidL hG (by simp) (by simp; decide)) (hd.mono (hG.le G5 (by simp))) (hb6.mono (hG.le G6 (by simp))))) hk' rfl (by first | exact .inl rfl | exact .inr ⟨_, _, rfl, rfl⟩) ?_
                rintro _ ⟨_, G7, rfl, hn7, rfl⟩
                clear hn7
                simp only [go_sem, Nat.reduceAdd, Nat.reduceSub, Nat.reduceMul, Nat.reduceEqDiff, Nat.reduceLT, Nat.reduceLeDiff, Nat.reduceBEq, Nat.reduceBNe, Int.reduceLT, Int.reduceLE, Int.reduceEq, Int.reduceAdd, Int.reduceSub, Int.reduceNeg, reduceCtorEq, zeroDev, jrV, zeroJr]
                refine ren_ok (swapN 3 5) ?_
                simp only [go_sem, Nat.reduceAdd, Nat.reduceSub, Nat.reduceMul, Nat.reduceEqDiff, Nat.reduceLT, Nat.reduceLeDiff, Nat.reduceBEq, Nat.reduceBNe, Int.reduceLT, Int.reduceLE, Int.reduceEq, Int.reduceAdd, Int.reduceSub, Int.reduceNeg, reduceCtorEq, swapN]
                refine ren_ok (swapN 3 4) ?_
                exact hJ (g4, g5, G7) _ trivial (by simp only [go_sem, Nat.reduceAdd, Nat.reduceSub, Nat.reduceMul, Nat.reduceEqDiff, Nat.reduceLT, Nat.reduceLeDiff, Nat.reduceBEq, Nat.reduceBNe, Int.reduceLT, Int.reduceLE, Int.reduceEq, Int.reduceAdd, Int.reduceSub, Int.reduceNeg, reduceCtorEq, swapN]; simp)
            · refine any_ok (N := 3000) (lit_append_does (n := 1) (m := b.length) (B1 := [_]) (news := b.map enc8) rfl tySlice23 tyApp5 rfl (fun h => h) rfl rfl rfl rfl rfl (by simp only [dOk_some, dOk_none, Nat.reduceLT]) (enc8_one b) (by unfold maxLen; omega) (by omega) (fun G hG => (ByG.mono hbb (hG G4 (by simp))).tsl)) hk' rfl (.inl rfl) (by rintro _ ⟨_, _, _, _, _, rfl⟩ _ b hb; first | exact hb | exact List.mem_cons_of_mem _ hb | exact List.mem_cons_of_mem _ (List.mem_cons_of_mem _ hb)) (by rintro _ ⟨_, _, _, _, _, rfl⟩ v hv; exact hv) ?_
              rintro _ ⟨Al, cl, G6, hs6, _, rfl⟩
              have hb6 := lit_by (enc_byte _) hs6
              clear hs6
              simp only [go_sem, Nat.reduceAdd, Nat.reduceSub, Nat.reduceMul, Nat.reduceEqDiff, Nat.reduceLT, Nat.reduceLeDiff, Nat.reduceBEq, Nat.reduceBNe, Int.reduceLT, Int.reduceLE, Int.reduceEq, Int.reduceAdd, Int.reduceSub, Int.reduceNeg, reduceCtorEq]
              refine anyc_ok (N := 3000) (call_does (fun u G => u = .tuple #[zeroDev, jrV zeroJr, .int .i64 8]) rfl rfl (by kernel_rfl) rfl (by simp only [dOk_some, dOk_none, Nat.reduceLT]) (fun G hG => commit_fullC smallGood hgd hf hc hk hxl hfull hG.wf (tidL hG (by simp) (by simp; decide)) (hd.mono (hG.le G5 (by simp))) (hb6.mono (hG.le G6 (by simp))))) hk' rfl (by first | exact .inl rfl | exact .inr ⟨_, _, rfl, rfl⟩) ?_
              rintro _ ⟨_, G7, rfl, hn7, rfl⟩
              clear hn7
              simp only [go_sem, Nat.reduceAdd, Nat.reduceSub, Nat.reduceMul, Nat.reduceEqDiff, Nat.reduceLT, Nat.reduceLeDiff, Nat.reduceBEq, Nat.reduceBNe, Int.reduceLT, Int.reduceLE, Int.reduceEq, Int.reduceAdd, Int.reduceSub, Int.reduceNeg, reduceCtorEq, zeroDev, jrV, zeroJr]
              refine ren_ok (swapN 3 5) ?_
              simp only [go_sem, Nat.reduceAdd, Nat.reduceSub, Nat.reduceMul, Nat.reduceEqDiff, Nat.reduceLT, Nat.reduceLeDiff, Nat.reduceBEq, Nat.reduceBNe, Int.reduceLT, Int.reduceLE, Int.reduceEq, Int.reduceAdd, Int.reduceSub, Int.reduceNeg, reduceCtorEq, swapN]
              refine ren_ok (swapN 3 4) ?_
              exact hJ (g4, g5, G7) _ trivial (by simp only [go_sem, Nat.reduceAdd, Nat.reduceSub, Nat.reduceMul, Nat.reduceEqDiff, Nat.reduceLT, Nat.reduceLeDiff, Nat.reduceBEq, Nat.reduceBNe, Int.reduceLT, Int.reduceLE, Int.reduceEq, Int.reduceAdd, Int.reduceSub, Int.reduceNeg, reduceCtorEq, swapN]; simp)
          · intro gl
            refine any_ok (N := 3000) (lit_append_does (n := 1) (m := b.length) (B1 := []) (news := b.map enc8) rfl tySlice23 tyApp5 rfl (fun h => h) rfl rfl rfl rfl rfl (by simp only [dOk_some, dOk_none, Nat.reduceLT]) (enc8_one b) (by unfold maxLen; omega) (by omega) (fun G hG => (ByG.mono hbb (hG G4 (by simp))).tsl)) hk' rfl (.inl rfl) (by rintro _ ⟨_, _, _, _, _, rfl⟩ _ b hb; first | exact hb | exact List.mem_cons_of_mem _ hb | exact List.mem_cons_of_mem _ (List.mem_cons_of_mem _ hb)) (by rintro _ ⟨_, _, _, _, _, rfl⟩ v hv; exact hv) ?_
            rintro _ ⟨Al, cl, G6, hs6, _, rfl⟩
            have hb6 := lit_by (enc_byte _) hs6
            clear hs6
            simp only [go_sem, Nat.reduceAdd, Nat.reduceSub, Nat.reduceMul, Nat.reduceEqDiff, Nat.reduceLT, Nat.reduceLeDiff, Nat.reduceBEq, Nat.reduceBNe, Int.reduceLT, Int.reduceLE, Int.reduceEq, Int.reduceAdd, Int.reduceSub, Int.reduceNeg, reduceCtorEq]
            refine anyc_ok (N := 3000) (call_does (fun u G => u = .tuple #[zeroDev, jrV zeroJr, .int .i64 8]) rfl rfl (by kernel_rfl) rfl (by simp only [dOk_some, dOk_none, Nat.reduceLT]) (fun G hG => commit_fullC smallGood hgd hf hc hk hxl hfull hG.wf (tidL hG (by simp) (by simp; decide)) (hd.mono (hG.le G5 (by simp))) (hb6.mono (hG.le G6 (by simp))))) hk' rfl (by first | exact .inl rfl | exact .inr ⟨_, _, rfl, rfl⟩) ?_
            rintro _ ⟨_, G7, rfl, hn7, rfl⟩
            clear hn7
            simp only [go_sem, Nat.reduceAdd, Nat.reduceSub, Nat.reduceMul, Nat.reduceEqDiff, Nat.reduceLT, Nat.reduceLeDiff, Nat.reduceBEq, Nat.reduceBNe, Int.reduceLT, Int.reduceLE, Int.reduceEq, Int.reduceAdd, Int.reduceSub, Int.reduceNeg, reduceCtorEq, zeroDev, jrV, zeroJr]
            refine ren_ok (swapN 3 5) ?_
            exact hJ (g4, g5, G7) _ trivial (by simp only [go_sem, Nat.reduceAdd, Nat.reduceSub, Nat.reduceMul, Nat.reduceEqDiff, Nat.reduceLT, Nat.reduceLeDiff, Nat.reduceBEq, Nat.reduceBNe, Int.reduceLT, Int.reduceLE, Int.reduceEq, Int.reduceAdd, Int.reduceSub, Int.reduceNeg, reduceCtorEq, swapN]; simp)
      rintro ⟨g4, g5, G7⟩ _
      simp only
      have hnf : ¬ fullS smallGeo j [byteOf (v : Int)] := by
        unfold fullS
        show ¬ ((2 : Int) * 64 < 1 ∨ _)
        omega
      obtain ⟨d7, j7, hsave, hg7, hf7, hc7, hk7, hu1, hu2, hu3, hu4⟩ := save_fit smallGood hgd hf hc hk hnf
      simp only [go_sem, Nat.reduceAdd, Nat.reduceSub, Nat.reduceMul, Nat.reduceEqDiff, Nat.reduceLT, Nat.reduceLeDiff, Nat.reduceBEq, Nat.reduceBNe, Int.reduceLT, Int.reduceLE, Int.reduceEq, Int.reduceAdd, Int.reduceSub, Int.reduceNeg, reduceCtorEq]
      intro gs
      refine blkRead_ok (B1 := []) rfl 1 1 1 (by omega) (by unfold maxLen; omega) rfl (fun h => h) fun G8 hle8 hs8 => ?_
      have hb8 := lit_one (enc_byte _) hs8
      clear hs8
      simp only [go_sem, Nat.reduceAdd, Nat.reduceSub, Nat.reduceMul, Nat.reduceEqDiff, Nat.reduceLT, Nat.reduceLeDiff, Nat.reduceBEq, Nat.reduceBNe, Int.reduceLT, Int.reduceLE, Int.reduceEq, Int.reduceAdd, Int.reduceSub, Int.reduceNeg, reduceCtorEq]
      refine plain_ok (N := 3000) (call_does (fun u G => ∃ dv, u = .tuple #[dv, jrV j7, .int .i64 0] ∧ DevG G dv d7) rfl rfl (by kernel_rfl) rfl (by simp only [dOk_some, dOk_none, Nat.reduceLT]) (fun G hG => hsave hG.wf (tidL hG (by simp) (by simp; decide)) (hd.mono (hG.le G5 (by simp))) (hb8.mono (hG.le G8 (by simp))))) (QOk_body _ _ _) (by first | exact .inl rfl | exact .inr ⟨_, _, rfl, rfl⟩) ?_
      rintro _ ⟨_, G9, ⟨dv, rfl, hd7⟩, hn9, rfl⟩
      clear hn9
      obtain ⟨E1, m1, E2, m2, E3, m3, rfl, hfo⟩ := hd7.form
      clear hfo
      simp only [go_sem, Nat.reduceAdd, Nat.reduceSub, Nat.reduceMul, Nat.reduceEqDiff, Nat.reduceLT, Nat.reduceLeDiff, Nat.reduceBEq, Nat.reduceBNe, Int.reduceLT, Int.reduceLE, Int.reduceEq, Int.reduceAdd, Int.reduceSub, Int.reduceNeg, reduceCtorEq, jrV]
      refine ⟨by omega, ?_⟩
      have hnf2 : ¬ fullJ smallGeo j7 (byteOf (v : Int) :: b) := by
        unfold fullJ
        show ¬ ((6 : Int) < j7.used + _ ∨ _)
        omega
      obtain ⟨d8, j8, hcom, hg8, hf8, hc8, hk8, hw1, hw2, hw3⟩ := commit_fit smallGood hg7 hf7 hc7 hk7 hxl hnf2
      refine draw_ok (N := 3000) (.take 0 (.take 1 (.take 2 (.take 3 (.take 4 (.take 6 (.alt 5 (.alt 7 (.alt 8 (.take 9 (.take 10 (.take 11 (.take 12 (.alt 13 (.alt 14 (.take 15 .done) .last) .last))))) .last) .last) .last))))))) [4, 5] (QOk_body _ _ _) follows_mixed (by kernel_rfl) (by kernel_rfl) ?_
      simp only [go_sem, Nat.reduceAdd, Nat.reduceSub, Nat.reduceMul, Nat.reduceEqDiff, Nat.reduceLT, Nat.reduceLeDiff, Nat.reduceBEq, Nat.reduceBNe, Int.reduceLT, Int.reduceLE, Int.reduceEq, Int.reduceAdd, Int.reduceSub, Int.reduceNeg, reduceCtorEq]
      intro gl
      refine any_ok (N := 3000) (lit_append_does (n := 1) (m := b.length) (B1 := []) (news := b.map enc8) rfl tySlice23 tyApp5 rfl (fun h => h) rfl rfl rfl rfl rfl (by simp only [dOk_some, dOk_none, Nat.reduceLT]) (enc8_one b) (by unfold maxLen; omega) (by omega) (fun G hG => (ByG.mono hbb (hG G4 (by simp))).tsl)) (QOk_body _ _ _) rfl (.inl rfl) (by rintro _ ⟨_, _, _, _, _, rfl⟩ _ b hb; first | exact hb | exact List.mem_cons_of_mem _ hb | exact List.mem_cons_of_mem _ (List.mem_cons_of_mem _ hb)) (by rintro _ ⟨_, _, _, _, _, rfl⟩ v hv; exact hv) ?_
      rintro _ ⟨Al, cl, G10, hs10, _, rfl⟩
      have hb10 := lit_by (enc_byte _) hs10
      clear hs10
      simp only [go_sem, Nat.reduceAdd, Nat.reduceSub, Nat.reduceMul, Nat.reduceEqDiff, Nat.reduceLT, Nat.reduceLeDiff, Nat.reduceBEq, Nat.reduceBNe, Int.reduceLT, Int.reduceLE, Int.reduceEq, Int.reduceAdd, Int.reduceSub, Int.reduceNeg, reduceCtorEq]
      refine anyc_ok (N := 3000) (call_does (fun u G => ∃ dv, u = .tuple #[dv, jrV j8, .int .i64 0] ∧ DevG G dv d8) rfl rfl (by kernel_rfl) rfl (by simp only [dOk_some, dOk_none, Nat.reduceLT]) (fun G hG => hcom hG.wf (tidL hG (by simp) (by simp; decide)) (hd7.mono (hG.le G9 (by simp))) (hb10.mono (hG.le G10 (by simp))))) (QOk_body _ _ _) rfl (by first | exact .inl rfl | exact .inr ⟨_, _, rfl, rfl⟩) ?_
      rintro _ ⟨_, G11, ⟨dv, rfl, hd8⟩, hn11, rfl⟩
      clear hn11
      obtain ⟨F1, f1, F2, f2, F3, f3, rfl, hfo⟩ := hd8.form
      clear hfo
      simp only [go_sem, Nat.reduceAdd, Nat.reduceSub, Nat.reduceMul, Nat.reduceEqDiff, Nat.reduceLT, Nat.reduceLeDiff, Nat.reduceBEq, Nat.reduceBNe, Int.reduceLT, Int.reduceLE, Int.reduceEq, Int.reduceAdd, Int.reduceSub, Int.reduceNeg, reduceCtorEq, jrV]
      repeat (refine And.intro (by omega) ?_)
      have hF : v + 1 ≤ K ∧ v ≤ v + 1 ∧ (v + 1 = 0 ∨ v < v + 1) ∧ saves + 1 ≤ v + 1 ∧ (saves + 1 = 0 → v = 0) ∧ (0 < saves + 1 → [byteOf (v : Int)] = [byteOf (v : Int)]) ∧ j8.gen = 1 + ((saves + 1 : Nat) : Int) ∧ j8.epoch = 1 ∧ j8.next = ((v + 1 : Nat) : Int) + 1 ∧ (([] : List (Int × List UInt8)) ++ [(j7.epoch, byteOf (v : Int) :: b)]).map (·.2) = rounds b v (v + 1 - v) :=
        ⟨by omega, by omega, .inr (by omega), by omega, fun h => absurd h (by omega), fun _ => rfl, by omega, by omega, by omega, by rw [show v + 1 - v = 1 by omega]; rfl⟩
      exact again_ok ((v + 1, v, saves + 1), d8, (F1, f1), (F2, f2), (F3, f3), j8, [byteOf (v : Int)], [] ++ [(j7.epoch, byteOf (v : Int) :: b)], G11) ⟨hF, ⟨hg8, hf8, hc8, hk8⟩, hd8⟩ (by simp only; omega) (by simp only [go_sem, Nat.reduceAdd, Nat.reduceSub, Nat.reduceMul, Nat.reduceEqDiff, Nat.reduceLT, Nat.reduceLeDiff, Nat.reduceBEq, Nat.reduceBNe, Int.reduceLT, Int.reduceLE, Int.reduceEq, Int.reduceAdd, Int.reduceSub, Int.reduceNeg, reduceCtorEq]; simp)
    · obtain ⟨d8, j8, hcom, hg8, hf8, hc8, hk8, hw1, hw2, hw3⟩ := commit_fit smallGood hgd hf hc hk hxl hfull
      refine cut_code2 (N := 3000) (ι := Nat × Nat × (Option Addr × Nat) × (Option Addr × Nat) × (Option Addr × Nat) × GW)
        (fun i => match i with | (g4, g5, (F1, f1), (F2, f2), (F3, f3), G) => ⟨[(5, .c (.p 0 g1 0)), (6, .c (.p 1 g2 0)), (7, .c (.p 2 g3 0)), (8, .c (.v (.bool true))), (9, .c (.v (.int .i64 (K : Int)))), (10, .c (.v (.slice Ab b.length cb))), (11, .c (.v (.int .i64 (saves : Int)))), (12, .c (.v (.int .i64 (v : Int)))), (13, .c (.p 4 g4 0)), (14, .c (.p 5 g5 0)), (15, .c (.v (.int .i64 0)))],
          [⟨5, g5, 81, [.v (.int .i64 j8.gen), .v (.int .i64 j8.epoch), .v (.int .i64 j8.area), .v (.int .i64 j8.length), .v (.int .i64 j8.start), .v (.int .i64 j8.first), .v (.int .i64 j8.place), .v (.int .i64 j8.next), .v (.int .i64 j8.used)]⟩, ⟨4, g4, 37, [.v (.slice F1 d8.safe.length f1), .v (.slice F2 d8.cache.length f2), .v (.slice F3 d8.vols.length f3), .v (.int .i64 d8.fuel)]⟩, ⟨2, g3, 81, [.v (.int .i64 j.gen), .v (.int .i64 j.epoch), .v (.int .i64 j.area), .v (.int .i64 j.length), .v (.int .i64 j.start), .v (.int .i64 j.first), .v (.int .i64 j.place), .v (.int .i64 j.next), .v (.int .i64 j.used)]⟩, ⟨1, g2, 37, [.v (.slice A1 d.safe.length k1), .v (.slice A2 d.cache.length k2), .v (.slice A3 d.vols.length k3), .v (.int .i64 d.fuel)]⟩, ⟨0, g1, 32, [.v (.int .i64 6), .v (.int .i64 2), .v (.int .i64 6), .v (.int .i64 300), .v (.int .i64 3)]⟩], [], [], [G, G5, G4, ⟨Non, w⟩], 6⟩) (fun i => match i with | (g4, g5, (F1, f1), (F2, f2), (F3, f3), G) => DevG G (.agg #[.slice F1 d8.safe.length f1, .slice F2 d8.cache.length f2, .slice F3 d8.vols.length f3, .int .i64 d8.fuel]) d8) (QOk_body _ _ _) ?_ ?_
      rotate_left
      · intro k' J hk' hJ
        refine draw_ok (N := 3000) (.take 0 (.take 1 (.take 2 (.take 3 (.take 4 (.take 6 (.alt 5 (.alt 7 (.alt 8 (.take 9 (.take 10 (.take 11 (.take 12 (.alt 13 (.alt 14 (.alt 15 (.alt 16 (.take 17 .done) .last) .last) .last) (.alt 14 (.alt 13 (.alt 15 (.alt 16 (.take 17 .done) .last) .last) .last) .last)))))) (.alt 13 (.alt 8 (.take 9 (.take 10 (.take 11 (.take 12 (.alt 14 (.alt 15 (.alt 16 (.take 17 .done) .last) .last) .last))))) (.alt 14 (.alt 8 (.take 9 (.take 10 (.take 11 (.take 12 (.alt 15 (.alt 16 (.take 17 .done) .last) .last))))) .last) .last)) (.alt 14 (.alt 8 (.take 9 (.take 10 (.take 11 (.take 12 (.alt 13 (.alt 15 (.alt 16 (.take 17 .done) .last) .last) .last))))) (.alt 13 (.alt 8 (.take 9 (.take 10 (.take 11 (.take 12 (.alt 15 (.alt 16 (.take 17 .done) .last) .last))))) .last) .last)) .last))) (.alt 13 (.alt 7 (.alt 8 (.take 9 (.take 10 (.take 11 (.take 12 (.alt 14 (.alt 15 (.alt 16 (.take 17 .done) .last) .last) .last))))) (.alt 14 (.alt 8 (.take 9 (.take 10 (.take 11 (.take 12 (.alt 15 (.alt 16 (.take 17 .done) .last) .last))))) .last) .last)) (.alt 14 (.alt 7 (.alt 8 (.take 9 (.take 10 (.take 11 (.take 12 (.alt 15 (.alt 16 (.take 17 .done) .last) .last))))) .last) .last) .last)) (.alt 14 (.alt 7 (.alt 8 (.take 9 (.take 10 (.take 11 (.take 12 (.alt 13 (.alt 15 (.alt 16 (.take 17 .done) .last) .last) .last))))) (.alt 13 (.alt 8 (.take 9 (.take 10 (.take 11 (.take 12 (.alt 15 (.alt 16 (.take 17 .done) .last) .last))))) .last) .last)) (.alt 13 (.alt 7 (.alt 8 (.take 9 (.take 10 (.take 11 (.take 12 (.alt 15 (.alt 16 (.take 17 .done) .last) .last))))) .last) .last) .last)) .last))) (.alt 13 (.alt 5 (.alt 7 (.alt 8 (.take 9 (.take 10 (.take 11 (.take 12 (.alt 14 (.alt 15 (.alt 16 (.take 17 .done) .last) .last) .last))))) (.alt 14 (.alt 8 (.take 9 (.take 10 (.take 11 (.take 12 (.alt 15 (.alt 16 (.take 17 .done) .last) .last))))) .last) .last)) (.alt 14 (.alt 7 (.alt 8 (.take 9 (.take 10 (.take 11 (.take 12 (.alt 15 (.alt 16 (.take 17 .done) .last) .last))))) .last) .last) .last)) (.alt 14 (.alt 5 (.alt 7 (.alt 8 (.take 9 (.take 10 (.take 11 (.take 12 (.alt 15 (.alt 16 (.take 17 .done) .last) .last))))) .last) .last) .last) .last)) (.alt 14 (.alt 5 (.alt 7 (.alt 8 (.take 9 (.take 10 (.take 11 (.take 12 (.alt 13 (.alt 15 (.alt 16 (.take 17 .done) .last) .last) .last))))) (.alt 13 (.alt 8 (.take 9 (.take 10 (.take 11 (.take 12 (.alt 15 (.alt 16 (.take 17 .done) .last) .last))))) .last) .last)) (.alt 13 (.alt 7 (.alt 8 (.take 9 (.take 10 (.take 11 (.take 12 (.alt 15 (.alt 16 (.take 17 .done) .last) .last))))) .last) .last) .last)) (.alt 13 (.alt 5 (.alt 7 (.alt 8 (.take 9 (.take 10 (.take 11 (.take 12 (.alt 15 (.alt 16 (.take 17 .done) .last) .last))))) .last) .last) .last) .last)) .last))))))))) [] hk' follows_mixed (by kernel_rfl) (by kernel_rfl) ?_
        simp only [go_sem, Nat.reduceAdd, Nat.reduceSub, Nat.reduceMul, Nat.reduceEqDiff, Nat.reduceLT, Nat.reduceLeDiff, Nat.reduceBEq, Nat.reduceBNe, Int.reduceLT, Int.reduceLE, Int.reduceEq, Int.reduceAdd, Int.reduceSub, Int.reduceNeg, reduceCtorEq]
        refine ⟨fun gl => ?_, fun g4 => ?_, fun g5 => ?_⟩
        · refine ⟨?_, fun g4 => ?_, fun g5 => ?_⟩
          · refine any_ok (N := 3000) (lit_append_does (n := 1) (m := b.length) (B1 := []) (news := b.map enc8) rfl tySlice23 tyApp5 rfl (fun h => h) rfl rfl rfl rfl rfl (by simp only [dOk_some, dOk_none, Nat.reduceLT]) (enc8_one b) (by unfold maxLen; omega) (by omega) (fun G hG => (ByG.mono hbb (hG G4 (by simp))).tsl)) hk' rfl (.inl rfl) (by rintro _ ⟨_, _, _, _, _, rfl⟩ _ b hb; first | exact hb | exact List.mem_cons_of_mem _ hb | exact List.mem_cons_of_mem _ (List.mem_cons_of_mem _ hb)) (by rintro _ ⟨_, _, _, _, _, rfl⟩ v hv; exact hv) ?_
            rintro _ ⟨Al, cl, G6, hs6, _, rfl⟩
            have hb6 := lit_by (enc_byte _) hs6
            clear hs6
            simp only [go_sem, Nat.reduceAdd, Nat.reduceSub, Nat.reduceMul, Nat.reduceEqDiff, Nat.reduceLT, Nat.reduceLeDiff, Nat.reduceBEq, Nat.reduceBNe, Int.reduceLT, Int.reduceLE, Int.reduceEq, Int.reduceAdd, Int.reduceSub, Int.reduceNeg, reduceCtorEq]
            refine ⟨?_, fun g4 => ?_, fun g5 => ?_⟩
            · refine anyc_ok (N := 3000) (call_does (fun u G => ∃ dv, u = .tuple #[dv, jrV j8, .int .i64 0] ∧ DevG G dv d8) rfl rfl (by kernel_rfl) rfl (by simp only [dOk_some, dOk_none, Nat.reduceLT]) (fun G hG => hcom hG.wf (tidL hG (by simp) (by simp; decide)) (hd.mono (hG.le G5 (by simp))) (hb6.mono (hG.le G6 (by simp))))) hk' rfl (by first | exact .inl rfl | exact .inr ⟨_, _, rfl, rfl⟩) ?_
              rintro _ ⟨_, G7, ⟨dv, rfl, hd8⟩, hn7, rfl⟩
              clear hn7
              obtain ⟨F1, f1, F2, f2, F3, f3, rfl, hfo⟩ := hd8.form
              clear hfo
              simp only [go_sem, Nat.reduceAdd, Nat.reduceSub, Nat.reduceMul, Nat.reduceEqDiff, Nat.reduceLT, Nat.reduceLeDiff, Nat.reduceBEq, Nat.reduceBNe, Int.reduceLT, Int.reduceLE, Int.reduceEq, Int.reduceAdd, Int.reduceSub, Int.reduceNeg, reduceCtorEq, jrV]
              refine ⟨fun g4 => ?_, fun g5 => ?_⟩
              · intro g5
                exact hJ (g4, g5, (F1, f1), (F2, f2), (F3, f3), G7) _ hd8 (by simp only [go_sem, Nat.reduceAdd, Nat.reduceSub, Nat.reduceMul, Nat.reduceEqDiff, Nat.reduceLT, Nat.reduceLeDiff, Nat.reduceBEq, Nat.reduceBNe, Int.reduceLT, Int.reduceLE, Int.reduceEq, Int.reduceAdd, Int.reduceSub, Int.reduceNeg, reduceCtorEq]; simp)
              · intro g4
                refine ren_ok (swapN 4 5) ?_
                exact hJ (g4, g5, (F1, f1), (F2, f2), (F3, f3), G7) _ hd8 (by simp only [go_sem, Nat.reduceAdd, Nat.reduceSub, Nat.reduceMul, Nat.reduceEqDiff, Nat.reduceLT, Nat.reduceLeDiff, Nat.reduceBEq, Nat.reduceBNe, Int.reduceLT, Int.reduceLE, Int.reduceEq, Int.reduceAdd, Int.reduceSub, Int.reduceNeg, reduceCtorEq, swapN]; simp)
            · refine ⟨?_, fun g5 => ?_⟩
              · refine anyc_ok (N := 3000) (call_does (fun u G => ∃ dv, u = .tuple #[dv, jrV j8, .int .i64 0] ∧ DevG G dv d8) rfl rfl (by kernel_rfl) rfl (by simp only [dOk_some, dOk_none, Nat.reduceLT]) (fun G hG => hcom hG.wf (tidL hG (by simp) (by simp; decide)) (hd.mono (hG.le G5 (by simp))) (hb6.mono (hG.le G6 (by simp))))) hk' rfl (by first | exact .inl rfl | exact .inr ⟨_, _, rfl, rfl⟩) ?_
                rintro _ ⟨_, G7, ⟨dv, rfl, hd8⟩, hn7, rfl⟩
                clear hn7
                obtain ⟨F1, f1, F2, f2, F3, f3, rfl, hfo⟩ := hd8.form
                clear hfo
                simp only [go_sem, Nat.reduceAdd, Nat.reduceSub, Nat.reduceMul, Nat.reduceEqDiff, Nat.reduceLT, Nat.reduceLeDiff, Nat.reduceBEq, Nat.reduceBNe, Int.reduceLT, Int.reduceLE, Int.reduceEq, Int.reduceAdd, Int.reduceSub, Int.reduceNeg, reduceCtorEq, jrV]
                intro g5
                exact hJ (g4, g5, (F1, f1), (F2, f2), (F3, f3), G7) _ hd8 (by simp only [go_sem, Nat.reduceAdd, Nat.reduceSub, Nat.reduceMul, Nat.reduceEqDiff, Nat.reduceLT, Nat.reduceLeDiff, Nat.reduceBEq, Nat.reduceBNe, Int.reduceLT, Int.reduceLE, Int.reduceEq, Int.reduceAdd, Int.reduceSub, Int.reduceNeg, reduceCtorEq]; simp)
              · refine anyc_ok (N := 3000) (call_does (fun u G => ∃ dv, u = .tuple #[dv, jrV j8, .int .i64 0] ∧ DevG G dv d8) rfl rfl (by kernel_rfl) rfl (by simp only [dOk_some, dOk_none, Nat.reduceLT]) (fun G hG => hcom hG.wf (tidL hG (by simp) (by simp; decide)) (hd.mono (hG.le G5 (by simp))) (hb6.mono (hG.le G6 (by simp))))) hk' rfl (by first | exact .inl rfl | exact .inr ⟨_, _, rfl, rfl⟩) ?_
                rintro _ ⟨_, G7, ⟨dv, rfl, hd8⟩, hn7, rfl⟩
                clear hn7
                obtain ⟨F1, f1, F2, f2, F3, f3, rfl, hfo⟩ := hd8.form
                clear hfo
                simp only [go_sem, Nat.reduceAdd, Nat.reduceSub, Nat.reduceMul, Nat.reduceEqDiff, Nat.reduceLT, Nat.reduceLeDiff, Nat.reduceBEq, Nat.reduceBNe, Int.reduceLT, Int.reduceLE, Int.reduceEq, Int.reduceAdd, Int.reduceSub, Int.reduceNeg, reduceCtorEq, jrV]
                exact hJ (g4, g5, (F1, f1), (F2, f2), (F3, f3), G7) _ hd8 (by simp only [go_sem, Nat.reduceAdd, Nat.reduceSub, Nat.reduceMul, Nat.reduceEqDiff, Nat.reduceLT, Nat.reduceLeDiff, Nat.reduceBEq, Nat.reduceBNe, Int.reduceLT, Int.reduceLE, Int.reduceEq, Int.reduceAdd, Int.reduceSub, Int.reduceNeg, reduceCtorEq]; simp)
            · refine ⟨?_, fun g4 => ?_⟩
              · refine anyc_ok (N := 3000) (call_does (fun u G => ∃ dv, u = .tuple #[dv, jrV j8, .int .i64 0] ∧ DevG G dv d8) rfl rfl (by kernel_rfl) rfl (by simp only [dOk_some, dOk_none, Nat.reduceLT]) (fun G hG => hcom hG.wf (tidL hG (by simp) (by simp; decide)) (hd.mono (hG.le G5 (by simp))) (hb6.mono (hG.le G6 (by simp))))) hk' rfl (by first | exact .inl rfl | exact .inr ⟨_, _, rfl, rfl⟩) ?_
                rintro _ ⟨_, G7, ⟨dv, rfl, hd8⟩, hn7, rfl⟩
                clear hn7
                obtain ⟨F1, f1, F2, f2, F3, f3, rfl, hfo⟩ := hd8.form
                clear hfo
                simp only [go_sem, Nat.reduceAdd, Nat.reduceSub, Nat.reduceMul, Nat.reduceEqDiff, Nat.reduceLT, Nat.reduceLeDiff, Nat.reduceBEq, Nat.reduceBNe, Int.reduceLT, Int.reduceLE, Int.reduceEq, Int.reduceAdd, Int.reduceSub, Int.reduceNeg, reduceCtorEq, jrV]
                intro g4
                refine ren_ok (swapN 4 5) ?_
                exact hJ (g4, g5, (F1, f1), (F2, f2), (F3, f3), G7) _ hd8 (by simp only [go_sem, Nat.reduceAdd, Nat.reduceSub, Nat.reduceMul, Nat.reduceEqDiff, Nat.reduceLT, Nat.reduceLeDiff, Nat.reduceBEq, Nat.reduceBNe, Int.reduceLT, Int.reduceLE, Int.reduceEq, Int.reduceAdd, Int.reduceSub, Int.reduceNeg, reduceCtorEq, swapN]; simp)
              · refine anyc_ok (N := 3000) (call_does (fun u G => ∃ dv, u = .tuple #[dv, jrV j8, .int .i64 0] ∧ DevG G dv d8) rfl rfl (by kernel_rfl) rfl (by simp only [dOk_some, dOk_none, Nat.reduceLT]) (fun G hG => hcom hG.wf (tidL hG (by simp) (by simp; decide)) (hd.mono (hG.le G5 (by simp))) (hb6.mono (hG.le G6 (by simp))))) hk' rfl (by first | exact .inl rfl | exact .inr ⟨_, _, rfl, rfl⟩) ?_
                rintro _ ⟨_, G7, ⟨dv, rfl, hd8⟩, hn7, rfl⟩
                clear hn7
                obtain ⟨F1, f1, F2, f2, F3, f3, rfl, hfo⟩ := hd8.form
                clear hfo
                simp only [go_sem, Nat.reduceAdd, Nat.reduceSub, Nat.reduceMul, Nat.reduceEqDiff, Nat.reduceLT, Nat.reduceLeDiff, Nat.reduceBEq, Nat.reduceBNe, Int.reduceLT, Int.reduceLE, Int.reduceEq, Int.reduceAdd, Int.reduceSub, Int.reduceNeg, reduceCtorEq, jrV]
                refine ren_ok (swapN 4 5) ?_
                exact hJ (g4, g5, (F1, f1), (F2, f2), (F3, f3), G7) _ hd8 (by simp only [go_sem, Nat.reduceAdd, Nat.reduceSub, Nat.reduceMul, Nat.reduceEqDiff, Nat.reduceLT, Nat.reduceLeDiff, Nat.reduceBEq, Nat.reduceBNe, Int.reduceLT, Int.reduceLE, Int.reduceEq, Int.reduceAdd, Int.reduceSub, Int.reduceNeg, reduceCtorEq, swapN]; simp)
          · refine ⟨?_, fun g5 => ?_⟩
            · refine any_ok (N := 3000) (lit_append_does (n := 1) (m := b.length) (B1 := [_]) (news := b.map enc8) rfl tySlice23 tyApp5 rfl (fun h => h) rfl rfl rfl rfl rfl (by simp only [dOk_some, dOk_none, Nat.reduceLT]) (enc8_one b) (by unfold maxLen; omega) (by omega) (fun G hG => (ByG.mono hbb (hG G4 (by simp))).tsl)) hk' rfl (.inl rfl) (by rintro _ ⟨_, _, _, _, _, rfl⟩ _ b hb; first | exact hb | exact List.mem_cons_of_mem _ hb | exact List.mem_cons_of_mem _ (List.mem_cons_of_mem _ hb)) (by rintro _ ⟨_, _, _, _, _, rfl⟩ v hv; exact hv) ?_
              rintro _ ⟨Al, cl, G6, hs6, _, rfl⟩
              have hb6 := lit_by (enc_byte _) hs6
              clear hs6
              simp only [go_sem, Nat.reduceAdd, Nat.reduceSub, Nat.reduceMul, Nat.reduceEqDiff, Nat.reduceLT, Nat.reduceLeDiff, Nat.reduceBEq, Nat.reduceBNe, Int.reduceLT, Int.reduceLE, Int.reduceEq, Int.reduceAdd, Int.reduceSub, Int.reduceNeg, reduceCtorEq]
              refine ⟨?_, fun g5 => ?_⟩
              · refine anyc_ok (N := 3000) (call_does (fun u G => ∃ dv, u = .tuple #[dv, jrV j8, .int .i64 0] ∧ DevG G dv d8) rfl rfl (by kernel_rfl) rfl (by simp only [dOk_some, dOk_none, Nat.reduceLT]) (fun G hG => hcom hG.wf (tidL hG (by simp) (by simp; decide)) (hd.mono (hG.le G5 (by simp))) (hb6.mono (hG.le G6 (by simp))))) hk' rfl (by first | exact .inl rfl | exact .inr ⟨_, _, rfl, rfl⟩) ?_
                rintro _ ⟨_, G7, ⟨dv, rfl, hd8⟩, hn7, rfl⟩
                clear hn7
                obtain ⟨F1, f1, F2, f2, F3, f3, rfl, hfo⟩ := hd8.form
                clear hfo
                simp only [go_sem, Nat.reduceAdd, Nat.reduceSub, Nat.reduceMul, Nat.reduceEqDiff, Nat.reduceLT, Nat.reduceLeDiff, Nat.reduceBEq, Nat.reduceBNe, Int.reduceLT, Int.reduceLE, Int.reduceEq, Int.reduceAdd, Int.reduceSub, Int.reduceNeg, reduceCtorEq, jrV]
                intro g5
                exact hJ (g4, g5, (F1, f1), (F2, f2), (F3, f3), G7) _ hd8 (by simp only [go_sem, Nat.reduceAdd, Nat.reduceSub, Nat.reduceMul, Nat.reduceEqDiff, Nat.reduceLT, Nat.reduceLeDiff, Nat.reduceBEq, Nat.reduceBNe, Int.reduceLT, Int.reduceLE, Int.reduceEq, Int.reduceAdd, Int.reduceSub, Int.reduceNeg, reduceCtorEq]; simp)
              · refine anyc_ok (N := 3000) (call_does (fun u G => ∃ dv, u = .tuple #[dv, jrV j8, .int .i64 0] ∧ DevG G dv d8) rfl rfl (by kernel_rfl) rfl (by simp only [dOk_some, dOk_none, Nat.reduceLT]) (fun G hG => hcom hG.wf (tidL hG (by simp) (by simp; decide)) (hd.mono (hG.le G5 (by simp))) (hb6.mono (hG.le G6 (by simp))))) hk' rfl (by first | exact .inl rfl | exact .inr ⟨_, _, rfl, rfl⟩) ?_
                rintro _ ⟨_, G7, ⟨dv, rfl, hd8⟩, hn7, rfl⟩
                clear hn7
                obtain ⟨F1, f1, F2, f2, F3, f3, rfl, hfo⟩ := hd8.form
                clear hfo
                simp only [go_sem, Nat.reduceAdd, Nat.reduceSub, Nat.reduceMul, Nat.reduceEqDiff, Nat.reduceLT, Nat.reduceLeDiff, Nat.reduceBEq, Nat.reduceBNe, Int.reduceLT, Int.reduceLE, Int.reduceEq, Int.reduceAdd, Int.reduceSub, Int.reduceNeg, reduceCtorEq, jrV]
                exact hJ (g4, g5, (F1, f1), (F2, f2), (F3, f3), G7) _ hd8 (by simp only [go_sem, Nat.reduceAdd, Nat.reduceSub, Nat.reduceMul, Nat.reduceEqDiff, Nat.reduceLT, Nat.reduceLeDiff, Nat.reduceBEq, Nat.reduceBNe, Int.reduceLT, Int.reduceLE, Int.reduceEq, Int.reduceAdd, Int.reduceSub, Int.reduceNeg, reduceCtorEq]; simp)
            · refine any_ok (N := 3000) (lit_append_does (n := 1) (m := b.length) (B1 := [_, _]) (news := b.map enc8) rfl tySlice23 tyApp5 rfl (fun h => h) rfl rfl rfl rfl rfl (by simp only [dOk_some, dOk_none, Nat.reduceLT]) (enc8_one b) (by unfold maxLen; omega) (by omega) (fun G hG => (ByG.mono hbb (hG G4 (by simp))).tsl)) hk' rfl (.inl rfl) (by rintro _ ⟨_, _, _, _, _, rfl⟩ _ b hb; first | exact hb | exact List.mem_cons_of_mem _ hb | exact List.mem_cons_of_mem _ (List.mem_cons_of_mem _ hb)) (by rintro _ ⟨_, _, _, _, _, rfl⟩ v hv; exact hv) ?_
              rintro _ ⟨Al, cl, G6, hs6, _, rfl⟩
              have hb6 := lit_by (enc_byte _) hs6
              clear hs6
              simp only [go_sem, Nat.reduceAdd, Nat.reduceSub, Nat.reduceMul, Nat.reduceEqDiff, Nat.reduceLT, Nat.reduceLeDiff, Nat.reduceBEq, Nat.reduceBNe, Int.reduceLT, Int.reduceLE, Int.reduceEq, Int.reduceAdd, Int.reduceSub, Int.reduceNeg, reduceCtorEq]
              refine anyc_ok (N := 3000) (call_does (fun u G => ∃ dv, u = .tuple #[dv, jrV j8, .int .i64 0] ∧ DevG G dv d8) rfl rfl (by kernel_rfl) rfl (by simp only [dOk_some, dOk_none, Nat.reduceLT]) (fun G hG => hcom hG.wf (tidL hG (by simp) (by simp; decide)) (hd.mono (hG.le G5 (by simp))) (hb6.mono (hG.le G6 (by simp))))) hk' rfl (by first | exact .inl rfl | exact .inr ⟨_, _, rfl, rfl⟩) ?_
              rintro _ ⟨_, G7, ⟨dv, rfl, hd8⟩, hn7, rfl⟩
              clear hn7
              obtain ⟨F1, f1, F2, f2, F3, f3, rfl, hfo⟩ := hd8.form
              clear hfo
              simp only [go_sem, Nat.reduceAdd, Nat.reduceSub, Nat.reduceMul, Nat.reduceEqDiff, Nat.reduceLT, Nat.reduceLeDiff, Nat.reduceBEq, Nat.reduceBNe, Int.reduceLT, Int.reduceLE, Int.reduceEq, Int.reduceAdd, Int.reduceSub, Int.reduceNeg, reduceCtorEq, jrV]
              exact hJ (g4, g5, (F1, f1), (F2, f2), (F3, f3), G7) _ hd8 (by simp only [go_sem, Nat.reduceAdd, Nat.reduceSub, Nat.reduceMul, Nat.reduceEqDiff, Nat.reduceLT, Nat.reduceLeDiff, Nat.reduceBEq, Nat.reduceBNe, Int.reduceLT, Int.reduceLE, Int.reduceEq, Int.reduceAdd, Int.reduceSub, Int.reduceNeg, reduceCtorEq]; simp)
          · refine ⟨?_, fun g4 => ?_⟩
            · refine any_ok (N := 3000) (lit_append_does (n := 1) (m := b.length) (B1 := [_]) (news := b.map enc8) rfl tySlice23 tyApp5 rfl (fun h => h) rfl rfl rfl rfl rfl (by simp only [dOk_some, dOk_none, Nat.reduceLT]) (enc8_one b) (by unfold maxLen; omega) (by omega) (fun G hG => (ByG.mono hbb (hG G4 (by simp))).tsl)) hk' rfl (.inl rfl) (by rintro _ ⟨_, _, _, _, _, rfl⟩ _ b hb; first | exact hb | exact List.mem_cons_of_mem _ hb | exact List.mem_cons_of_mem _ (List.mem_cons_of_mem _ hb)) (by rintro _ ⟨_, _, _, _, _, rfl⟩ v hv; exact hv) ?_
              rintro _ ⟨Al, cl, G6, hs6, _, rfl⟩
              have hb6 := lit_by (enc_byte _) hs6
              clear hs6
              simp only [go_sem, Nat.reduceAdd, Nat.reduceSub, Nat.reduceMul, Nat.reduceEqDiff, Nat.reduceLT, Nat.reduceLeDiff, Nat.reduceBEq, Nat.reduceBNe, Int.reduceLT, Int.reduceLE, Int.reduceEq, Int.reduceAdd, Int.reduceSub, Int.reduceNeg, reduceCtorEq]
              refine ⟨?_, fun g4 => ?_⟩
              · refine anyc_ok (N := 3000) (call_does (fun u G => ∃ dv, u = .tuple #[dv, jrV j8, .int .i64 0] ∧ DevG G dv d8) rfl rfl (by kernel_rfl) rfl (by simp only [dOk_some, dOk_none, Nat.reduceLT]) (fun G hG => hcom hG.wf (tidL hG (by simp) (by simp; decide)) (hd.mono (hG.le G5 (by simp))) (hb6.mono (hG.le G6 (by simp))))) hk' rfl (by first | exact .inl rfl | exact .inr ⟨_, _, rfl, rfl⟩) ?_
                rintro _ ⟨_, G7, ⟨dv, rfl, hd8⟩, hn7, rfl⟩
                clear hn7
                obtain ⟨F1, f1, F2, f2, F3, f3, rfl, hfo⟩ := hd8.form
                clear hfo
                simp only [go_sem, Nat.reduceAdd, Nat.reduceSub, Nat.reduceMul, Nat.reduceEqDiff, Nat.reduceLT, Nat.reduceLeDiff, Nat.reduceBEq, Nat.reduceBNe, Int.reduceLT, Int.reduceLE, Int.reduceEq, Int.reduceAdd, Int.reduceSub, Int.reduceNeg, reduceCtorEq, jrV]
                intro g4
                refine ren_ok (swapN 4 5) ?_
                exact hJ (g4, g5, (F1, f1), (F2, f2), (F3, f3), G7) _ hd8 (by simp only [go_sem, Nat.reduceAdd, Nat.reduceSub, Nat.reduceMul, Nat.reduceEqDiff, Nat.reduceLT, Nat.reduceLeDiff, Nat.reduceBEq, Nat.reduceBNe, Int.reduceLT, Int.reduceLE, Int.reduceEq, Int.reduceAdd, Int.reduceSub, Int.reduceNeg, reduceCtorEq, swapN]; simp)
              · refine anyc_ok (N := 3000) (call_does (fun u G => ∃ dv, u = .tuple #[dv, jrV j8, .int .i64 0] ∧ DevG G dv d8) rfl rfl (by kernel_rfl) rfl (by simp only [dOk_some, dOk_none, Nat.reduceLT]) (fun G hG => hcom hG.wf (tidL hG (by simp) (by simp; decide)) (hd.mono (hG.le G5 (by simp))) (hb6.mono (hG.le G6 (by simp))))) hk' rfl (by first | exact .inl rfl | exact .inr ⟨_, _, rfl, rfl⟩) ?_
                rintro _ ⟨_, G7, ⟨dv, rfl, hd8⟩, hn7, rfl⟩
                clear hn7
                obtain ⟨F1, f1, F2, f2, F3, f3, rfl, hfo⟩ := hd8.form
                clear hfo
                simp only [go_sem, Nat.reduceAdd, Nat.reduceSub, Nat.reduceMul, Nat.reduceEqDiff, Nat.reduceLT, Nat.reduceLeDiff, Nat.reduceBEq, Nat.reduceBNe, Int.reduceLT, Int.reduceLE, Int.reduceEq, Int.reduceAdd, Int.reduceSub, Int.reduceNeg, reduceCtorEq, jrV]
                refine ren_ok (swapN 4 5) ?_
                exact hJ (g4, g5, (F1, f1), (F2, f2), (F3, f3), G7) _ hd8 (by simp only [go_sem, Nat.reduceAdd, Nat.reduceSub, Nat.reduceMul, Nat.reduceEqDiff, Nat.reduceLT, Nat.reduceLeDiff, Nat.reduceBEq, Nat.reduceBNe, Int.reduceLT, Int.reduceLE, Int.reduceEq, Int.reduceAdd, Int.reduceSub, Int.reduceNeg, reduceCtorEq, swapN]; simp)
            · refine any_ok (N := 3000) (lit_append_does (n := 1) (m := b.length) (B1 := [_, _]) (news := b.map enc8) rfl tySlice23 tyApp5 rfl (fun h => h) rfl rfl rfl rfl rfl (by simp only [dOk_some, dOk_none, Nat.reduceLT]) (enc8_one b) (by unfold maxLen; omega) (by omega) (fun G hG => (ByG.mono hbb (hG G4 (by simp))).tsl)) hk' rfl (.inl rfl) (by rintro _ ⟨_, _, _, _, _, rfl⟩ _ b hb; first | exact hb | exact List.mem_cons_of_mem _ hb | exact List.mem_cons_of_mem _ (List.mem_cons_of_mem _ hb)) (by rintro _ ⟨_, _, _, _, _, rfl⟩ v hv; exact hv) ?_
              rintro _ ⟨Al, cl, G6, hs6, _, rfl⟩
              have hb6 := lit_by (enc_byte _) hs6
              clear hs6
              simp only [go_sem, Nat.reduceAdd, Nat.reduceSub, Nat.reduceMul, Nat.reduceEqDiff, Nat.reduceLT, Nat.reduceLeDiff, Nat.reduceBEq, Nat.reduceBNe, Int.reduceLT, Int.reduceLE, Int.reduceEq, Int.reduceAdd, Int.reduceSub, Int.reduceNeg, reduceCtorEq]
              refine anyc_ok (N := 3000) (call_does (fun u G => ∃ dv, u = .tuple #[dv, jrV j8, .int .i64 0] ∧ DevG G dv d8) rfl rfl (by kernel_rfl) rfl (by simp only [dOk_some, dOk_none, Nat.reduceLT]) (fun G hG => hcom hG.wf (tidL hG (by simp) (by simp; decide)) (hd.mono (hG.le G5 (by simp))) (hb6.mono (hG.le G6 (by simp))))) hk' rfl (by first | exact .inl rfl | exact .inr ⟨_, _, rfl, rfl⟩) ?_
              rintro _ ⟨_, G7, ⟨dv, rfl, hd8⟩, hn7, rfl⟩
              clear hn7
              obtain ⟨F1, f1, F2, f2, F3, f3, rfl, hfo⟩ := hd8.form
              clear hfo
              simp only [go_sem, Nat.reduceAdd, Nat.reduceSub, Nat.reduceMul, Nat.reduceEqDiff, Nat.reduceLT, Nat.reduceLeDiff, Nat.reduceBEq, Nat.reduceBNe, Int.reduceLT, Int.reduceLE, Int.reduceEq, Int.reduceAdd, Int.reduceSub, Int.reduceNeg, reduceCtorEq, jrV]
              refine ren_ok (swapN 4 5) ?_
              exact hJ (g4, g5, (F1, f1), (F2, f2), (F3, f3), G7) _ hd8 (by simp only [go_sem, Nat.reduceAdd, Nat.reduceSub, Nat.reduceMul, Nat.reduceEqDiff, Nat.reduceLT, Nat.reduceLeDiff, Nat.reduceBEq, Nat.reduceBNe, Int.reduceLT, Int.reduceLE, Int.reduceEq, Int.reduceAdd, Int.reduceSub, Int.reduceNeg, reduceCtorEq, swapN]; simp)
        · refine ⟨fun gl => ?_, fun g5 => ?_⟩
          · refine ⟨?_, fun g5 => ?_⟩
            · refine any_ok (N := 3000) (lit_append_does (n := 1) (m := b.length) (B1 := []) (news := b.map enc8) rfl tySlice23 tyApp5 rfl (fun h => h) rfl rfl rfl rfl rfl (by simp only [dOk_some, dOk_none, Nat.reduceLT]) (enc8_one b) (by unfold maxLen; omega) (by omega) (fun G hG => (ByG.mono hbb (hG G4 (by simp))).tsl)) hk' rfl (.inl rfl) (by rintro _ ⟨_, _, _, _, _, rfl⟩ _ b hb; first | exact hb | exact List.mem_cons_of_mem _ hb | exact List.mem_cons_of_mem _ (List.mem_cons_of_mem _ hb)) (by rintro _ ⟨_, _, _, _, _, rfl⟩ v hv; exact hv) ?_
              rintro _ ⟨Al, cl, G6, hs6, _, rfl⟩
              have hb6 := lit_by (enc_byte _) hs6
              clear hs6
              simp only [go_sem, Nat.reduceAdd, Nat.reduceSub, Nat.reduceMul, Nat.reduceEqDiff, Nat.reduceLT, Nat.reduceLeDiff, Nat.reduceBEq, Nat.reduceBNe, Int.reduceLT, Int.reduceLE, Int.reduceEq, Int.reduceAdd, Int.reduceSub, Int.reduceNeg, reduceCtorEq]
              refine ⟨?_, fun g5 => ?_⟩
              · refine anyc_ok (N := 3000) (call_does (fun u G => ∃ dv, u = .tuple #[dv, jrV j8, .int .i64 0] ∧ DevG G dv d8) rfl rfl (by kernel_rfl) rfl (by simp only [dOk_some, dOk_none, Nat.reduceLT]) (fun G hG => hcom hG.wf (tidL hG (by simp) (by simp; decide)) (hd.mono (hG.le G5 (by simp))) (hb6.mono (hG.le G6 (by simp))))) hk' rfl (by first | exact .inl rfl | exact .inr ⟨_, _, rfl, rfl⟩) ?_
                rintro _ ⟨_, G7, ⟨dv, rfl, hd8⟩, hn7, rfl⟩
                clear hn7
                obtain ⟨F1, f1, F2, f2, F3, f3, rfl, hfo⟩ := hd8.form
                clear hfo
                simp only [go_sem, Nat.reduceAdd, Nat.reduceSub, Nat.reduceMul, Nat.reduceEqDiff, Nat.reduceLT, Nat.reduceLeDiff, Nat.reduceBEq, Nat.reduceBNe, Int.reduceLT, Int.reduceLE, Int.reduceEq, Int.reduceAdd, Int.reduceSub, Int.reduceNeg, reduceCtorEq, jrV]
                intro g5
                refine ren_ok (swapN 3 4) ?_
                exact hJ (g4, g5, (F1, f1), (F2, f2), (F3, f3), G7) _ hd8 (by simp only [go_sem, Nat.reduceAdd, Nat.reduceSub, Nat.reduceMul, Nat.reduceEqDiff, Nat.reduceLT, Nat.reduceLeDiff, Nat.reduceBEq, Nat.reduceBNe, Int.reduceLT, Int.reduceLE, Int.reduceEq, Int.reduceAdd, Int.reduceSub, Int.reduceNeg, reduceCtorEq, swapN]; simp)
              · refine anyc_ok (N := 3000) (call_does (fun u G => ∃ dv, u = .tuple #[dv, jrV j8, .int .i64 0] ∧ DevG G dv d8) rfl rfl (by kernel_rfl) rfl (by simp only [dOk_some, dOk_none, Nat.reduceLT]) (fun G hG => hcom hG.wf (tidL hG (by simp) (by simp; decide)) (hd.mono (hG.le G5 (by simp))) (hb6.mono (hG.le G6 (by simp))))) hk' rfl (by first | exact .inl rfl | exact .inr ⟨_, _, rfl, rfl⟩) ?_
                rintro _ ⟨_, G7, ⟨dv, rfl, hd8⟩, hn7, rfl⟩
                clear hn7
                obtain ⟨F1, f1, F2, f2, F3, f3, rfl, hfo⟩ := hd8.form
                clear hfo
                simp only [go_sem, Nat.reduceAdd, Nat.reduceSub, Nat.reduceMul, Nat.reduceEqDiff, Nat.reduceLT, Nat.reduceLeDiff, Nat.reduceBEq, Nat.reduceBNe, Int.reduceLT, Int.reduceLE, Int.reduceEq, Int.reduceAdd, Int.reduceSub, Int.reduceNeg, reduceCtorEq, jrV]
                refine ren_ok (swapN 3 4) ?_
                exact hJ (g4, g5, (F1, f1), (F2, f2), (F3, f3), G7) _ hd8 (by simp only [go_sem, Nat.reduceAdd, Nat.reduceSub, Nat.reduceMul, Nat.reduceEqDiff, Nat.reduceLT, Nat.reduceLeDiff, Nat.reduceBEq, Nat.reduceBNe, Int.reduceLT, Int.reduceLE, Int.reduceEq, Int.reduceAdd, Int.reduceSub, Int.reduceNeg, reduceCtorEq, swapN]; simp)
            · refine any_ok (N := 3000) (lit_append_does (n := 1) (m := b.length) (B1 := [_]) (news := b.map enc8) rfl tySlice23 tyApp5 rfl (fun h => h) rfl rfl rfl rfl rfl (by simp only [dOk_some, dOk_none, Nat.reduceLT]) (enc8_one b) (by unfold maxLen; omega) (by omega) (fun G hG => (ByG.mono hbb (hG G4 (by simp))).tsl)) hk' rfl (.inl rfl) (by rintro _ ⟨_, _, _, _, _, rfl⟩ _ b hb; first | exact hb | exact List.mem_cons_of_mem _ hb | exact List.mem_cons_of_mem _ (List.mem_cons_of_mem _ hb)) (by rintro _ ⟨_, _, _, _, _, rfl⟩ v hv; exact hv) ?_
              rintro _ ⟨Al, cl, G6, hs6, _, rfl⟩
              have hb6 := lit_by (enc_byte _) hs6
              clear hs6
              simp only [go_sem, Nat.reduceAdd, Nat.reduceSub, Nat.reduceMul, Nat.reduceEqDiff, Nat.reduceLT, Nat.reduceLeDiff, Nat.reduceBEq, Nat.reduceBNe, Int.reduceLT, Int.reduceLE, Int.reduceEq, Int.reduceAdd, Int.reduceSub, Int.reduceNeg, reduceCtorEq]
              refine anyc_ok (N := 3000) (call_does (fun u G => ∃ dv, u = .tuple #[dv, jrV j8, .int .i64 0] ∧ DevG G dv d8) rfl rfl (by kernel_rfl) rfl (by simp only [dOk_some, dOk_none, Nat.reduceLT]) (fun G hG => hcom hG.wf (tidL hG (by simp) (by simp; decide)) (hd.mono (hG.le G5 (by simp))) (hb6.mono (hG.le G6 (by simp))))) hk' rfl (by first | exact .inl rfl | exact .inr ⟨_, _, rfl, rfl⟩) ?_
              rintro _ ⟨_, G7, ⟨dv, rfl, hd8⟩, hn7, rfl⟩
              clear hn7
              obtain ⟨F1, f1, F2, f2, F3, f3, rfl, hfo⟩ := hd8.form
              clear hfo
              simp only [go_sem, Nat.reduceAdd, Nat.reduceSub, Nat.reduceMul, Nat.reduceEqDiff, Nat.reduceLT, Nat.reduceLeDiff, Nat.reduceBEq, Nat.reduceBNe, Int.reduceLT, Int.reduceLE, Int.reduceEq, Int.reduceAdd, Int.reduceSub, Int.reduceNeg, reduceCtorEq, jrV]
              refine ren_ok (swapN 3 4) ?_
              exact hJ (g4, g5, (F1, f1), (F2, f2), (F3, f3), G7) _ hd8 (by simp only [go_sem, Nat.reduceAdd, Nat.reduceSub, Nat.reduceMul, Nat.reduceEqDiff, Nat.reduceLT, Nat.reduceLeDiff, Nat.reduceBEq, Nat.reduceBNe, Int.reduceLT, Int.reduceLE, Int.reduceEq, Int.reduceAdd, Int.reduceSub, Int.reduceNeg, reduceCtorEq, swapN]; simp)
          · intro gl
            refine any_ok (N := 3000) (lit_append_does (n := 1) (m := b.length) (B1 := []) (news := b.map enc8) rfl tySlice23 tyApp5 rfl (fun h => h) rfl rfl rfl rfl rfl (by simp only [dOk_some, dOk_none, Nat.reduceLT]) (enc8_one b) (by unfold maxLen; omega) (by omega) (fun G hG => (ByG.mono hbb (hG G4 (by simp))).tsl)) hk' rfl (.inl rfl) (by rintro _ ⟨_, _, _, _, _, rfl⟩ _ b hb; first | exact hb | exact List.mem_cons_of_mem _ hb | exact List.mem_cons_of_mem _ (List.mem_cons_of_mem _ hb)) (by rintro _ ⟨_, _, _, _, _, rfl⟩ v hv; exact hv) ?_
            rintro _ ⟨Al, cl, G6, hs6, _, rfl⟩
            have hb6 := lit_by (enc_byte _) hs6
            clear hs6
            simp only [go_sem, Nat.reduceAdd, Nat.reduceSub, Nat.reduceMul, Nat.reduceEqDiff, Nat.reduceLT, Nat.reduceLeDiff, Nat.reduceBEq, Nat.reduceBNe, Int.reduceLT, Int.reduceLE, Int.reduceEq, Int.reduceAdd, Int.reduceSub, Int.reduceNeg, reduceCtorEq]
            refine anyc_ok (N := 3000) (call_does (fun u G => ∃ dv, u = .tuple #[dv, jrV j8, .int .i64 0] ∧ DevG G dv d8) rfl rfl (by kernel_rfl) rfl (by simp only [dOk_some, dOk_none, Nat.reduceLT]) (fun G hG => hcom hG.wf (tidL hG (by simp) (by simp; decide)) (hd.mono (hG.le G5 (by simp))) (hb6.mono (hG.le G6 (by simp))))) hk' rfl (by first | exact .inl rfl | exact .inr ⟨_, _, rfl, rfl⟩) ?_
            rintro _ ⟨_, G7, ⟨dv, rfl, hd8⟩, hn7, rfl⟩
            clear hn7
            obtain ⟨F1, f1, F2, f2, F3, f3, rfl, hfo⟩ := hd8.form
            clear hfo
            simp only [go_sem, Nat.reduceAdd, Nat.reduceSub, Nat.reduceMul, Nat.reduceEqDiff, Nat.reduceLT, Nat.reduceLeDiff, Nat.reduceBEq, Nat.reduceBNe, Int.reduceLT, Int.reduceLE, Int.reduceEq, Int.reduceAdd, Int.reduceSub, Int.reduceNeg, reduceCtorEq, jrV]
            refine ren_ok (swapN 4 5) ?_
            simp only [go_sem, Nat.reduceAdd, Nat.reduceSub, Nat.reduceMul, Nat.reduceEqDiff, Nat.reduceLT, Nat.reduceLeDiff, Nat.reduceBEq, Nat.reduceBNe, Int.reduceLT, Int.reduceLE, Int.reduceEq, Int.reduceAdd, Int.reduceSub, Int.reduceNeg, reduceCtorEq, swapN]
            refine ren_ok (swapN 3 4) ?_
            exact hJ (g4, g5, (F1, f1), (F2, f2), (F3, f3), G7) _ hd8 (by simp only [go_sem, Nat.reduceAdd, Nat.reduceSub, Nat.reduceMul, Nat.reduceEqDiff, Nat.reduceLT, Nat.reduceLeDiff, Nat.reduceBEq, Nat.reduceBNe, Int.reduceLT, Int.reduceLE, Int.reduceEq, Int.reduceAdd, Int.reduceSub, Int.reduceNeg, reduceCtorEq, swapN]; simp)
        · refine ⟨fun gl => ?_, fun g4 => ?_⟩
          · refine ⟨?_, fun g4 => ?_⟩
            · refine any_ok (N := 3000) (lit_append_does (n := 1) (m := b.length) (B1 := []) (news := b.map enc8) rfl tySlice23 tyApp5 rfl (fun h => h) rfl rfl rfl rfl rfl (by simp only [dOk_some, dOk_none, Nat.reduceLT]) (enc8_one b) (by unfold maxLen; omega) (by omega) (fun G hG => (ByG.mono hbb (hG G4 (by simp))).tsl)) hk' rfl (.inl rfl) (by rintro _ ⟨_, _, _, _, _, rfl⟩ _ b hb; first | exact hb | exact List.mem_cons_of_mem _ hb | exact List.mem_cons_of_mem _ (List.mem_cons_of_mem _ hb)) (by rintro _ ⟨_, _, _, _, _, rfl⟩ v hv; exact hv) ?_
              rintro _ ⟨Al, cl, G6, hs6, _, rfl⟩
              have hb6 := lit_by (enc_byte _) hs6
              clear hs6
              simp only [go_sem, Nat.reduceAdd, Nat.reduceSub, Nat.reduceMul, Nat.reduceEqDiff, Nat.reduceLT, Nat.reduceLeDiff, Nat.reduceBEq, Nat.reduceBNe, Int.reduceLT, Int.reduceLE, Int.reduceEq, Int.reduceAdd, Int.reduceSub, Int.reduceNeg, reduceCtorEq]
              refine ⟨?_, fun g4 => ?_⟩
              · refine anyc_ok (N := 3000) (call_does (fun u G => ∃ dv, u = .tuple #[dv, jrV j8, .int .i64 0] ∧ DevG G dv d8) rfl rfl (by kernel_rfl) rfl (by simp only [dOk_some, dOk_none, Nat.reduceLT]) (fun G hG => hcom hG.wf (tidL hG (by simp) (by simp; decide)) (hd.mono (hG.le G5 (by simp))) (hb6.mono (hG.le G6 (by simp))))) hk' rfl (by first | exact .inl rfl | exact .inr ⟨_, _, rfl, rfl⟩) ?_
                rintro _ ⟨_, G7, ⟨dv, rfl, hd8⟩, hn7, rfl⟩
                clear hn7
                obtain ⟨F1, f1, F2, f2, F3, f3, rfl, hfo⟩ := hd8.form
                clear hfo
                simp only [go_sem, Nat.reduceAdd, Nat.reduceSub, Nat.reduceMul, Nat.reduceEqDiff, Nat.reduceLT, Nat.reduceLeDiff, Nat.reduceBEq, Nat.reduceBNe, Int.reduceLT, Int.reduceLE, Int.reduceEq, Int.reduceAdd, Int.reduceSub, Int.reduceNeg, reduceCtorEq, jrV]
                intro g4
                refine ren_ok (swapN 3 5) ?_
                simp only [go_sem, Nat.reduceAdd, Nat.reduceSub, Nat.reduceMul, Nat.reduceEqDiff, Nat.reduceLT, Nat.reduceLeDiff, Nat.reduceBEq, Nat.reduceBNe, Int.reduceLT, Int.reduceLE, Int.reduceEq, Int.reduceAdd, Int.reduceSub, Int.reduceNeg, reduceCtorEq, swapN]
                refine ren_ok (swapN 3 4) ?_
                exact hJ (g4, g5, (F1, f1), (F2, f2), (F3, f3), G7) _ hd8 (by simp only [go_sem, Nat.reduceAdd, Nat.reduceSub, Nat.reduceMul, Nat.reduceEqDiff, Nat.reduceLT, Nat.reduceLeDiff, Nat.reduceBEq, Nat.reduceBNe, Int.reduceLT, Int.reduceLE, Int.reduceEq, Int.reduceAdd, Int.reduceSub, Int.reduceNeg, reduceCtorEq, swapN]; simp)
              · refine anyc_ok (N := 3000) (call_does (fun u G => ∃ dv, u = .tuple #[dv, jrV j8, .int .i64 0] ∧ DevG G dv d8) rfl rfl (by kernel_rfl) rfl (by simp only [dOk_some, dOk_none, Nat.reduceLT]) (fun G hG => hcom hG.wf (tidL hG (by simp) (by simp; decide)) (hd.mono (hG.le G5 (by simp))) (hb6.mono (hG.le G6 (by simp))))) hk' rfl (by first | exact .inl rfl | exact .inr ⟨_, _, rfl, rfl⟩) ?_
                rintro _ ⟨_, G7, ⟨dv, rfl, hd8⟩, hn7, rfl⟩
                clear hn7
                obtain ⟨F1, f1, F2, f2, F3, f3, rfl, hfo⟩ := hd8.form
                clear hfo
                simp only [go_sem, Nat.reduceAdd, Nat.reduceSub, Nat.reduceMul, Nat.reduceEqDiff, Nat.reduceLT, Nat.reduceLeDiff, Nat.reduceBEq, Nat.reduceBNe, Int.reduceLT, Int.reduceLE, Int.reduceEq, Int.reduceAdd, Int.reduceSub, Int.reduceNeg, reduceCtorEq, jrV]
                refine ren_ok (swapN 3 5) ?_
                simp only [go_sem, Nat.reduceAdd, Nat.reduceSub, Nat.reduceMul, Nat.reduceEqDiff, Nat.reduceLT, Nat.reduceLeDiff, Nat.reduceBEq, Nat.reduceBNe, Int.reduceLT, Int.reduceLE, Int.reduceEq, Int.reduceAdd, Int.reduceSub, Int.reduceNeg, reduceCtorEq, swapN]
                refine ren_ok (swapN 3 4) ?_
                exact hJ (g4, g5, (F1, f1), (F2, f2), (F3, f3), G7) _ hd8 (by simp only [go_sem, Nat.reduceAdd, Nat.reduceSub, Nat.reduceMul, Nat.reduceEqDiff, Nat.reduceLT, Nat.reduceLeDiff, Nat.reduceBEq, Nat.reduceBNe, Int.reduceLT, Int.reduceLE, Int.reduceEq, Int.reduceAdd, Int.reduceSub, Int.reduceNeg, reduceCtorEq, swapN]; simp)
            · refine any_ok (N := 3000) (lit_append_does (n := 1) (m := b.length) (B1 := [_]) (news := b.map enc8) rfl tySlice23 tyApp5 rfl (fun h => h) rfl rfl rfl rfl rfl (by simp only [dOk_some, dOk_none, Nat.reduceLT]) (enc8_one b) (by unfold maxLen; omega) (by omega) (fun G hG => (ByG.mono hbb (hG G4 (by simp))).tsl)) hk' rfl (.inl rfl) (by rintro _ ⟨_, _, _, _, _, rfl⟩ _ b hb; first | exact hb | exact List.mem_cons_of_mem _ hb | exact List.mem_cons_of_mem _ (List.mem_cons_of_mem _ hb)) (by rintro _ ⟨_, _, _, _, _, rfl⟩ v hv; exact hv) ?_
              rintro _ ⟨Al, cl, G6, hs6, _, rfl⟩
              have hb6 := lit_by (enc_byte _) hs6
              clear hs6
              simp only [go_sem, Nat.reduceAdd, Nat.reduceSub, Nat.reduceMul, Nat.reduceEqDiff, Nat.reduceLT, Nat.reduceLeDiff, Nat.reduceBEq, Nat.reduceBNe, Int.reduceLT, Int.reduceLE, Int.reduceEq, Int.reduceAdd, Int.reduceSub, Int.reduceNeg, reduceCtorEq]
              refine anyc_ok (N := 3000) (call_does (fun u G => ∃ dv, u = .tuple #[dv, jrV j8, .int .i64 0] ∧ DevG G dv d8) rfl rfl (by kernel_rfl) rfl (by simp only [dOk_some, dOk_none, Nat.reduceLT]) (fun G hG => hcom hG.wf (tidL hG (by simp) (by simp; decide)) (hd.mono (hG.le G5 (by simp))) (hb6.mono (hG.le G6 (by simp))))) hk' rfl (by first | exact .inl rfl | exact .inr ⟨_, _, rfl, rfl⟩) ?_
              rintro _ ⟨_, G7, ⟨dv, rfl, hd8⟩, hn7, rfl⟩
              clear hn7
              obtain ⟨F1, f1, F2, f2, F3, f3, rfl, hfo⟩ := hd8.form
              clear hfo
              simp only [go_sem, Nat.reduceAdd, Nat.reduceSub, Nat.reduceMul, Nat.reduceEqDiff, Nat.reduceLT, Nat.reduceLeDiff, Nat.reduceBEq, Nat.reduceBNe, Int.reduceLT, Int.reduceLE, Int.reduceEq, Int.reduceAdd, Int.reduceSub, Int.reduceNeg, reduceCtorEq, jrV]
              refine ren_ok (swapN 3 5) ?_
              simp only [go_sem, Nat.reduceAdd, Nat.reduceSub, Nat.reduceMul, Nat.reduceEqDiff, Nat.reduceLT, Nat.reduceLeDiff, Nat.reduceBEq, Nat.reduceBNe, Int.reduceLT, Int.reduceLE, Int.reduceEq, Int.reduceAdd, Int.reduceSub, Int.reduceNeg, reduceCtorEq, swapN]
              refine ren_ok (swapN 3 4) ?_
              exact hJ (g4, g5, (F1, f1), (F2, f2), (F3, f3), G7) _ hd8 (by simp only [go_sem, Nat.reduceAdd, Nat.reduceSub, Nat.reduceMul, Nat.reduceEqDiff, Nat.reduceLT, Nat.reduceLeDiff, Nat.reduceBEq, Nat.reduceBNe, Int.reduceLT, Int.reduceLE, Int.reduceEq, Int.reduceAdd, Int.reduceSub, Int.reduceNeg, reduceCtorEq, swapN]; simp)
          · intro gl
            refine any_ok (N := 3000) (lit_append_does (n := 1) (m := b.length) (B1 := []) (news := b.map enc8) rfl tySlice23 tyApp5 rfl (fun h => h) rfl rfl rfl rfl rfl (by simp only [dOk_some, dOk_none, Nat.reduceLT]) (enc8_one b) (by unfold maxLen; omega) (by omega) (fun G hG => (ByG.mono hbb (hG G4 (by simp))).tsl)) hk' rfl (.inl rfl) (by rintro _ ⟨_, _, _, _, _, rfl⟩ _ b hb; first | exact hb | exact List.mem_cons_of_mem _ hb | exact List.mem_cons_of_mem _ (List.mem_cons_of_mem _ hb)) (by rintro _ ⟨_, _, _, _, _, rfl⟩ v hv; exact hv) ?_
            rintro _ ⟨Al, cl, G6, hs6, _, rfl⟩
            have hb6 := lit_by (enc_byte _) hs6
            clear hs6
            simp only [go_sem, Nat.reduceAdd, Nat.reduceSub, Nat.reduceMul, Nat.reduceEqDiff, Nat.reduceLT, Nat.reduceLeDiff, Nat.reduceBEq, Nat.reduceBNe, Int.reduceLT, Int.reduceLE, Int.reduceEq, Int.reduceAdd, Int.reduceSub, Int.reduceNeg, reduceCtorEq]
            refine anyc_ok (N := 3000) (call_does (fun u G => ∃ dv, u = .tuple #[dv, jrV j8, .int .i64 0] ∧ DevG G dv d8) rfl rfl (by kernel_rfl) rfl (by simp only [dOk_some, dOk_none, Nat.reduceLT]) (fun G hG => hcom hG.wf (tidL hG (by simp) (by simp; decide)) (hd.mono (hG.le G5 (by simp))) (hb6.mono (hG.le G6 (by simp))))) hk' rfl (by first | exact .inl rfl | exact .inr ⟨_, _, rfl, rfl⟩) ?_
            rintro _ ⟨_, G7, ⟨dv, rfl, hd8⟩, hn7, rfl⟩
            clear hn7
            obtain ⟨F1, f1, F2, f2, F3, f3, rfl, hfo⟩ := hd8.form
            clear hfo
            simp only [go_sem, Nat.reduceAdd, Nat.reduceSub, Nat.reduceMul, Nat.reduceEqDiff, Nat.reduceLT, Nat.reduceLeDiff, Nat.reduceBEq, Nat.reduceBNe, Int.reduceLT, Int.reduceLE, Int.reduceEq, Int.reduceAdd, Int.reduceSub, Int.reduceNeg, reduceCtorEq, jrV]
            refine ren_ok (swapN 3 5) ?_
            exact hJ (g4, g5, (F1, f1), (F2, f2), (F3, f3), G7) _ hd8 (by simp only [go_sem, Nat.reduceAdd, Nat.reduceSub, Nat.reduceMul, Nat.reduceEqDiff, Nat.reduceLT, Nat.reduceLeDiff, Nat.reduceBEq, Nat.reduceBNe, Int.reduceLT, Int.reduceLE, Int.reduceEq, Int.reduceAdd, Int.reduceSub, Int.reduceNeg, reduceCtorEq, swapN]; simp)
      rintro ⟨g4, g5, ⟨F1, f1⟩, ⟨F2, f2⟩, ⟨F3, f3⟩, G7⟩ hd8
      simp only
      have eb : base + (v - base) = v := by omega
      have ev : v + 1 - base = (v - base) + 1 := by omega
      simp only [go_sem, Nat.reduceAdd, Nat.reduceSub, Nat.reduceMul, Nat.reduceEqDiff, Nat.reduceLT, Nat.reduceLeDiff, Nat.reduceBEq, Nat.reduceBNe, Int.reduceLT, Int.reduceLE, Int.reduceEq, Int.reduceAdd, Int.reduceSub, Int.reduceNeg, reduceCtorEq]
      repeat (refine And.intro (by omega) ?_)
      have hF : v + 1 ≤ K ∧ base ≤ v + 1 ∧ (v + 1 = 0 ∨ base < v + 1) ∧ saves ≤ v + 1 ∧ (saves = 0 → base = 0) ∧ (0 < saves → snap = [byteOf (base : Int)]) ∧ j8.gen = 1 + (saves : Int) ∧ j8.epoch = 1 ∧ j8.next = ((v + 1 : Nat) : Int) + 1 ∧ (l ++ [(j.epoch, byteOf (v : Int) :: b)]).map (·.2) = rounds b base (v + 1 - base) :=
        ⟨by omega, by omega, .inr (by omega), by omega, hsb, hsn, by omega, by omega, by omega, by rw [List.map_append, hl, ev, rounds_succ, eb]; rfl⟩
      exact again_ok ((v + 1, base, saves), d8, (F1, f1), (F2, f2), (F3, f3), j8, snap, l ++ [(j.epoch, byteOf (v : Int) :: b)], G7) ⟨hF, ⟨hg8, hf8, hc8, hk8⟩, hd8⟩ (by simp only; omega) (by simp only [go_sem, Nat.reduceAdd, Nat.reduceSub, Nat.reduceMul, Nat.reduceEqDiff, Nat.reduceLT, Nat.reduceLeDiff, Nat.reduceBEq, Nat.reduceBNe, Int.reduceLT, Int.reduceLE, Int.reduceEq, Int.reduceAdd, Int.reduceSub, Int.reduceNeg, reduceCtorEq]; simp)
  · have q1 : decide ((v : Int) < (K : Int)) = false := decide_eq_false (by omega)
    obtain rfl : v = K := by omega
    have hbK : base < v := by omega
    have hln : l.length = v - base := by
      have := congrArg List.length hl
      rw [List.length_map, rounds, List.length_map, List.length_range] at this
      exact this
    have hll : (l.length : Int) = (v : Int) - (base : Int) := by omega
    have hget : ∀ i, i < l.length → (l.map (·.2))[i]? = some (byteOf ((base + i : Nat) : Int) :: b) := fun i hi => by rw [hl]; exact rounds_at (by omega)
    simp only [go_sem, Nat.reduceAdd, Nat.reduceSub, Nat.reduceMul, Nat.reduceEqDiff, Nat.reduceLT, Nat.reduceLeDiff, Nat.reduceBEq, Nat.reduceBNe, Int.reduceLT, Int.reduceLE, Int.reduceEq, Int.reduceAdd, Int.reduceSub, Int.reduceNeg, reduceCtorEq, q1]
    have hk1 := kept_crash smallGood hgd hc [] hk
    refine plain_ok (N := 3000) (call_does (fun u G => ∃ dv A c A2 c2, u = .tuple #[dv, jrV (upJ j), .slice A snap.length c, .slice A2 l.length c2, .bool true] ∧ ByG G (.slice A snap.length c) snap ∧ SafG G (.slice A2 l.length c2) (l.map (·.2)) ∧ DevG G dv (backX d [] j)) rfl rfl (by kernel_rfl) rfl (by simp only [dOk_some, dOk_none, Nat.reduceLT]) (fun G hG => ret_mono (opened_does (keep := []) smallGood hgd hk1 (hk1.stops _) (by omega) (by omega) hG.wf (tidL hG (by simp) (by simp; decide)) (hd.mono (hG.le G5 (by simp))) (bools_none G)) fun u G' _ h => by obtain ⟨dv, A, c, A2, c2, e, h1, h2, h3⟩ := h; exact ⟨dv, A, c, A2, c2, e, h2, h3, h1⟩)) (QOk_body _ _ _) (by first | exact .inl rfl | exact .inr ⟨_, _, rfl, rfl⟩) ?_
    rintro _ ⟨_, G6, ⟨dv, Ao, co, Aa, ca, rfl, hgot, hal, hd6⟩, hn6, rfl⟩
    clear hn6
    obtain ⟨E1, m1, E2, m2, E3, m3, rfl, hfo⟩ := hd6.form
    clear hfo
    have r1 : decide (((l.length : Nat) : Int) < 1) = false := decide_eq_false (by omega)
    have r2 : decide (j.next = (v : Int) + 1) = true := decide_eq_true (by omega)
    simp only [go_sem, Nat.reduceAdd, Nat.reduceSub, Nat.reduceMul, Nat.reduceEqDiff, Nat.reduceLT, Nat.reduceLeDiff, Nat.reduceBEq, Nat.reduceBNe, Int.reduceLT, Int.reduceLE, Int.reduceEq, Int.reduceAdd, Int.reduceSub, Int.reduceNeg, reduceCtorEq, jrV, upJ, r1, r2]
    intro g6 g7
    repeat (refine And.intro (by omega) ?_)
    by_cases hss : 0 < saves
    · have q2 : decide (0 < (saves : Int)) = true := decide_eq_true (by omega)
      obtain rfl := hsn hss
      have hX : ((byteOf (base : Int)).toNat : Int) = (base : Int) := byte_nat (by omega)
      simp only [go_sem, Nat.reduceAdd, Nat.reduceSub, Nat.reduceMul, Nat.reduceEqDiff, Nat.reduceLT, Nat.reduceLeDiff, Nat.reduceBEq, Nat.reduceBNe, Int.reduceLT, Int.reduceLE, Int.reduceEq, Int.reduceAdd, Int.reduceSub, Int.reduceNeg, reduceCtorEq, q2]
      refine plain_ok (N := 3000) (elem_does (R := ByteG) (l := [byteOf (base : Int)]) (m := 0) rfl tySlice23 tySize5 rfl rfl (by simp only [dOk_some, dOk_none, Nat.reduceLT]) rfl (y := byteOf (base : Int)) rfl (fun G hG => (hgot.mono (hG.le G6 (by simp))).sq)) (QOk_body _ _ _) (by first | exact .inl rfl | exact .inr ⟨_, _, rfl, rfl⟩) ?_
      rintro _ ⟨gw, ow, cs, G7, _, rfl, rfl⟩
      simp only [go_sem, Nat.reduceAdd, Nat.reduceSub, Nat.reduceMul, Nat.reduceEqDiff, Nat.reduceLT, Nat.reduceLeDiff, Nat.reduceBEq, Nat.reduceBNe, Int.reduceLT, Int.reduceLE, Int.reduceEq, Int.reduceAdd, Int.reduceSub, Int.reduceNeg, reduceCtorEq, enc8]
      refine ⟨by omega, ?_⟩
      have s4 : decide (((byteOf (base : Int)).toNat : Int) + (l.length : Int) = (v : Int)) = true := decide_eq_true (by omega)
      refine loop_ok (N := 3000) (ι := Nat × GW)
        (fun i => match i with | (i, G) => ⟨[(9, .c (.v (.int .i64 (v : Int)))), (19, .c (.v (.slice Aa l.length ca))), (21, .c (.v (.int .i64 ((byteOf (base : Int)).toNat : Int)))), (125, .c (.v (.slice Aa l.length ca))), (126, .c (.v (.int .i64 (l.length : Int)))), (127, .c (.v (.int .i64 (i : Int))))], [], [], [], [G], 6⟩)
        (fun i => match i with | (i, G) => i ≤ l.length ∧ SafG G (.slice Aa l.length ca) (l.map (·.2))) (fun i => l.length - i.1) (QOk_body _ _ _) (0, G6) ⟨by omega, hal⟩ (by simp only [go_sem, Nat.reduceAdd, Nat.reduceSub, Nat.reduceMul, Nat.reduceEqDiff, Nat.reduceLT, Nat.reduceLeDiff, Nat.reduceBEq, Nat.reduceBNe, Int.reduceLT, Int.reduceLE, Int.reduceEq, Int.reduceAdd, Int.reduceSub, Int.reduceNeg, reduceCtorEq]; simp) ?_
      rintro ⟨i, G8⟩ ⟨hi, hal8⟩
      simp only
      by_cases hil : i < l.length
      · have s1 : decide ((i : Int) < (l.length : Int)) = true := decide_eq_true (by omega)
        have hbi : ((byteOf ((base + i : Nat) : Int)).toNat : Int) = ((base + i : Nat) : Int) := byte_nat (by omega)
        have s2 : decide (((byteOf ((base + i : Nat) : Int)).toNat : Int) = ((byteOf (base : Int)).toNat : Int) + (i : Int)) = true := decide_eq_true (by omega)
        have hy := hget i hil
        simp only [go_sem, Nat.reduceAdd, Nat.reduceSub, Nat.reduceMul, Nat.reduceEqDiff, Nat.reduceLT, Nat.reduceLeDiff, Nat.reduceBEq, Nat.reduceBNe, Int.reduceLT, Int.reduceLE, Int.reduceEq, Int.reduceAdd, Int.reduceSub, Int.reduceNeg, reduceCtorEq, s1]
        refine plain_ok (N := 3000) (elem_does (R := RowG) (l := l.map (fun x : Int × List UInt8 => x.2)) (m := i) rfl tySlice29 tySize23 rfl rfl (by simp only [dOk_some, dOk_none, Nat.reduceLT]) rfl hy (fun G hG => Sq.mono hal8 rowG_mono (hG.le G8 (by simp)))) (QOk_body _ _ _) (by first | exact .inl rfl | exact .inr ⟨_, _, rfl, rfl⟩) ?_
        rintro _ ⟨gr, orr, cs, G9, _, hcr, rfl⟩
        obtain ⟨Ay, cy, rfl, hby⟩ := rowcell hcr
        simp only [go_sem, Nat.reduceAdd, Nat.reduceSub, Nat.reduceMul, Nat.reduceEqDiff, Nat.reduceLT, Nat.reduceLeDiff, Nat.reduceBEq, Nat.reduceBNe, Int.reduceLT, Int.reduceLE, Int.reduceEq, Int.reduceAdd, Int.reduceSub, Int.reduceNeg, reduceCtorEq]
        refine plain_ok (N := 3000) (elem_does (R := ByteG) (l := byteOf ((base + i : Nat) : Int) :: b) (m := 0) rfl tySlice23 tySize5 rfl rfl (by simp only [dOk_some, dOk_none, Nat.reduceLT]) rfl (y := byteOf ((base + i : Nat) : Int)) rfl (fun G hG => (hby.mono (hG.le G9 (by simp))).sq)) (QOk_body _ _ _) (by first | exact .inl rfl | exact .inr ⟨_, _, rfl, rfl⟩) ?_
        rintro _ ⟨gz, oz, cs, G10, _, rfl, rfl⟩
        simp only [go_sem, Nat.reduceAdd, Nat.reduceSub, Nat.reduceMul, Nat.reduceEqDiff, Nat.reduceLT, Nat.reduceLeDiff, Nat.reduceBEq, Nat.reduceBNe, Int.reduceLT, Int.reduceLE, Int.reduceEq, Int.reduceAdd, Int.reduceSub, Int.reduceNeg, reduceCtorEq, enc8, s2]
        repeat (refine And.intro (by omega) ?_)
        exact again_ok (i + 1, G8) ⟨by omega, hal8⟩ (by simp only; omega) (by simp only [go_sem, Nat.reduceAdd, Nat.reduceSub, Nat.reduceMul, Nat.reduceEqDiff, Nat.reduceLT, Nat.reduceLeDiff, Nat.reduceBEq, Nat.reduceBNe, Int.reduceLT, Int.reduceLE, Int.reduceEq, Int.reduceAdd, Int.reduceSub, Int.reduceNeg, reduceCtorEq]; simp)
      · have s1 : decide ((i : Int) < (l.length : Int)) = false := decide_eq_false (by omega)
        obtain rfl : i = l.length := by omega
        simp only [go_sem, Nat.reduceAdd, Nat.reduceSub, Nat.reduceMul, Nat.reduceEqDiff, Nat.reduceLT, Nat.reduceLeDiff, Nat.reduceBEq, Nat.reduceBNe, Int.reduceLT, Int.reduceLE, Int.reduceEq, Int.reduceAdd, Int.reduceSub, Int.reduceNeg, reduceCtorEq, s1, s4]
        repeat (refine And.intro (by omega) ?_)
        refine fin_ret (G := ⟨Non, w⟩) Try.results23 ?_
        simp only [go_sem, Nat.reduceAdd, Nat.reduceSub, Nat.reduceMul, Nat.reduceEqDiff, Nat.reduceLT, Nat.reduceLeDiff, Nat.reduceBEq, Nat.reduceBNe, Int.reduceLT, Int.reduceLE, Int.reduceEq, Int.reduceAdd, Int.reduceSub, Int.reduceNeg, reduceCtorEq]
        intro aa w' _ _
        rfl
    · have q2 : decide (0 < (saves : Int)) = false := decide_eq_false (by omega)
      have hX : (0 : Int) = (base : Int) := by have := hsb (by omega); omega
      simp only [go_sem, Nat.reduceAdd, Nat.reduceSub, Nat.reduceMul, Nat.reduceEqDiff, Nat.reduceLT, Nat.reduceLeDiff, Nat.reduceBEq, Nat.reduceBNe, Int.reduceLT, Int.reduceLE, Int.reduceEq, Int.reduceAdd, Int.reduceSub, Int.reduceNeg, reduceCtorEq, q2]
      have s4 : decide (0 + (l.length : Int) = (v : Int)) = true := decide_eq_true (by omega)
      refine loop_ok (N := 3000) (ι := Nat × GW)
        (fun i => match i with | (i, G) => ⟨[(9, .c (.v (.int .i64 (v : Int)))), (19, .c (.v (.slice Aa l.length ca))), (21, .c (.v (.int .i64 0))), (125, .c (.v (.slice Aa l.length ca))), (126, .c (.v (.int .i64 (l.length : Int)))), (127, .c (.v (.int .i64 (i : Int))))], [], [], [], [G], 5⟩)
        (fun i => match i with | (i, G) => i ≤ l.length ∧ SafG G (.slice Aa l.length ca) (l.map (·.2))) (fun i => l.length - i.1) (QOk_body _ _ _) (0, G6) ⟨by omega, hal⟩ (by simp only [go_sem, Nat.reduceAdd, Nat.reduceSub, Nat.reduceMul, Nat.reduceEqDiff, Nat.reduceLT, Nat.reduceLeDiff, Nat.reduceBEq, Nat.reduceBNe, Int.reduceLT, Int.reduceLE, Int.reduceEq, Int.reduceAdd, Int.reduceSub, Int.reduceNeg, reduceCtorEq]; simp) ?_
      rintro ⟨i, G8⟩ ⟨hi, hal8⟩
      simp only
      by_cases hil : i < l.length
      · have s1 : decide ((i : Int) < (l.length : Int)) = true := decide_eq_true (by omega)
        have hbi : ((byteOf ((base + i : Nat) : Int)).toNat : Int) = ((base + i : Nat) : Int) := byte_nat (by omega)
        have s2 : decide (((byteOf ((base + i : Nat) : Int)).toNat : Int) = 0 + (i : Int)) = true := decide_eq_true (by omega)
        have hy := hget i hil
        simp only [go_sem, Nat.reduceAdd, Nat.reduceSub, Nat.reduceMul, Nat.reduceEqDiff, Nat.reduceLT, Nat.reduceLeDiff, Nat.reduceBEq, Nat.reduceBNe, Int.reduceLT, Int.reduceLE, Int.reduceEq, Int.reduceAdd, Int.reduceSub, Int.reduceNeg, reduceCtorEq, s1]
        refine plain_ok (N := 3000) (elem_does (R := RowG) (l := l.map (fun x : Int × List UInt8 => x.2)) (m := i) rfl tySlice29 tySize23 rfl rfl (by simp only [dOk_some, dOk_none, Nat.reduceLT]) rfl hy (fun G hG => Sq.mono hal8 rowG_mono (hG.le G8 (by simp)))) (QOk_body _ _ _) (by first | exact .inl rfl | exact .inr ⟨_, _, rfl, rfl⟩) ?_
        rintro _ ⟨gr, orr, cs, G9, _, hcr, rfl⟩
        obtain ⟨Ay, cy, rfl, hby⟩ := rowcell hcr
        simp only [go_sem, Nat.reduceAdd, Nat.reduceSub, Nat.reduceMul, Nat.reduceEqDiff, Nat.reduceLT, Nat.reduceLeDiff, Nat.reduceBEq, Nat.reduceBNe, Int.reduceLT, Int.reduceLE, Int.reduceEq, Int.reduceAdd, Int.reduceSub, Int.reduceNeg, reduceCtorEq]
        refine plain_ok (N := 3000) (elem_does (R := ByteG) (l := byteOf ((base + i : Nat) : Int) :: b) (m := 0) rfl tySlice23 tySize5 rfl rfl (by simp only [dOk_some, dOk_none, Nat.reduceLT]) rfl (y := byteOf ((base + i : Nat) : Int)) rfl (fun G hG => (hby.mono (hG.le G9 (by simp))).sq)) (QOk_body _ _ _) (by first | exact .inl rfl | exact .inr ⟨_, _, rfl, rfl⟩) ?_
        rintro _ ⟨gz, oz, cs, G10, _, rfl, rfl⟩
        simp only [go_sem, Nat.reduceAdd, Nat.reduceSub, Nat.reduceMul, Nat.reduceEqDiff, Nat.reduceLT, Nat.reduceLeDiff, Nat.reduceBEq, Nat.reduceBNe, Int.reduceLT, Int.reduceLE, Int.reduceEq, Int.reduceAdd, Int.reduceSub, Int.reduceNeg, reduceCtorEq, enc8, s2]
        repeat (refine And.intro (by omega) ?_)
        exact again_ok (i + 1, G8) ⟨by omega, hal8⟩ (by simp only; omega) (by simp only [go_sem, Nat.reduceAdd, Nat.reduceSub, Nat.reduceMul, Nat.reduceEqDiff, Nat.reduceLT, Nat.reduceLeDiff, Nat.reduceBEq, Nat.reduceBNe, Int.reduceLT, Int.reduceLE, Int.reduceEq, Int.reduceAdd, Int.reduceSub, Int.reduceNeg, reduceCtorEq]; simp)
      · have s1 : decide ((i : Int) < (l.length : Int)) = false := decide_eq_false (by omega)
        obtain rfl : i = l.length := by omega
        simp only [go_sem, Nat.reduceAdd, Nat.reduceSub, Nat.reduceMul, Nat.reduceEqDiff, Nat.reduceLT, Nat.reduceLeDiff, Nat.reduceBEq, Nat.reduceBNe, Int.reduceLT, Int.reduceLE, Int.reduceEq, Int.reduceAdd, Int.reduceSub, Int.reduceNeg, reduceCtorEq, s1, s4]
        repeat (refine And.intro (by omega) ?_)
        refine fin_ret (G := ⟨Non, w⟩) Try.results23 ?_
        simp only [go_sem, Nat.reduceAdd, Nat.reduceSub, Nat.reduceMul, Nat.reduceEqDiff, Nat.reduceLT, Nat.reduceLeDiff, Nat.reduceBEq, Nat.reduceBNe, Int.reduceLT, Int.reduceLE, Int.reduceEq, Int.reduceAdd, Int.reduceSub, Int.reduceNeg, reduceCtorEq]
        intro aa w' _ _
        rfl
theorem ringRound_walk {w : World} (a0 : Int) (w0 : (Lit.int .i64 a0).wf = true) (s : ByteArray) (hs : s.size ≤ maxLen) :
    Calls Try.prog 23 #[.int .i64 a0, .string s] w fun e w' => e = .returned (.bool true) ∧ Below w.heap.size w w' :=
  (ringRound_ret a0 w0 s hs).mono fun e w' ⟨v, he, hv, hc⟩ => ⟨by rw [he, hv], hc.below⟩
end Go.Proofs.Ytomfladifefomaa
