/- ring.Commit. Conditions: as each law states them. -/
import Derived.Test.YtomfladifefomaaN6
namespace Go.Proofs.Ytomfladifefomaa
open Go.RowKit
set_option linter.unusedSimpArgs false
section
variable {P : Program} {E : Env} {σ : St} {o : Oper}
/-- a cut, taken first, of whatever slice -/
theorem take_cutA {rec_ : Cmd → St → Prop} {dr : Dr} {q : Nat} {p : Plan} {t e k : Nat} {A A' : Option Addr} {x : Operand} {lo hi mx : Option Operand} {n c : Nat} (l n' c' : Nat) (hA : (if l + c' = l then A else A.map (·.add (l * k))) = A') (ho : o.op = .slice t x lo hi mx) (ht : tSlice P t = some e) (hk : tSize P e = some k)
    (hx : ev σ x = some (.c (.v (.slice A n c)))) (hlo : cutArg σ lo 0 l) (hhi : cutArg σ hi n (l + n')) (hmx : cutArg σ mx c (l + c')) (hmh : mx.isSome = true → hi.isSome = true) (hd : dOk E o.dst) (h2 : n' ≤ c') (h3 : l + c' ≤ c)
    (h : rec_ (dr.next q p) (σ.put o.dst (.c (.v (.slice A' n' c'))))) : TakeStop P E rec_ dr q p o σ := by
  subst hA
  refine ⟨.c (.v (.slice (if l + c' = l then A else A.map (·.add (l * k))) n' c')), hd, fun a w hr => ?_, h⟩
  obtain ⟨inf, hinf, hsz⟩ := tSize_spec hk
  have hx' : a.eval x = .slice A n c := ev_den hr hx
  have arg : ∀ (y : Option Operand) (d r : Nat), cutArg σ y d r → (y.map a.eval = none ∧ r = d) ∨ ∃ kk, y.map a.eval = some (.int kk (r : Int)) := by
    intro y d r h
    cases y with
    | none => exact .inl ⟨rfl, h⟩
    | some y =>
      obtain ⟨kk, j, hy, rfl⟩ := h
      exact .inr ⟨kk, congrArg some (ev_den hr hy)⟩
  have := run_cut (tSlice_spec ht) hinf w A n c l n' c' _ _ _ (run_bounds w n c l (l + n') (l + c') _ _ _ (arg lo 0 l hlo) (arg hi n (l + n') hhi) (arg mx c (l + c') hmx) (by simpa using hmh) (by omega) (by omega) h3)
  rw [hsz] at this
  show (execOp a.eval o).run P w = .ok (.value (.slice (if l + c' = l then A else A.map (·.add (l * k))) n' c')) w
  unfold execOp
  simp only [ho, hx', Sem.run_bind, this, Result.andThen_ok, Sem.run_pure]
end
theorem byG_cutA {G : GW} {A : Option Addr} {n c : Nat} {b : List UInt8} (h : ByG G (.slice A n c) b) (l n' c' : Nat) (h1 : l + n' ≤ n) (h2 : n' ≤ c') (h3 : l + c' ≤ c) : ∃ A', (if l + c' = l then A else A.map (·.add (l * 1))) = A' ∧ ByG G (.slice A' n' c') ((b.drop l).take n') := by
  have hn : b.length = n := by obtain ⟨_, _, e, _⟩ := h.form; cases e; rfl
  have hS : Sl G 5 1 n (.slice A n c) (b.map enc8) := by rw [← hn]; rw [← hn] at h; exact h
  exact ⟨_, rfl, byG_cut (hS.cut h1 h2 h3) (by omega)⟩
theorem okJ_place {g : Geo} (hg : GoodGeo g) {j : Jr} (hj : okJ g j = true) : 0 ≤ j.place ∧ j.place < g.ring := by
  have h := of_decide_eq_true hj
  have := hg.r1
  have e : j.place = HMod.hMod (j.start + j.used) g.ring := h.2.2.2.2.2.2.2.2.2.2.2.2.2.2.2.2.2
  rw [e]
  exact ⟨Int.emod_nonneg _ (by omega), Int.emod_lt_of_pos _ (by omega)⟩
def commitTo (g : Geo) (d : Dev) (j : Jr) (b : List UInt8) : Nat → Dev × Int
  | 0 => (d, 0)
  | i + 1 => hPut (commitTo g d j b i) (2 + HMod.hMod (j.place + (i : Int)) g.ring) (frB (frAt j.epoch j.next b i))
theorem commitTo_good {g : Geo} {d : Dev} (hd : GoodDev g d) (j : Jr) (b : List UInt8) : ∀ i, GoodDev g (commitTo g d j b i).1
  | 0 => hd
  | i + 1 => hPut_good (commitTo_good hd j b i) _ _
def moreJ (g : Geo) (j : Jr) (b : List UInt8) : Jr := { j with place := HMod.hMod (j.place + (cnt b : Int)) g.ring, used := j.used + (cnt b : Int), next := j.next + 1 }
def fullJ (g : Geo) (j : Jr) (b : List UInt8) : Prop := g.ring < j.used + (cnt b : Int) ∨ j.next = 1048576
theorem part_len (b : List UInt8) {i : Nat} (hi : i < cnt b) : 52 * i + (part b i).length = min ((i + 1) * 52) b.length ∧ 52 * i ≤ b.length ∧ (part b i).length ≤ 52 := by
  unfold cnt at hi
  simp only [part, List.length_take, List.length_drop]
  omega
set_option maxRecDepth 100000 in
set_option maxHeartbeats 16000000 in
theorem commit_any {g : Geo} (hg : GoodGeo g) {d : Dev} (hd : GoodDev g d) {j : Jr} (hj : okJ g j = true) {b : List UInt8} (hbl : b.length ≤ 5000) {dv bv : Value} {G0 : GW} (hW : G0.Wf) (hT : Tid bX G0) (h : DevG G0 dv d) (hb : ByG G0 bv b) :
    Calls Try.prog 50 #[geoV g, dv, jrV j, bv] G0.w (Ret G0 fun v G => (fullJ g j b ∧ v = .tuple #[zeroDev, jrV zeroJr, .int .i64 8]) ∨ (¬ fullJ g j b ∧ HandE g (hFlush (commitTo g d j b (cnt b))) (moreJ g j b) v G)) := by
  have hjj := of_decide_eq_true hj
  have := hg.r1; have := hg.r2; have := hg.a2
  obtain ⟨hpl0, hpl1⟩ := okJ_place hg hj
  have hmod : ∀ x : Int, 0 ≤ HMod.hMod x g.ring ∧ HMod.hMod x g.ring < g.ring := fun x => ⟨Int.emod_nonneg x (by omega), Int.emod_lt_of_pos x (by omega)⟩
  obtain ⟨A1, k1, A2, k2, A3, k3, rfl, hfo⟩ := h.form
  clear hfo
  obtain ⟨Ab, cb, rfl, hb1, hb2⟩ := hb.form
  have hml := max_le
  obtain ⟨k, hk⟩ : ∃ k, k = cnt b := ⟨_, rfl⟩
  have hkv : max 1 (((b.length : Int) + 52 - 1).tdiv 52) = (k : Int) := by rw [Int.tdiv_eq_ediv_of_nonneg (by omega), hk]; unfold cnt; omega
  have hk1 : 1 ≤ k := by rw [hk]; exact cnt_pos b
  have hk2 : k ≤ 100 := by rw [hk]; unfold cnt; omega
  refine enter (G := G0) (n := 119) 3000 hW Try.func50 rfl Try.ntmps50 (by simp) ?_
  simp only [go_sem, Nat.reduceAdd, Nat.reduceSub, Nat.reduceMul, Nat.reduceEqDiff, Nat.reduceLT, Nat.reduceLeDiff, Nat.reduceBEq, Nat.reduceBNe, Int.reduceLT, Int.reduceLE, Int.reduceEq, Int.reduceAdd, Int.reduceSub, Int.reduceNeg, reduceCtorEq, geoV, jrV]
  intro g1 g2 g3 g4 g5
  refine plain_ok (N := 3000) (call_does (fun v G => v = .int .i64 0) rfl rfl (by kernel_rfl) rfl (by simp only [dOk_some, dOk_none, Nat.reduceLT]) (fun G hG => chk hg hd (h.mono (hG.le G0 (by simp))))) (QOk_body _ _ _) (by first | exact .inl rfl | exact .inr ⟨_, _, rfl, rfl⟩) ?_
  rintro _ ⟨_, G1, rfl, hn1, rfl⟩
  clear hn1
  simp only [go_sem, Nat.reduceAdd, Nat.reduceSub, Nat.reduceMul, Nat.reduceEqDiff, Nat.reduceLT, Nat.reduceLeDiff, Nat.reduceBEq, Nat.reduceBNe, Int.reduceLT, Int.reduceLE, Int.reduceEq, Int.reduceAdd, Int.reduceSub, Int.reduceNeg, reduceCtorEq]
  refine plain_ok (N := 3000) (call_does (fun v G => v = .int .i64 0) rfl rfl (by kernel_rfl) rfl (by simp only [dOk_some, dOk_none, Nat.reduceLT]) (fun G hG => ret_mono (checkJ_does (j := j) hg hG.wf) fun v G' _ h => by rw [h, hj]; rfl)) (QOk_body _ _ _) (by first | exact .inl rfl | exact .inr ⟨_, _, rfl, rfl⟩) ?_
  rintro _ ⟨_, G2, rfl, hn2, rfl⟩
  have hl02 : G0.Le G2 := hn2.le G0 (by simp)
  clear hn2
  simp only [go_sem, Nat.reduceAdd, Nat.reduceSub, Nat.reduceMul, Nat.reduceEqDiff, Nat.reduceLT, Nat.reduceLeDiff, Nat.reduceBEq, Nat.reduceBNe, Int.reduceLT, Int.reduceLE, Int.reduceEq, Int.reduceAdd, Int.reduceSub, Int.reduceNeg, reduceCtorEq]
  refine ⟨by omega, by omega, by omega, ?_⟩
  rw [hkv]
  refine ⟨by omega, ?_⟩
  by_cases c1 : g.ring < j.used + (k : Int)
  · have q1 : decide (g.ring < j.used + (k : Int)) = true := decide_eq_true c1
    simp only [go_sem, Nat.reduceAdd, Nat.reduceSub, Nat.reduceMul, Nat.reduceEqDiff, Nat.reduceLT, Nat.reduceLeDiff, Nat.reduceBEq, Nat.reduceBNe, Int.reduceLT, Int.reduceLE, Int.reduceEq, Int.reduceAdd, Int.reduceSub, Int.reduceNeg, reduceCtorEq, q1]
    refine fin_ret (G := G0) Try.results50 ?_
    simp only [go_sem, Nat.reduceAdd, Nat.reduceSub, Nat.reduceMul, Nat.reduceEqDiff, Nat.reduceLT, Nat.reduceLeDiff, Nat.reduceBEq, Nat.reduceBNe, Int.reduceLT, Int.reduceLE, Int.reduceEq, Int.reduceAdd, Int.reduceSub, Int.reduceNeg, reduceCtorEq]
    intro aa w' _ _
    exact .inl ⟨.inl (by rw [← hk]; exact c1), rfl⟩
  have q1 : decide (g.ring < j.used + (k : Int)) = false := decide_eq_false c1
  by_cases c2 : j.next = 1048576
  · have q2 : decide (j.next = 1048576) = true := decide_eq_true c2
    simp only [go_sem, Nat.reduceAdd, Nat.reduceSub, Nat.reduceMul, Nat.reduceEqDiff, Nat.reduceLT, Nat.reduceLeDiff, Nat.reduceBEq, Nat.reduceBNe, Int.reduceLT, Int.reduceLE, Int.reduceEq, Int.reduceAdd, Int.reduceSub, Int.reduceNeg, reduceCtorEq, q1, q2]
    refine fin_ret (G := G0) Try.results50 ?_
    simp only [go_sem, Nat.reduceAdd, Nat.reduceSub, Nat.reduceMul, Nat.reduceEqDiff, Nat.reduceLT, Nat.reduceLeDiff, Nat.reduceBEq, Nat.reduceBNe, Int.reduceLT, Int.reduceLE, Int.reduceEq, Int.reduceAdd, Int.reduceSub, Int.reduceNeg, reduceCtorEq]
    intro aa w' _ _
    exact .inl ⟨.inr c2, rfl⟩
  have q2 : decide (j.next = 1048576) = false := decide_eq_false c2
  have hnf : ¬ fullJ g j b := by
    rintro (q | q)
    · rw [← hk] at q; exact c1 q
    · exact c2 q
  simp only [go_sem, Nat.reduceAdd, Nat.reduceSub, Nat.reduceMul, Nat.reduceEqDiff, Nat.reduceLT, Nat.reduceLeDiff, Nat.reduceBEq, Nat.reduceBNe, Int.reduceLT, Int.reduceLE, Int.reduceEq, Int.reduceAdd, Int.reduceSub, Int.reduceNeg, reduceCtorEq, q1, q2]
  intro g6
  refine loop_ok (N := 3000) (ι := Nat × (Dev × Int) × (Option Addr × Nat) × (Option Addr × Nat) × (Option Addr × Nat) × GW)
    (fun i => match i with | (v, x, (B1, m1), (B2, m2), (B3, m3), G) => ⟨[(3, .c (.v (.slice Ab b.length cb))), (4, .c (.p 0 g1 0)), (6, .c (.p 2 g3 0)), (8, .c (.p 3 g4 0)), (9, .c (.p 4 g5 0)), (13, .c (.v (.int .i64 (k : Int)))), (14, .c (.p 5 g6 0)), (57, .c (.v (.int .i64 (k : Int)))), (58, .c (.v (.int .i64 (v : Int))))],
      [⟨5, g6, handT, [.v (.int .i64 g.ring), .v (.int .i64 g.area), .v (.int .i64 g.hot), .v (.int .i64 g.volume), .v (.int .i64 g.volumes), .v (.slice B1 x.1.safe.length m1), .v (.slice B2 x.1.cache.length m2), .v (.slice B3 x.1.vols.length m3), .v (.int .i64 x.1.fuel), .v (.int .i64 x.2)]⟩, ⟨4, g5, 81, [.v (.int .i64 0), .v (.int .i64 0), .v (.int .i64 0), .v (.int .i64 0), .v (.int .i64 0), .v (.int .i64 0), .v (.int .i64 0), .v (.int .i64 0), .v (.int .i64 0)]⟩, ⟨3, g4, 37, [.v (.slice none 0 0), .v (.slice none 0 0), .v (.slice none 0 0), .v (.int .i64 0)]⟩, ⟨2, g3, 81, [.v (.int .i64 j.gen), .v (.int .i64 j.epoch), .v (.int .i64 j.area), .v (.int .i64 j.length), .v (.int .i64 j.start), .v (.int .i64 j.first), .v (.int .i64 j.place), .v (.int .i64 j.next), .v (.int .i64 j.used)]⟩, ⟨0, g1, 32, [.v (.int .i64 g.ring), .v (.int .i64 g.area), .v (.int .i64 g.hot), .v (.int .i64 g.volume), .v (.int .i64 g.volumes)]⟩], [], [], [G, G0], 6⟩)
    (fun i => match i with | (v, x, (B1, m1), (B2, m2), (B3, m3), G) => v ≤ k ∧ x = commitTo g d j b v ∧ HandG g x [.v (.int .i64 g.ring), .v (.int .i64 g.area), .v (.int .i64 g.hot), .v (.int .i64 g.volume), .v (.int .i64 g.volumes), .v (.slice B1 x.1.safe.length m1), .v (.slice B2 x.1.cache.length m2), .v (.slice B3 x.1.vols.length m3), .v (.int .i64 x.1.fuel), .v (.int .i64 x.2)] G) (fun i => k - i.1) (QOk_body _ _ _) (0, (d, 0), (A1, k1), (A2, k2), (A3, k3), G2) ⟨by omega, rfl, A1, k1, A2, k2, A3, k3, rfl, h.mono hl02⟩ (by simp only [go_sem, Nat.reduceAdd, Nat.reduceSub, Nat.reduceMul, Nat.reduceEqDiff, Nat.reduceLT, Nat.reduceLeDiff, Nat.reduceBEq, Nat.reduceBNe, Int.reduceLT, Int.reduceLE, Int.reduceEq, Int.reduceAdd, Int.reduceSub, Int.reduceNeg, reduceCtorEq]; simp) ?_
  rintro ⟨v, x, ⟨B1, m1⟩, ⟨B2, m2⟩, ⟨B3, m3⟩, G3⟩ ⟨hv, hx, hh⟩
  simp only
  by_cases hlt : v < k
  · have p1 : decide ((v : Int) < (k : Int)) = true := decide_eq_true (by omega)
    have hgx : GoodDev g x.1 := by rw [hx]; exact commitTo_good hd j b v
    obtain ⟨y1, y2, y3⟩ := part_len b (show v < cnt b by omega)
    obtain ⟨Ac, hAc, hbp⟩ := byG_cutA hb (52 * v) (part b v).length (cb - 52 * v) (by omega) (by omega) (by omega)
    have hpp : (b.drop (52 * v)).take (part b v).length = part b v := by
      show (b.drop (52 * v)).take ((b.drop (52 * v)).take 52).length = (b.drop (52 * v)).take 52
      rw [List.length_take, List.take_eq_take_iff]
      omega
    rw [hpp] at hbp
    obtain ⟨la, hla⟩ : ∃ la, la = decide (v + 1 = cnt b) := ⟨_, rfl⟩
    have el : decide ((v : Int) = (k : Int) - 1) = la := by
      rw [hla, ← hk, Bool.eq_iff_iff]
      simp only [decide_eq_true_eq]
      omega
    have hfr : frAt j.epoch j.next b v = ⟨j.epoch, j.next, (v : Int), la, part b v⟩ := by rw [hla]; rfl
    clear hla
    simp only [go_sem, Nat.reduceAdd, Nat.reduceSub, Nat.reduceMul, Nat.reduceEqDiff, Nat.reduceLT, Nat.reduceLeDiff, Nat.reduceBEq, Nat.reduceBNe, Int.reduceLT, Int.reduceLE, Int.reduceEq, Int.reduceAdd, Int.reduceSub, Int.reduceNeg, reduceCtorEq, p1]
    refine draw_ok (N := 3000) (.take 0 (.take 1 (.take 2 (.take 3 (.take 4 (.take 5 (.take 6 (.take 7 (.take 8 (.take 9 (.take 10 (.take 11 (.take 12 (.take 13 (.take 14 (.take 15 (.take 16 (.take 17 (.take 18 (.take 19 (.alt 20 (.alt 21 .done .last) .last))))))))))))))))))))) [] (QOk_body _ _ _) follows_mixed (by kernel_rfl) (by kernel_rfl) ?_
    simp only [go_sem, Nat.reduceAdd, Nat.reduceSub, Nat.reduceMul, Nat.reduceEqDiff, Nat.reduceLT, Nat.reduceLeDiff, Nat.reduceBEq, Nat.reduceBNe, Int.reduceLT, Int.reduceLE, Int.reduceEq, Int.reduceAdd, Int.reduceSub, Int.reduceNeg, reduceCtorEq, el]
    refine ⟨by omega, by omega, by omega, by omega, ?_⟩
    refine take_cutA (A' := Ac) (52 * v) (part b v).length (cb - 52 * v) hAc rfl tySlice23 tySize5 rfl ⟨_, _, rfl, by omega⟩ ⟨_, _, rfl, by omega⟩ (show 52 * v + (cb - 52 * v) = cb from by omega) (by simp) (by simp only [dOk_some, dOk_none, Nat.reduceLT]) (by omega) (by omega) ?_
    simp only [go_sem, Nat.reduceAdd, Nat.reduceSub, Nat.reduceMul, Nat.reduceEqDiff, Nat.reduceLT, Nat.reduceLeDiff, Nat.reduceBEq, Nat.reduceBNe, Int.reduceLT, Int.reduceLE, Int.reduceEq, Int.reduceAdd, Int.reduceSub, Int.reduceNeg, reduceCtorEq]
    intro g7
    refine draw_ok (N := 3000) (.take 0 (.take 1 (.take 2 (.take 3 (.take 4 (.take 5 (.take 6 (.take 7 (.take 8 (.take 9 (.alt 10 (.alt 11 .done .last) .last))))))))))) [5] (QOk_body _ _ _) follows_mixed (by kernel_rfl) (by kernel_rfl) ?_
    simp only [go_sem, Nat.reduceAdd, Nat.reduceSub, Nat.reduceMul, Nat.reduceEqDiff, Nat.reduceLT, Nat.reduceLeDiff, Nat.reduceBEq, Nat.reduceBNe, Int.reduceLT, Int.reduceLE, Int.reduceEq, Int.reduceAdd, Int.reduceSub, Int.reduceNeg, reduceCtorEq]
    obtain ⟨hm0, hm1⟩ := hmod (j.place + (v : Int))
    refine ⟨by omega, by omega, by omega, ?_⟩
    refine anyc_ok (N := 3000) (call_does (fun u G => ∃ A c, u = .slice A (12 + (part b v).length) c ∧ ByG G (.slice A (12 + (part b v).length) c) (frB ⟨j.epoch, j.next, (v : Int), la, part b v⟩)) rfl rfl (by kernel_rfl) rfl (by simp only [dOk_some, dOk_none, Nat.reduceLT]) (fun G hG => bytes_fr_does (f := ⟨j.epoch, j.next, (v : Int), la, part b v⟩) (A := Ac) (c := cb - 52 * v) y3 hG.wf (hbp.mono (hG.le G0 (by simp))))) (QOk_body _ _ _) rfl (by first | exact .inl rfl | exact .inr ⟨_, _, rfl, rfl⟩) ?_
    rintro _ ⟨_, G5, ⟨Af, cf, rfl, hbf⟩, hn5, rfl⟩
    have hl35 : G3.Le G5 := hn5.le G3 (by simp)
    clear hn5
    simp only [go_sem, Nat.reduceAdd, Nat.reduceSub, Nat.reduceMul, Nat.reduceEqDiff, Nat.reduceLT, Nat.reduceLeDiff, Nat.reduceBEq, Nat.reduceBNe, Int.reduceLT, Int.reduceLE, Int.reduceEq, Int.reduceAdd, Int.reduceSub, Int.reduceNeg, reduceCtorEq]
    refine anyP_ok (N := 3000) (callP_does 5 g6 handT 10 (fun _ cs G => HandG g (hPut x (2 + HMod.hMod (j.place + (v : Int)) g.ring) (frB ⟨j.epoch, j.next, (v : Int), la, part b v⟩)) cs G) rfl rfl (by kernel_rfl) rfl (by simp only [dOk_some, dOk_none, Nat.reduceLT]) rfl rfl rfl rfl (fun G hG => hput_does (x := x) hg hgx hG.wf (tidB hG (fun _ h => h) hT hW rfl rfl (by simp) (by simp; decide)) (now_mine (id := 5) hG rfl) (now_blk (id := 5) hG rfl) (hh.mono (hG.le G3 (by simp))) (hbf.mono (hG.le G5 (by simp))))) (QOk_body _ _ _) rfl (by first | exact .inl rfl | exact .inr ⟨_, _, rfl, rfl⟩) (by simp) ?_
    rintro _ ⟨v1, cs1, G6, _, ⟨C1, n1, C2, n2, C3, n3, rfl, hd1⟩, hle6, rfl⟩
    have hxn : commitTo g d j b (v + 1) = hPut x (2 + HMod.hMod (j.place + (v : Int)) g.ring) (frB ⟨j.epoch, j.next, (v : Int), la, part b v⟩) := by rw [hx, ← hfr]; rfl
    rw [← hxn] at hd1 ⊢
    simp only [go_sem, Nat.reduceAdd, Nat.reduceSub, Nat.reduceMul, Nat.reduceEqDiff, Nat.reduceLT, Nat.reduceLeDiff, Nat.reduceBEq, Nat.reduceBNe, Int.reduceLT, Int.reduceLE, Int.reduceEq, Int.reduceAdd, Int.reduceSub, Int.reduceNeg, reduceCtorEq]
    exact ⟨by omega, again_ok (v + 1, commitTo g d j b (v + 1), (C1, n1), (C2, n2), (C3, n3), G6) ⟨by omega, rfl, C1, n1, C2, n2, C3, n3, rfl, hd1⟩ (by simp only; omega) (by simp only [go_sem, Nat.reduceAdd, Nat.reduceSub, Nat.reduceMul, Nat.reduceEqDiff, Nat.reduceLT, Nat.reduceLeDiff, Nat.reduceBEq, Nat.reduceBNe, Int.reduceLT, Int.reduceLE, Int.reduceEq, Int.reduceAdd, Int.reduceSub, Int.reduceNeg, reduceCtorEq]; simp)⟩
  · have p1 : decide ((v : Int) < (k : Int)) = false := decide_eq_false (by omega)
    obtain rfl : v = k := by omega
    have hgx : GoodDev g x.1 := by rw [hx]; exact commitTo_good hd j b v
    simp only [go_sem, Nat.reduceAdd, Nat.reduceSub, Nat.reduceMul, Nat.reduceEqDiff, Nat.reduceLT, Nat.reduceLeDiff, Nat.reduceBEq, Nat.reduceBNe, Int.reduceLT, Int.reduceLE, Int.reduceEq, Int.reduceAdd, Int.reduceSub, Int.reduceNeg, reduceCtorEq, p1]
    refine plain_ok (N := 3000) (callP_does 5 g6 handT 10 (fun _ cs G => HandG g (hFlush x) cs G) rfl rfl (by kernel_rfl) rfl (by simp only [dOk_some, dOk_none, Nat.reduceLT]) rfl rfl rfl rfl (fun G hG => hflush_does (x := x) hg hgx hG.wf (tidB hG (fun _ h => h) hT hW rfl rfl (by simp) (by simp; decide)) (now_mine (id := 5) hG rfl) (now_blk (id := 5) hG rfl) (hh.mono (hG.le G3 (by simp))))) (QOk_body _ _ _) (by first | exact .inl rfl | exact .inr ⟨_, _, rfl, rfl⟩) ?_
    rintro _ ⟨v3, cs3, G5, _, ⟨D1, o1, D2, o2, D3, o3, rfl, hd3⟩, hle5, rfl⟩
    have hh3 : HandG g (hFlush x) [.v (.int .i64 g.ring), .v (.int .i64 g.area), .v (.int .i64 g.hot), .v (.int .i64 g.volume), .v (.int .i64 g.volumes), .v (.slice D1 (hFlush x).1.safe.length o1), .v (.slice D2 (hFlush x).1.cache.length o2), .v (.slice D3 (hFlush x).1.vols.length o3), .v (.int .i64 (hFlush x).1.fuel), .v (.int .i64 (hFlush x).2)] G5 := ⟨D1, o1, D2, o2, D3, o3, rfl, hd3⟩
    have hmj : moreJ g j b = { j with place := HMod.hMod (j.place + (v : Int)) g.ring, used := j.used + (v : Int), next := j.next + 1 } := by unfold moreJ; rw [← hk]
    rw [hmj, ← hk, ← hx]
    obtain ⟨y, ey⟩ : ∃ y, y = hFlush x := ⟨_, rfl⟩
    rw [← ey] at hh3 ⊢
    clear ey hd3
    simp only [go_sem, Nat.reduceAdd, Nat.reduceSub, Nat.reduceMul, Nat.reduceEqDiff, Nat.reduceLT, Nat.reduceLeDiff, Nat.reduceBEq, Nat.reduceBNe, Int.reduceLT, Int.reduceLE, Int.reduceEq, Int.reduceAdd, Int.reduceSub, Int.reduceNeg, reduceCtorEq]
    refine cut_code2 (N := 3000) (ι := Unit)
      (fun _ => ⟨[(3, .c (.v (.slice Ab b.length cb))), (4, .c (.p 0 g1 0)), (6, .c (.p 2 g3 0)), (8, .c (.p 3 g4 0)), (9, .c (.p 4 g5 0)), (14, .c (.p 5 g6 0))],
        [⟨5, g6, handT, [.v (.int .i64 g.ring), .v (.int .i64 g.area), .v (.int .i64 g.hot), .v (.int .i64 g.volume), .v (.int .i64 g.volumes), .v (.slice D1 y.1.safe.length o1), .v (.slice D2 y.1.cache.length o2), .v (.slice D3 y.1.vols.length o3), .v (.int .i64 y.1.fuel), .v (.int .i64 y.2)]⟩, ⟨4, g5, 81, [.v (.int .i64 0), .v (.int .i64 0), .v (.int .i64 0), .v (.int .i64 0), .v (.int .i64 0), .v (.int .i64 0), .v (.int .i64 0), .v (.int .i64 0), .v (.int .i64 0)]⟩, ⟨3, g4, 37, [.v (.slice none 0 0), .v (.slice none 0 0), .v (.slice none 0 0), .v (.int .i64 0)]⟩, ⟨2, g3, 81, [.v (.int .i64 j.gen), .v (.int .i64 j.epoch), .v (.int .i64 j.area), .v (.int .i64 j.length), .v (.int .i64 j.start), .v (.int .i64 j.first), .v (.int .i64 (HMod.hMod (j.place + (v : Int)) g.ring)), .v (.int .i64 (j.next + 1)), .v (.int .i64 (j.used + (v : Int)))]⟩, ⟨0, g1, 32, [.v (.int .i64 g.ring), .v (.int .i64 g.area), .v (.int .i64 g.hot), .v (.int .i64 g.volume), .v (.int .i64 g.volumes)]⟩], [], [], [G5, G0], 6⟩) (fun _ => True) (QOk_body _ _ _) ?_ ?_
    rotate_left
    · intro k' J hk' hJ
      refine draw_ok (N := 3000) (.take 0 (.take 2 (.take 4 (.take 5 (.take 7 (.take 9 (.take 11 (.alt 1 (.take 3 (.take 6 (.alt 8 (.take 10 (.alt 12 (.take 13 (.take 14 (.alt 15 (.take 16 (.alt 17 (.take 18 (.alt 19 .done .last)) .last)) .last))) .last)) (.alt 12 (.take 13 (.alt 8 (.take 10 (.take 14 (.alt 15 (.take 16 (.alt 17 (.take 18 (.alt 19 .done .last)) .last)) .last))) .last)) .last)))) (.alt 8 (.take 10 (.alt 1 (.take 3 (.take 6 (.alt 12 (.take 13 (.take 14 (.alt 15 (.take 16 (.alt 17 (.take 18 (.alt 19 .done .last)) .last)) .last))) .last))) (.alt 12 (.take 13 (.alt 1 (.take 3 (.take 6 (.take 14 (.alt 15 (.take 16 (.alt 17 (.take 18 (.alt 19 .done .last)) .last)) .last)))) .last)) .last))) (.alt 12 (.take 13 (.alt 1 (.take 3 (.take 6 (.alt 8 (.take 10 (.take 14 (.alt 15 (.take 16 (.alt 17 (.take 18 (.alt 19 .done .last)) .last)) .last))) .last))) (.alt 8 (.take 10 (.alt 1 (.take 3 (.take 6 (.take 14 (.alt 15 (.take 16 (.alt 17 (.take 18 (.alt 19 .done .last)) .last)) .last)))) .last)) .last))) .last)))))))))) [2] hk' follows_mixed (by kernel_rfl) (by kernel_rfl) ?_
      simp only [go_sem, Nat.reduceAdd, Nat.reduceSub, Nat.reduceMul, Nat.reduceEqDiff, Nat.reduceLT, Nat.reduceLeDiff, Nat.reduceBEq, Nat.reduceBNe, Int.reduceLT, Int.reduceLE, Int.reduceEq, Int.reduceAdd, Int.reduceSub, Int.reduceNeg, reduceCtorEq]
      repeat' (refine And.intro ?_ ?_)
      all_goals first | omega | exact hJ () _ trivial (by simp only [go_sem, Nat.reduceAdd, Nat.reduceSub, Nat.reduceMul, Nat.reduceEqDiff, Nat.reduceLT, Nat.reduceLeDiff, Nat.reduceBEq, Nat.reduceBNe, Int.reduceLT, Int.reduceLE, Int.reduceEq, Int.reduceAdd, Int.reduceSub, Int.reduceNeg, reduceCtorEq]; simp)
    rintro _ _
    simp only [go_sem, Nat.reduceAdd, Nat.reduceSub, Nat.reduceMul, Nat.reduceEqDiff, Nat.reduceLT, Nat.reduceLeDiff, Nat.reduceBEq, Nat.reduceBNe, Int.reduceLT, Int.reduceLE, Int.reduceEq, Int.reduceAdd, Int.reduceSub, Int.reduceNeg, reduceCtorEq]
    refine plain_ok (N := 3000) (callP_does 5 g6 handT 10 (fun u cs G => HandG g y cs G ∧ HandE g y { j with place := HMod.hMod (j.place + (v : Int)) g.ring, used := j.used + (v : Int), next := j.next + 1 } u G) rfl rfl (by kernel_rfl) rfl (by simp only [dOk_some, dOk_none, Nat.reduceLT]) rfl rfl rfl rfl (fun G hG => hend_does (x := y) (j := { j with place := HMod.hMod (j.place + (v : Int)) g.ring, used := j.used + (v : Int), next := j.next + 1 }) hG.wf (now_mine (id := 5) hG rfl) (now_blk (id := 5) hG rfl) (hh3.mono (hG.le G5 (by simp))))) (QOk_body _ _ _) (by first | exact .inl rfl | exact .inr ⟨_, _, rfl, rfl⟩) ?_
    rintro _ ⟨v4, cs4, G6, _, ⟨⟨E1, p1, E2, p2, E3, p3, rfl, hd4⟩, hE⟩, hle6, rfl⟩
    obtain ⟨dv, rfl, hE1, hE2⟩ := hE
    obtain ⟨J3, hJ3⟩ : ∃ J3 : Jr, J3 = (if y.2 = 0 then { j with place := HMod.hMod (j.place + (v : Int)) g.ring, used := j.used + (v : Int), next := j.next + 1 } else zeroJr) := ⟨_, rfl⟩
    rw [← hJ3]
    by_cases hy : y.2 = 0 ∨ y.2 = 10
    · have hd5 := hE1 hy
      obtain ⟨F1, q1, F2, q2, F3, q3, rfl, hfo⟩ := hd5.form
      clear hfo hd4
      simp only [go_sem, Nat.reduceAdd, Nat.reduceSub, Nat.reduceMul, Nat.reduceEqDiff, Nat.reduceLT, Nat.reduceLeDiff, Nat.reduceBEq, Nat.reduceBNe, Int.reduceLT, Int.reduceLE, Int.reduceEq, Int.reduceAdd, Int.reduceSub, Int.reduceNeg, reduceCtorEq, jrV]
      refine fin_ret (G := G0) Try.results50 ?_
      simp only [go_sem, Nat.reduceAdd, Nat.reduceSub, Nat.reduceMul, Nat.reduceEqDiff, Nat.reduceLT, Nat.reduceLeDiff, Nat.reduceBEq, Nat.reduceBNe, Int.reduceLT, Int.reduceLE, Int.reduceEq, Int.reduceAdd, Int.reduceSub, Int.reduceNeg, reduceCtorEq]
      intro aa w' _ hle
      exact .inr ⟨hnf, _, by rw [← hJ3]; rfl, fun _ => hd5.mono (hle G6 (by simp)), fun h1 h2 => absurd hy (by omega)⟩
    · obtain rfl := hE2 (by omega) (by omega)
      simp only [go_sem, Nat.reduceAdd, Nat.reduceSub, Nat.reduceMul, Nat.reduceEqDiff, Nat.reduceLT, Nat.reduceLeDiff, Nat.reduceBEq, Nat.reduceBNe, Int.reduceLT, Int.reduceLE, Int.reduceEq, Int.reduceAdd, Int.reduceSub, Int.reduceNeg, reduceCtorEq, jrV, zeroDev]
      refine fin_ret (G := G0) Try.results50 ?_
      simp only [go_sem, Nat.reduceAdd, Nat.reduceSub, Nat.reduceMul, Nat.reduceEqDiff, Nat.reduceLT, Nat.reduceLeDiff, Nat.reduceBEq, Nat.reduceBNe, Int.reduceLT, Int.reduceLE, Int.reduceEq, Int.reduceAdd, Int.reduceSub, Int.reduceNeg, reduceCtorEq]
      intro aa w' _ hle
      exact .inr ⟨hnf, _, by rw [← hJ3]; rfl, fun h => absurd h hy, fun _ _ => rfl⟩
end Go.Proofs.Ytomfladifefomaa
