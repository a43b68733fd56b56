/- dev.Get, where there is such a sector: what was put there last, in a row of its own. Conditions: as each law states them. -/
import Derived.Test.YtomfladifefomaaG1
import Derived.Test.YtomfladifefomaaOp
namespace Go.Proofs.Ytomfladifefomaa
open Go.RowKit Go.Shelf
attribute [local go_sem] Oper.semAt_some
theorem keepX_own {W W' : World} {row : Option Nat} (hg : W.grownBy W' row) (hr : ∀ r, row = some r → ∃ o : Obj, W.heap[r]? = some o ∧ o.isCells = false) : KeepX (fun _ => true) W W' :=
  ⟨hg.size, fun g cur t fr hb _ => (hg.block g (lt_of_block hb) (fun e => by obtain ⟨o, ho, hc⟩ := hr g e.symm; rw [ho] at hb; cases hb; cases hc)).trans hb⟩
/-- what the backward walk stops at -/
theorem content_stop {d : Dev} {n j : Nat} {x : Wr} (hx : d.cache[j]? = some x) (hn : x.at_ = (n : Int)) : ∀ i, j < i → i ≤ d.cache.length → (∀ m y, j < m → m < i → d.cache[m]? = some y → y.at_ ≠ (n : Int)) → valTo all_ d n i = x.data
  | 0, h, _, _ => absurd h (by omega)
  | i + 1, h, hl, hall => by
    unfold valTo
    by_cases e : i = j
    · subst e
      rw [hx]
      simp [all_, hn]
    · have hil : i < d.cache.length := by omega
      have hy : d.cache[i]? = some d.cache[i] := List.getElem?_eq_getElem hil
      rw [hy]
      have hne := hall i _ (by omega) (by omega) hy
      simp only [all_, Bool.true_and, hne, decide_false, Bool.false_eq_true, if_false]
      exact content_stop hx hn i (by omega) (by omega) (fun m y h1 h2 h3 => hall m y h1 (by omega) h3)
theorem content_none {d : Dev} {n : Nat} : ∀ i, i ≤ d.cache.length → (∀ m y, m < i → d.cache[m]? = some y → y.at_ ≠ (n : Int)) → valTo all_ d n i = d.safe.getD n []
  | 0, _, _ => rfl
  | i + 1, hl, hall => by
    unfold valTo
    have hil : i < d.cache.length := by omega
    have hy : d.cache[i]? = some d.cache[i] := List.getElem?_eq_getElem hil
    rw [hy]
    have hne := hall i _ (by omega) hy
    simp only [all_, Bool.true_and, hne, decide_false, Bool.false_eq_true, if_false]
    exact content_none i (by omega) (fun m y h1 h2 => hall m y (by omega) h2)
theorem enc8_inj {a b : UInt8} (h : enc8 a = enc8 b) : a = b := by
  unfold enc8 at h
  injection h with _ h
  exact UInt8.toNat_inj.1 (by omega)
theorem bytesR_eq {w : World} {v : Value} {a b : List UInt8} (h1 : BytesR w v a) (h2 : BytesR w v b) : a = b := by
  obtain ⟨A, c, rfl, p1, p2, p3, p4⟩ := h1
  obtain ⟨A', c', e, q1, q2, q3, q4⟩ := h2
  injection e with e1 hl e3
  subst e1; subst e3
  apply List.ext_getElem hl
  intro i h1 h2
  obtain ⟨g, o, cur, fr, rfl, hb, hc⟩ := p4 (by omega)
  obtain ⟨g', o', cur', fr', e', hb', hc'⟩ := q4 (by omega)
  cases e'
  rw [hb] at hb'
  cases hb'
  have r1 := hc i (enc8 a[i]) (by rw [List.getElem?_map, List.getElem?_eq_getElem h1]; rfl)
  have r2 := hc' i (enc8 b[i]) (by rw [List.getElem?_map, List.getElem?_eq_getElem h2]; rfl)
  rw [r1] at r2
  exact enc8_inj (by injection r2)
/-- the end of the call -/
theorem get_end {F : Fence} {w V : World} {D b6 b7 : Nat} {A' : Option Addr} {c' : Nat} {bs : List UInt8} {cont : List UInt8} (hK : V.heap[D]? = some (.deferred (some []))) (u6 : Blk V b6 23 #[.slice A' 64 c']) (u7 : Blk V b7 25 #[.int .i64 0])
    (ho : V.ownsRow w.heap.size 5 1 (.slice A' 64 c') 64 (bs.map enc8)) (hB : Below w.heap.size w V) (hD : w.heap.size ≤ D) (he : bs = cont) {a : Act} (h6 : a.tmps[6]? = some (.pointer (some ⟨b6, 0, none⟩))) (h7 : a.tmps[7]? = some (.pointer (some ⟨b7, 0, none⟩))) (hdf : a.defers = [{ target := .collected D, args := #[] }]) :
    bodyPostM F 5 Try.prog Try.f37 (fun e w' => ∃ A c, e = .returned (.tuple #[.slice A 64 c, .int .i64 0]) ∧ w'.ownsRow w.heap.size 5 1 (.slice A 64 c) 64 (cont.map enc8) ∧ Below w.heap.size w w') .ret a V := by
  subst he
  obtain ⟨tmps, defers⟩ := a
  simp only at h6 h7 hdf
  subst hdf
  refine ⟨by simp, .inl ⟨_, _, rfl, run_takeDeferred hK, ?_⟩⟩
  have q := keepX_own (grownBy_putObj' V D (.deferred none)) (fun r e => by cases e; exact ⟨_, hK, rfl⟩)
  have k6 := (u6.keep q rfl).cell 0
  have k7 := (u7.keep q rfl).cell 0
  refine ⟨.tuple #[.slice A' 64 c', .int .i64 0], ?_, A', c', rfl, ownsRow_keep ho q rfl, hB.trans (belowK_b (w := w) (Nat.le_refl _) V D _ _ hD hK rfl rfl)⟩
  simp [results, Try.results37, go_sem, k6, k7, h6, h7]
/-- what a round may be handed: a sector's bytes -/
def GoodE (w : World) (x : WE) : Prop := ∃ bs : List UInt8, bs.length = x.m ∧ x.m ≤ 64 ∧ BytesR w (.slice x.A x.m x.c) bs
set_option maxRecDepth 100000 in
set_option maxHeartbeats 4000000 in
theorem get_in {g : Geo} (hg : GoodGeo g) {d : Dev} (hd : GoodDev g d) {dv : Value} {k : Nat} (hk : k < d.safe.length) (w : World) (h : DevR w dv d) :
    Calls Try.prog 37 #[geoV g, dv, .int .i64 (k : Int)] w fun e w' => ∃ A c, e = .returned (.tuple #[.slice A 64 c, .int .i64 0]) ∧ w'.ownsRow w.heap.size 5 1 (.slice A 64 c) 64 ((content d k).map enc8) ∧ Below w.heap.size w w' := by
  have hchk := fun W (hb : Below w.heap.size w W) => check_good g hg d hd dv W (h.below hb)
  have hsl : d.safe.length ≤ 1000 := by
    have := hd.safe
    unfold sectorsOf at this
    have := hg.r2; have := hg.a2; have := hg.h2; omega
  have hmost := hd.most
  obtain ⟨s, c, v, rfl, hs, hc, hv⟩ := h
  obtain ⟨A1, c1, rfl, hs1, hs2⟩ := SeqR.form hs
  obtain ⟨A2, c2, rfl, hc1, hc2⟩ := SeqR.form hc
  obtain ⟨A3, c3, rfl, hv1, hv2⟩ := SeqR.form hv
  obtain ⟨sk, hsk⟩ : ∃ sk, d.safe[k]? = some sk := ⟨_, List.getElem?_eq_getElem hk⟩
  obtain ⟨g0, o0, cs, rfl, hg0, hl0, ⟨u, rfl, hu⟩, hcell0⟩ := SeqR.at_ hs hsk
  obtain ⟨A4, c4, rfl, _⟩ := bytesR_len hu
  have hcell := hcell0 0 _ rfl
  have inst : Inhabited {x : WE // GoodE w x} := ⟨⟨⟨0, 0, none, 0, 0⟩, [], rfl, by decide, TSl.nil w _ 1⟩⟩
  obtain ⟨f, hf⟩ : ∃ f : Nat → {x : WE // GoodE w x}, ∀ j, j < d.cache.length → ∃ y, d.cache[d.cache.length - 1 - j]? = some y ∧ (f j).1.i = d.cache.length - 1 - j ∧ (f j).1.a = y.at_ ∧ (f j).1.m = y.data.length ∧ BytesR w (.slice (f j).1.A (f j).1.m (f j).1.c) y.data ∧
      ∃ b off, A2 = some ⟨b, off, none⟩ ∧ b < w.heap.size ∧ w.cell? ⟨b, off + (d.cache.length - 1 - j) * 2, none⟩ = some (.int .i64 (f j).1.a) ∧ w.cell? ⟨b, off + (d.cache.length - 1 - j) * 2 + 1, none⟩ = some (.slice (f j).1.A (f j).1.m (f j).1.c) := by
    refine Go.Deep.choose_lt (α := {x : WE // GoodE w x}) (n := d.cache.length) (p := fun j (x : {x : WE // GoodE w x}) => ∃ y, d.cache[d.cache.length - 1 - j]? = some y ∧ x.1.i = d.cache.length - 1 - j ∧ x.1.a = y.at_ ∧ x.1.m = y.data.length ∧ BytesR w (.slice x.1.A x.1.m x.1.c) y.data ∧
      ∃ b off, A2 = some ⟨b, off, none⟩ ∧ b < w.heap.size ∧ w.cell? ⟨b, off + (d.cache.length - 1 - j) * 2, none⟩ = some (.int .i64 x.1.a) ∧ w.cell? ⟨b, off + (d.cache.length - 1 - j) * 2 + 1, none⟩ = some (.slice x.1.A x.1.m x.1.c)) fun j hj => ?_
    have hjl : d.cache.length - 1 - j < d.cache.length := by omega
    have hjy : d.cache[d.cache.length - 1 - j]? = some d.cache[d.cache.length - 1 - j] := List.getElem?_eq_getElem hjl
    obtain ⟨b, off, cs, rfl, hb, _, ⟨u, rfl, hu⟩, hcl⟩ := SeqR.at_ hc hjy
    obtain ⟨A5, c5, rfl, _⟩ := bytesR_len hu
    have h64 := (hd.wr hjy).2.2
    exact ⟨⟨⟨_, _, A5, _, c5⟩, _, rfl, Nat.le_of_eq h64, hu⟩, _, hjy, rfl, rfl, rfl, hu, b, off, rfl, hb, hcl 0 _ rfl, hcl 1 _ rfl⟩
  clear hs hc hv hcell0 hl0
  have Hchk := Lib.hid hchk
  have Hf := Lib.hid hf
  have Hu := Lib.hid hu
  have Hd := Lib.hid hd
  have Hk := Lib.hid hk
  have Hsk := Lib.hid hsk
  have hku : sk.length = 64 := hd.rows _ (List.mem_of_getElem? hsk)
  have Hcon : Hid (∀ (j : Nat) (x : Wr), d.cache[j]? = some x → x.data.length = 64) := Lib.hid fun j x hx => (hd.wr hx).2.2
  have Hku := Lib.hid hku
  rw [hku] at hcell Hu
  have hkl : (k : Int) < (d.safe.length : Int) := by omega
  simp only [Nat.mul_one, Nat.add_zero] at hcell
  have hc100 : d.cache.length ≤ 100000 := by omega
  clear hchk hf hu hd hsk hs1 hs2 hc1 hc2 hv1 hv2 hku hmost
  refine (callsIn_wide (n := 5)).1 ?_
  refine callsIn_of_wp_marks Try.func37 rfl trivial ?_ rfl
  obtain ⟨ga, gb, gc, ge, gf⟩ := g
  unfold geoV at *
  simp only at *
  simp only [Try.ntmps37, List.size_toArray, List.length_cons, List.length_nil, Nat.reduceAdd, Nat.reduceSub, Array.replicate_succ, Array.replicate_zero, List.push_toArray, List.append_toArray, List.nil_append, List.cons_append]
  have hB0 : Below w.heap.size w (((((w.alloc (.cells #[.int .i64 ga, .int .i64 gb, .int .i64 gc, .int .i64 ge, .int .i64 gf] 32)).alloc (.cells #[.slice (some ⟨g0, o0, none⟩) d.safe.length c1, .slice A2 d.cache.length c2, .slice A3 d.vols.length c3, .int .i64 d.fuel] 37)).alloc (.cells #[.int .i64 (k : Int)] 3)).alloc (.cells #[.slice none 0 0] 23)).alloc (.cells #[.int .i64 0] 25)) := by
    repeat (first | exact Below.refl _ _ | refine below_al ?_ _)
  gi_wp2_with (refine ⟨trivial, ?_⟩; gi_at_call 35; refine (callsIn_wide.2 (Hchk.out _ hB0)).mono ?_; rintro e w1 ⟨rfl, hb1⟩; have b4 := Blk.below ((((Blk.new_at (w := w.alloc (.cells #[.int .i64 ga, .int .i64 gb, .int .i64 gc, .int .i64 ge, .int .i64 gf] 32)) (g := w.heap.size + 1) (by simp) 37 #[.slice (some ⟨g0, o0, none⟩) d.safe.length c1, .slice A2 d.cache.length c2, .slice A3 d.vols.length c3, .int .i64 d.fuel]).alloc (.cells #[.int .i64 (k : Int)] 3)).alloc (.cells #[.slice none 0 0] 23)).alloc (.cells #[.int .i64 0] 25)) hb1; have b5 := Blk.below (((Blk.new_at (g := w.heap.size + 1 + 1) (by simp) 3 #[.int .i64 (k : Int)]).alloc (.cells #[.slice none 0 0] 23)).alloc (.cells #[.int .i64 0] 25)) hb1; have b6 := Blk.below ((Blk.new_at (g := w.heap.size + 1 + 1 + 1) (by simp) 23 #[.slice none 0 0]).alloc (.cells #[.int .i64 0] 25)) hb1; have b7 := Blk.below (Blk.new_at (g := w.heap.size + 1 + 1 + 1 + 1) (by simp) 25 #[.int .i64 0]) hb1; have c40 := b4.cell 0; have c41 := b4.cell 1; have c42 := b4.cell 2; have c43 := b4.cell 3; have c50 := b5.cell 0; have hB1 := hB0.trans (hb1.mono hB0.size); have Hb4 := Lib.hid b4; have Hb5 := Lib.hid b5; have Hb6 := Lib.hid b6; have Hb7 := Lib.hid b7; have HB1 := Lib.hid hB1; clear b4 b5 b6 b7 hB1 hb1)
  refine ⟨trivial, ?_⟩
  refine (back_in Fence.wide 4 trivial rfl _ _ _ _).mono ?_
  rintro e w2 ⟨rfl, rfl⟩
  gi_wp2
  clear c40 c41 c42 c43 c50
  obtain ⟨W0, hW0⟩ : ∃ W0, w1.alloc (.cells #[.slice A2 d.cache.length c2] 34) = W0 := ⟨_, rfl⟩
  have hB01 : Below w1.heap.size w1 W0 := by rw [← hW0]; exact (Below.refl _ _).alloc (Nat.le_refl _) _
  have hz0 : W0.heap.size = w1.heap.size + 1 := by rw [← hW0]; simp
  have hz1 := Hb7.out.lt
  have b4 := Hb4.out.below hB01
  have b5 := Hb5.out.below hB01
  have b6 := Hb6.out.below hB01
  have b7 := Hb7.out.below hB01
  have bS : Blk W0 w1.heap.size 34 #[.slice A2 d.cache.length c2] := by rw [← hW0]; exact Blk.new _ _ _
  have hBw : Below w.heap.size w W0 := HB1.out.trans (hB01.mono (by omega))
  rw [hW0]
  clear hW0 Hb4 Hb5 Hb6 Hb7 HB1 hB0 hB01 Hchk
  generalize Value.agg #[.int .i64 ga, .int .i64 gb, .int .i64 gc, .int .i64 ge, .int .i64 gf] = X1
  generalize Value.agg #[.slice (some ⟨g0, o0, none⟩) d.safe.length c1, .slice A2 d.cache.length c2, .slice A3 d.vols.length c3, .int .i64 d.fuel] = X2
  generalize Value.bool (decide ((k : Int) < 0)) = X3
  have hI0 : 0 < d.cache.length → ∃ b off, A2 = some ⟨b, off, none⟩ ∧ b < W0.heap.size ∧ BackR W0 b off d.cache.length f := by
    intro h0
    obtain ⟨_, _, _, _, _, _, b, off, hA, hb, _, _⟩ := Hf.out 0 h0
    refine ⟨b, off, hA, by omega, fun j hj => ?_⟩
    obtain ⟨y, _, q1, q2, _, _, b', off', hA', _, q5, q6⟩ := Hf.out j hj
    rw [hA] at hA'
    cases hA'
    exact ⟨q1, (hBw.cell (p := ⟨b, off + (d.cache.length - 1 - j) * 2, none⟩) hb).trans q5, (hBw.cell (p := ⟨b, off + (d.cache.length - 1 - j) * 2 + 1, none⟩) hb).trans q6⟩
  refine wpIn_rangeFunc_ownH rfl (by omega) (gf := 87) (lb := #[.pointer (some ⟨w1.heap.size, 0, none⟩)]) rfl trivial (enters_of Try.func87 (by kernel_rfl) rfl)
    (back_stops (p := GoodE w) Fence.wide 4 trivial rfl (by omega) w1.heap.size W0.heap.size d.cache.length c2 A2 f hc100 W0 (by omega) (by omega) (Nat.le_refl _) (bS.cell 0) hI0) belowK_t (belowK_b (Nat.le_refl _)) (Below.refl _ _) (fun _ => rfl)
    (fun pre W => ((∀ x ∈ pre, x.1.a ≠ (k : Int)) ∧ W0.heap.size ≤ W.heap.size ∧ Blk W (w.heap.size + 1) 37 #[.slice (some ⟨g0, o0, none⟩) d.safe.length c1, .slice A2 d.cache.length c2, .slice A3 d.vols.length c3, .int .i64 d.fuel] ∧ Blk W (w.heap.size + 1 + 1) 3 #[.int .i64 (k : Int)] ∧ Blk W (w.heap.size + 1 + 1 + 1) 23 #[.slice none 0 0] ∧ Blk W (w.heap.size + 1 + 1 + 1 + 1) 25 #[.int .i64 0]) ∧ Below w.heap.size w W)
    (fun c pre W => (c = .ret ∧ ∃ ini last A' c' bs, pre = ini ++ [last] ∧ (∀ x ∈ ini, x.1.a ≠ (k : Int)) ∧ last.1.a = (k : Int) ∧ bs.length = last.1.m ∧ BytesR w (.slice last.1.A last.1.m last.1.c) bs ∧ Blk W (w.heap.size + 1 + 1 + 1) 23 #[.slice A' last.1.m c'] ∧ Blk W (w.heap.size + 1 + 1 + 1 + 1) 25 #[.int .i64 0] ∧ W.ownsRow w.heap.size 5 1 (.slice A' last.1.m c') last.1.m (bs.map enc8)) ∧ Below w.heap.size w W)
    (OwnFrom.and (Own.from (fun s A B row hs hg hr => have q := keepX_own hg hr; ⟨hs.1, Nat.le_trans hs.2.1 hg.size, hs.2.2.1.keep q rfl, hs.2.2.2.1.keep q rfl, hs.2.2.2.2.1.keep q rfl, hs.2.2.2.2.2.keep q rfl⟩) _) (ownFrom_below (Nat.le_refl _) (by omega)))
    (fun c => OwnFrom.and (Own.from (fun s A B row hs hg hr => have q := keepX_own hg hr; by
      obtain ⟨hc, ini, last, A', c', bs, e1, e2, e3, e4, e5, e6, e7, e8⟩ := hs
      exact ⟨hc, ini, last, A', c', bs, e1, e2, e3, e4, e5, e6.keep q rfl, e7.keep q rfl, ownsRow_keep e8 q rfl⟩) _) (ownFrom_below (Nat.le_refl _) (by omega)))
    ⟨⟨by simp, Nat.le_refl _, b4, b5, b6, b7⟩, hBw⟩
    (fun x a' W => ∃ Bx, W0.heap.size ≤ Bx ∧ Blk W Bx 61 #[.int .i64 x.1.a, .slice x.1.A x.1.m x.1.c] ∧ a' = { tmps := #[X1, X2, .int .i64 (k : Int), .pointer (some ⟨w.heap.size, 0, none⟩), .pointer (some ⟨w.heap.size + 1, 0, none⟩), .pointer (some ⟨w.heap.size + 1 + 1, 0, none⟩), .pointer (some ⟨w.heap.size + 1 + 1 + 1, 0, none⟩), .pointer (some ⟨w.heap.size + 1 + 1 + 1 + 1, 0, none⟩), .int .i64 0, undef, .pointer (some ⟨Bx, 0, none⟩), X1, X2, .int .i64 0, .int .i64 0, .bool false, undef, .int .i64 (k : Int), X3, X3, .int .i64 (k : Int), .pointer (some ⟨w.heap.size + 1, 0, none⟩), .slice (some ⟨g0, o0, none⟩) d.safe.length c1, .int .i64 (d.safe.length : Int), .bool false, X3, .pointer (some ⟨w.heap.size + 1, 1, none⟩), .slice A2 d.cache.length c2, .func (.func 87) #[] #[.pointer (some ⟨w1.heap.size, 0, none⟩)], .int .i64 (x.1.i : Int), .agg #[.int .i64 x.1.a, .slice x.1.A x.1.m x.1.c], undef, undef, undef, undef, undef, undef, undef, undef, undef, undef, undef, undef, undef], defers := [] })
    (fun x a' _ X Y row hs hg hr => by obtain ⟨Bx, h1, h2, h3⟩ := hs; exact ⟨Bx, h1, h2.keep (keepX_own hg (fun r e => (hr r e).2)) rfl, h3⟩)
    ?assign ?body ?done ?stop
  case assign =>
    rintro l pre x W K ⟨⟨hp, hsz, c4, c5, c6, c7⟩, hB⟩ hK
    unfold WE.enc
    gi_wp2
    exact hK _ _ ((KeepsOthers.alloc _ _).from _) ((Below.refl _ W).alloc hsz _) ⟨⟨hp, by simp; omega, c4.alloc _, c5.alloc _, c6.alloc _, c7.alloc _⟩, hB.alloc hB.size _⟩ ⟨W.heap.size, hsz, Blk.new W _ _, rfl⟩
  case body =>
    rintro l pre x a' W hl ⟨r, hr⟩ ⟨⟨hp, hsz, c4, c5, c6, c7⟩, hB⟩ ⟨Bx, hBx, bX, rfl⟩ hlt
    obtain ⟨bs, e1, e2, e3⟩ := x.2
    have hcl := clone_any _ bs W (e3.keep (X := fun _ => true) rfl (KeepX.of_below hB)) (by omega)
    rw [e1] at hcl
    have x0 := bX.cell 0
    have x1 := bX.cell 1
    have x5 := c5.cell 0
    by_cases hxa : x.1.a = (k : Int)
    · have Hcl := Lib.hid hcl
      clear hcl
      gi_wp2_with (refine ⟨trivial, ?_⟩; gi_at_call 61; refine (CallsIn.inRound l (callsIn_wide.2 Hcl.out)).mono ?_; rintro e W2 ⟨A', c', rfl, ho, hb2⟩; have d6 := c6.below hb2; have d7 := c7.below hb2; have y6 := d6.cell 0; have y7 := d7.cell 0; have z6 := d6.frozen 0; have z7 := d7.frozen 0; have Ho := Lib.hid ho; have Hb2 := Lib.hid hb2; clear ho hb2)
      have ho := Ho.out
      have hb2 := Hb2.out
      have hBs := hB.size
      have u6 : Blk (W2.setCell ⟨w.heap.size + 1 + 1 + 1, 0, none⟩ (.slice A' x.1.m c')) (w.heap.size + 1 + 1 + 1) 23 #[.slice A' x.1.m c'] := by simpa using d6.set_ 0 (.slice A' x.1.m c')
      have u7 := d7.far (p := ⟨w.heap.size + 1 + 1 + 1, 0, none⟩) (by simp) (.slice A' x.1.m c')
      refine ⟨?_, ⟨rfl, pre, x, A', c', bs, rfl, hp, hxa, e1, e3, u6.far (p := ⟨w.heap.size + 1 + 1 + 1 + 1, 0, none⟩) (by simp) _, by simpa using u7.set_ 0 (.int .i64 0), ?_⟩, ?_⟩
      · exact ((⟨hb2.size, fun i o _ hi _ => (hb2.block i (Array.getElem?_eq_some_iff.1 hi).1).trans hi⟩ : KeepsFrom _ W W2).trans ((KeepsOthers.setCell _ _ _).from _)).trans ((KeepsOthers.setCell _ _ _).from _)
      · exact ownsRow_base (ownsRow_keep (X := fun t => t == 5) ho (((KeepX.refl _ _).setCell (p := ⟨w.heap.size + 1 + 1 + 1, 0, none⟩) d6 rfl _).setCell (p := ⟨w.heap.size + 1 + 1 + 1 + 1, 0, none⟩) u7 rfl _) rfl) (by omega)
      · exact ((hB.trans (hb2.mono hBs)).setCell (p := ⟨w.heap.size + 1 + 1 + 1, 0, none⟩) (by show _ ≤ w.heap.size + 1 + 1 + 1; omega) _).setCell (p := ⟨w.heap.size + 1 + 1 + 1 + 1, 0, none⟩) (by show _ ≤ w.heap.size + 1 + 1 + 1 + 1; omega) _
    · clear hcl
      gi_wp2
      exact ⟨KeepsFrom.refl _ _, Below.refl _ _, ⟨fun y hy => (List.mem_append.1 hy).elim (hp y) (fun e => by simp at e; subst e; exact hxa), hsz, c4, c5, c6, c7⟩, hB⟩
  case done =>
    rintro D ys W hD rfl ⟨⟨hp, hsz, c4, c5, c6, c7⟩, hB⟩ hK
    have hcl := clone_any _ sk W (Hu.out.keep (X := fun _ => true) rfl (KeepX.of_below hB)) (by have := Hku.out; omega)
    rw [Hku.out] at hcl
    have c40 := c4.cell 0
    have c50 := c5.cell 0
    have hcW := (hB.cell (p := ⟨g0, o0 + k, none⟩) hg0).trans hcell
    have Hcl := Lib.hid hcl
    have HK := Lib.hid hK
    clear hcl hK
    gi_wp2_with (refine ⟨trivial, ?_⟩; gi_at_call 61; refine (callsIn_wide.2 Hcl.out).mono ?_; rintro e W2 ⟨A', c', rfl, ho, hb2⟩; have d6 := c6.below hb2; have d7 := c7.below hb2; have y6 := d6.cell 0; have y7 := d7.cell 0; have z6 := d6.frozen 0; have z7 := d7.frozen 0; have Ho := Lib.hid ho; have Hb2 := Lib.hid hb2; clear ho hb2)
    have ho := Ho.out
    have hb2 := Hb2.out
    have hK := HK.out
    have hBs := hB.size
    have u6 : Blk (W2.setCell ⟨w.heap.size + 1 + 1 + 1, 0, none⟩ (.slice A' 64 c')) (w.heap.size + 1 + 1 + 1) 23 #[.slice A' 64 c'] := by simpa using d6.set_ 0 (.slice A' 64 c')
    have u7 := d7.far (p := ⟨w.heap.size + 1 + 1 + 1, 0, none⟩) (by simp) (.slice A' 64 c')
    have v6 := u6.far (p := ⟨w.heap.size + 1 + 1 + 1 + 1, 0, none⟩) (by simp) (.int .i64 0)
    have v7 : Blk ((W2.setCell ⟨w.heap.size + 1 + 1 + 1, 0, none⟩ (.slice A' 64 c')).setCell ⟨w.heap.size + 1 + 1 + 1 + 1, 0, none⟩ (.int .i64 0)) (w.heap.size + 1 + 1 + 1 + 1) 25 #[.int .i64 0] := by simpa using u7.set_ 0 (.int .i64 0)
    have hK2 : W2.heap[D]? = some (.deferred (some [])) := (hb2.block D (Array.getElem?_eq_some_iff.1 hK).1).trans hK
    have hK' := (KeepsOthers.setCell (W2.setCell ⟨w.heap.size + 1 + 1 + 1, 0, none⟩ (.slice A' 64 c')) ⟨w.heap.size + 1 + 1 + 1 + 1, 0, none⟩ (.int .i64 0)).same D _ ((KeepsOthers.setCell W2 ⟨w.heap.size + 1 + 1 + 1, 0, none⟩ (.slice A' 64 c')).same D _ hK2 rfl) rfl
    have ho' := ownsRow_keep (X := fun t => t == 5) ho (((KeepX.refl _ _).setCell (p := ⟨w.heap.size + 1 + 1 + 1, 0, none⟩) d6 rfl (.slice A' 64 c')).setCell (p := ⟨w.heap.size + 1 + 1 + 1 + 1, 0, none⟩) u7 rfl (.int .i64 0)) rfl
    have hB' := ((hB.trans (hb2.mono hBs)).setCell (p := ⟨w.heap.size + 1 + 1 + 1, 0, none⟩) (by show _ ≤ w.heap.size + 1 + 1 + 1; omega) (.slice A' 64 c')).setCell (p := ⟨w.heap.size + 1 + 1 + 1 + 1, 0, none⟩) (by show _ ≤ w.heap.size + 1 + 1 + 1 + 1; omega) (.int .i64 0)
    refine get_end hK' v6 v7 (ownsRow_base ho' hBs) hB' (by omega) ?_ rfl rfl rfl
    show sk = content d k
    have hcn := content_none (d := d) (n := k) d.cache.length (Nat.le_refl _) fun m y hm hy => by
      obtain ⟨y', q1, _, q3, _⟩ := Hf.out (d.cache.length - 1 - m) (by omega)
      rw [show d.cache.length - 1 - (d.cache.length - 1 - m) = m by omega, hy] at q1
      cases q1
      rw [← q3]
      exact hp _ (by simp only [upto, List.mem_map, List.mem_range]; exact ⟨_, by omega, rfl⟩)
    unfold content
    rw [hcn, List.getD_eq_getElem?_getD, Hsk.out]
    rfl
  case stop =>
    rintro D c pre W hD ⟨k', hk', rfl⟩ ⟨⟨rfl, ini, last, A', c', bs, e1, e2, e3, e4, e5, u6, u7, ho⟩, hB⟩ hK
    gi_wp2
    have hBs := hB.size
    obtain ⟨j, rfl⟩ : ∃ j, k' = j + 1 := by
      cases k' with
      | zero => simp [upto] at e1
      | succ j => exact ⟨j, rfl⟩
    rw [upto_succ] at e1
    obtain ⟨rfl, el⟩ := List.append_inj' e1 rfl
    obtain rfl : f j = last := by simpa using el
    obtain ⟨y, q1, q2, q3, q4, q5, _⟩ := Hf.out j (by omega)
    have hm64 : (f j).1.m = 64 := by rw [q4]; exact Hcon.out _ _ q1
    have hbs : bs = y.data := bytesR_eq e5 q5
    rw [hm64] at u6 ho
    refine get_end hK u6 u7 ho hB (by omega) ?_ rfl rfl rfl
    rw [hbs]
    refine (content_stop q1 (by rw [← q3, e3]) d.cache.length (by omega) (Nat.le_refl _) fun m y2 h1 h2 hy2 => ?_).symm
    obtain ⟨y', r1, _, r3, _⟩ := Hf.out (d.cache.length - 1 - m) (by omega)
    rw [show d.cache.length - 1 - (d.cache.length - 1 - m) = m by omega, hy2] at r1
    cases r1
    rw [← r3]
    exact e2 _ (by simp only [upto, List.mem_map, List.mem_range]; exact ⟨_, by omega, rfl⟩)
end Go.Proofs.Ytomfladifefomaa
