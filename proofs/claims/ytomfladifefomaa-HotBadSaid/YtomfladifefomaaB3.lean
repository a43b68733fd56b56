/- Append, conversions and helpers for the devices. Conditions: as each law states them. -/
import Derived.Test.YtomfladifefomaaRows
import Derived.Test.YtomfladifefomaaA1
import Derived.Test.YtomfladifefomaaB2
import Derived.Deep.RegionLaw
import Derived.Test.YtomfladifefomaaB1
import Derived.Lib.ConvBytes
-- T12: 
namespace Go.Proofs.Ytomfladifefomaa
open Go.RowKit
set_option maxRecDepth 100000 in
set_option maxHeartbeats 1000000 in
theorem append_none (g : Geo) (hg : GoodGeo g) (d : Dev) (hd : GoodDev g d) (dv : Value) (v : Int) (bv : Value) (w : World) (h : DevR w dv d) (hv : volOk d v = false) (hfr : ¬ (v = (d.vols.length : Int) ∧ v < g.volumes)) :
    Calls Try.prog 29 #[geoV g, dv, .int .i64 v, bv] w fun e w' => e = .returned (.tuple #[zeroDev, .int .i64 6]) ∧ Below w.heap.size w w' := by
  have hchk := fun W (hb : Below w.heap.size w W) => check_good g hg d hd dv W (h.below hb)
  have hvol := fun W (hb : Below w.heap.size w W) => volume_no dv d v W (h.below hb) hv
  obtain ⟨s, c, vv, rfl, hs, hc, hvv⟩ := h
  obtain ⟨A1, c1, rfl, hs1, hs2⟩ := SeqR.form hs
  obtain ⟨A2, c2, rfl, hc1, hc2⟩ := SeqR.form hc
  obtain ⟨A3, c3, rfl, hv1, hv2⟩ := SeqR.form hvv
  have Hchk := Lib.hid hchk
  have Hvol := Lib.hid hvol
  obtain ⟨a, b, c, e, f⟩ := g
  unfold geoV at *
  simp only at *
  generalize d.safe.length = n1 at *
  generalize d.cache.length = n2 at *
  generalize d.vols.length = n3 at *
  generalize d.fuel = fuel at *
  clear hchk hvol hs hc hvv hd hg hs1 hs2 hc1 hc2 hv1 hv2 hv
  by_cases hq : v = (n3 : Int)
  case' pos =>
    have hfl : decide (v < f) = false := by simp; omega
    have hqq : (v == (n3 : Int)) = true := by simpa using hq
    clear hfr hq
  case' neg =>
    have hqq : (v == (n3 : Int)) = false := by simpa using hq
    clear hfr hq
  all_goals
    go_enter Try.func29, Try.ntmps29
    go_wp2_with fail
    refine (Hchk.out _ (below_al (below_al (below_al (Below.refl _ _) _) _) _)).mono ?_
    rintro e w1 ⟨rfl, hb1⟩
    have hres : Blk w1 (w.heap.size + 1 + 1) 37 #[.slice none 0 0, .slice none 0 0, .slice none 0 0, .int .i64 0] := (Blk.new_at (by simp) _ _).below hb1
    have hd1 : Blk w1 (w.heap.size + 1) 37 #[.slice A1 n1 c1, .slice A2 n2 c2, .slice A3 n3 c3, .int .i64 fuel] := ((Blk.new_at (by simp) _ _).alloc _).below hb1
    have hg1 : Blk w1 w.heap.size 32 #[.int .i64 a, .int .i64 b, .int .i64 c, .int .i64 e, .int .i64 f] := (((Blk.new_at rfl _ _).alloc _).alloc _).below hb1
    have Hb1 := Lib.hid (below_tr (below_al (below_al (below_al (Below.refl _ _) _) _) _) hb1)
    have e0 := hd1.cell 0
    have e1 := hd1.cell 1
    have e2 := hd1.cell 2
    have e3 := hd1.cell 3
    have i4 := hg1.cell 4
    have Hres := Lib.hid hres
    have Hd1 := Lib.hid hd1
    have Hg1 := Lib.hid hg1
    clear hres hd1 hg1 hb1
    go_wp2_with fail
    refine (Hvol.out _ Hb1.out).mono ?_
    rintro e w2 ⟨rfl, hb2⟩
    have hres2 := Hres.out.below hb2
    have z0 := hres2.cell 0
    have z1 := hres2.cell 1
    have z2 := hres2.cell 2
    have z3 := hres2.cell 3
    have y0 := hres2.frozen 0
    have y1 := hres2.frozen 1
    have y2 := hres2.frozen 2
    have y3 := hres2.frozen 3
    have HB2 := Lib.hid (below_tr Hb1.out hb2)
    clear hb2 hres2 e0 e1 e2 e3 i4
    go_wp2
    refine bodyPost_ret (v := .tuple #[zeroDev, .int .i64 6]) (by simp [results, Try.results29, go_sem, zeroDev, z0, z1, z2, z3]) rfl ⟨rfl, ?_⟩
    exact below_put4 HB2.out (by omega)
end Go.Proofs.Ytomfladifefomaa
-- T13: 
namespace Go.Proofs.Ytomfladifefomaa
open Go.RowKit
theorem OwnDev.parts {base : Nat} {w : World} {s c v : Value} {f : Int} {d : Dev} (h : OwnDev base w (.agg #[s, c, v, .int .i64 f]) d) : ∃ (V : World) (css : List (List Value)),
    OwnR RowR 23 1 base V s d.safe ∧ OwnR WrR 61 2 base V c d.cache ∧ KeepX diskX V w ∧ base ≤ V.heap.size ∧
    Els (VolO V.heap.size) 3 w css d.vols ∧ w.ownsRow base 104 3 v d.vols.length css.flatten ∧ Sep css := by
  obtain ⟨s', c', v', V, css, e, hs, hc, hk, hb, he, ho, hp⟩ := h
  cases e
  exact ⟨V, css, hs, hc, hk, hb, he, ho, hp⟩
set_option maxRecDepth 100000 in
set_option maxHeartbeats 1000000 in
theorem append_fresh (g : Geo) (hg : GoodGeo g) (d : Dev) (hd : GoodDev g d) (hf : d.fuel ≠ 0) (dv : Value) (bv : Value) (bs : List UInt8) (w : World) (h : DevR w dv d) (hbv : BytesR w bv bs) (hfr : (d.vols.length : Int) < g.volumes) (hlen : (bs.length : Int) ≤ g.volume) :
    Calls Try.prog 29 #[geoV g, dv, .int .i64 (d.vols.length : Int), bv] w fun e w' => ∃ dv', e = .returned (.tuple #[dv', .int .i64 0]) ∧ DevR w' dv' { spent d with vols := (spent d).vols ++ [⟨bs, 0, false⟩] } ∧ Below w.heap.size w w' := by
  have hchk := fun W (hb : Below w.heap.size w W) => check_good g hg d hd dv W (h.below hb)
  have hspe := fun W (hb : Below w.heap.size w W) => spend_ok g hg d hd hf dv W (h.below hb)
  obtain ⟨l1, l2, l3, _, _, _⟩ := hd.lens hg
  have hgv := hg.v2
  have hgn := hg.n2
  obtain ⟨s, c, vv, rfl, hs, hc, hvv⟩ := h
  obtain ⟨A1, c1, rfl, hs1, hs2⟩ := SeqR.form hs
  obtain ⟨A2, c2, rfl, hc1, hc2⟩ := SeqR.form hc
  obtain ⟨A3, c3, rfl, hv1, hv2⟩ := SeqR.form hvv
  obtain ⟨Ab, cb, rfl, hbl1, hbl2⟩ := bytesR_len hbv
  have Hchk := Lib.hid hchk
  have Hspe := Lib.hid hspe
  have Hbv := Lib.hid hbv
  obtain ⟨a, b, c, e, f⟩ := g
  unfold geoV at *
  simp only at *
  have hsv : (spent d).vols = d.vols := rfl
  have hss : (spent d).safe = d.safe := rfl
  have hsc : (spent d).cache = d.cache := rfl
  generalize hsd : spent d = d' at *
  generalize hn1 : d.safe.length = n1 at *
  generalize hn2 : d.cache.length = n2 at *
  generalize hn3 : d.vols.length = n3 at *
  generalize d.fuel = fuel at *
  have H1 := Lib.hid (show d'.safe.length = n1 by rw [hss, hn1])
  have H2 := Lib.hid (show d'.cache.length = n2 by rw [hsc, hn2])
  have H3 := Lib.hid (show d'.vols.length = n3 by rw [hsv, hn3])
  clear hchk hspe hs hc hvv hd hg hs1 hs2 hc1 hc2 hv1 hv2 hsv hss hsc hsd hn1 hn2 hn3 hf hbv
  generalize hfu : d'.fuel = fuel' at *
  have H4 := Lib.hid hfu
  generalize hbl : bs.length = nb at *
  have Hbl := Lib.hid hbl
  clear hfu hbl
  have hqq : ((n3 : Int) == (n3 : Int)) = true := by simp
  go_enter Try.func29, Try.ntmps29
  go_wp2_with fail
  refine (Hchk.out _ (below_al (below_al (below_al (Below.refl _ _) _) _) _)).mono ?_
  rintro e w1 ⟨rfl, hb1⟩
  have hres : Blk w1 (w.heap.size + 1 + 1) 37 #[.slice none 0 0, .slice none 0 0, .slice none 0 0, .int .i64 0] := (Blk.new_at (by simp) _ _).below hb1
  have hd1 : Blk w1 (w.heap.size + 1) 37 #[.slice A1 n1 c1, .slice A2 n2 c2, .slice A3 n3 c3, .int .i64 fuel] := ((Blk.new_at (by simp) _ _).alloc _).below hb1
  have hg1 : Blk w1 w.heap.size 32 #[.int .i64 a, .int .i64 b, .int .i64 c, .int .i64 e, .int .i64 f] := (((Blk.new_at rfl _ _).alloc _).alloc _).below hb1
  have Hb1 := Lib.hid (below_tr (below_al (below_al (below_al (Below.refl _ _) _) _) _) hb1)
  have e0 := hd1.cell 0
  have e1 := hd1.cell 1
  have e2 := hd1.cell 2
  have e3 := hd1.cell 3
  have i0 := hg1.cell 0
  have i1 := hg1.cell 1
  have i2 := hg1.cell 2
  have i3 := hg1.cell 3
  have i4 := hg1.cell 4
  have Hres := Lib.hid hres
  clear hres hd1 hg1 hb1
  go_wp2_with fail
  refine (Hspe.out _ Hb1.out).mono ?_
  rintro e w3 ⟨dv', rfl, ho, hb3⟩
  have hres3 := Hres.out.below hb3
  obtain ⟨B1, d1, B2, d2, B3, d3, rfl⟩ := ho.form
  rw [H1.out, H2.out, H3.out, H4.out] at ho
  rw [H1.out, H2.out, H3.out, H4.out]
  have z0 := hres3.cell 0
  have z1 := hres3.cell 1
  have z2 := hres3.cell 2
  have z3 := hres3.cell 3
  have y0 := hres3.frozen 0
  have y1 := hres3.frozen 1
  have y2 := hres3.frozen 2
  have y3 := hres3.frozen 3
  have hlr := hres3.lt
  obtain ⟨V, css, hs, hc, hkk, hbb, he, hov, hp⟩ := ho.parts
  clear ho
  obtain ⟨i104, hi', hz0', hz1', hz2'⟩ := info_parts infoVol
  have HK := Lib.hid (And.intro hi' (And.intro hz0' (And.intro hz1' hz2')))
  clear hi' hz0' hz1' hz2'
  rw [H3.out] at hov
  have Hov := Lib.hid hov
  have Hs := Lib.hid hs
  have Hc := Lib.hid hc
  have Hkk := Lib.hid hkk
  have He := Lib.hid he
  have Hp := Lib.hid hp
  have Hres3 := Lib.hid hres3
  have hw1s : w1.heap.size ≤ w3.heap.size := hb3.size
  have Hb3 := Lib.hid (below_tr Hb1.out hb3)
  have hfar : some w3.heap.size ≠ (Value.slice B3 n3 d3).ownBlock := fun q => by have := (hov.lt _ q.symm).2; omega
  have Hfar := Lib.hid hfar
  have hfar2 : some (w.heap.size + 1 + 1) ≠ (Value.slice B3 n3 d3).ownBlock := fun q => by have := (hov.lt _ q.symm).1; have := Hres.out.lt; omega
  have Hfar2 := Lib.hid hfar2
  clear hov hs hc hkk he hp hres3 hb3 e0 e1 e2 e3 i0 i1 i2 i3 i4 hfar hfar2
  obtain ⟨i5, hi', hz0', hz1', hz2'⟩ := info_parts infoU8
  have HU := Lib.hid (And.intro hi' (And.intro hz0' (And.intro hz1' hz2')))
  clear hi' hz0' hz1' hz2'
  have hlB : w1.heap.size ≤ w3.heap.size := hw1s
  go_wp2_with (at_builtin; refine wpList_append_lies _ rfl (.tmp 78) (.tmp 80) _ rfl w1.heap.size 104 i104 _ 3 40 Try.underlying35 HK.out.1 HK.out.2.1 HK.out.2.2.1 HK.out.2.2.2 rfl (by omega) (.slice B3 n3 d3) n3 css.flatten rfl (ownsRow_keep Hov.out (X := fun _ => true) (((KeepX.refl _ w3).alloc _).alloc _) rfl) ⟨w3.heap.size + 1, 0, none⟩ 1 1 [.slice none 0 0, .int .i64 0, .bool false] rfl rfl (World.news_of_block (cs := #[.slice none 0 0, .int .i64 0, .bool false]) (t := 104) (fr := (0, 0)) (Blk.new_at (by simp) _ _)) (by simp [Value.oneCell']) (by omega) (by unfold maxLen; omega) (by omega) (by simp; omega) (w3.heap.size + 1 + 1) (by simp) ?_; intro gg cap w4 hown4 hgr4 hat4 hlt4; have hbx4 : Blk w4 w3.heap.size 37 #[.slice B1 n1 d1, .slice B2 n2 d2, .slice B3 n3 d3, .int .i64 fuel'] := ((Blk.new_at rfl _ _).alloc _).grown hgr4 Hfar.out; have hq4 := hbx4.cell 2; have hf4 := hbx4.frozen 2; have Hbx4 := Lib.hid hbx4; have Hown4 := Lib.hid hown4; have Hgr4 := Lib.hid hgr4; clear hbx4 hown4 hgr4 hat4)
  obtain ⟨cur, hrow, hcs, htk⟩ : ∃ cur, Blk w4 gg 104 cur ∧ cur.size = cap * 3 ∧ cur.toList.take ((n3 + 1) * 3) = css.flatten ++ [Value.slice none 0 0, .int .i64 0, .bool false] := by
    rcases Hown4.out.2 with ⟨e, _⟩ | ⟨g', cap', cur, e, _, hg, _, _, hcs, ht⟩
    · cases e
    · cases e; exact ⟨cur, hg, hcs, ht⟩
  have hcap : n3 + 1 ≤ cap := by
    rcases Hown4.out.2 with ⟨e, _⟩ | ⟨g', cap', cur, e, _, hg, h1, _, hcs, ht⟩
    · cases e
    · cases e; exact h1
  have hfl : css.flatten.length = n3 * 3 := Hov.out.1
  have hcell : cur[n3 * 3]? = some (.slice none 0 0) := by
    have : (cur.toList.take ((n3 + 1) * 3))[n3 * 3]? = some (.slice none 0 0) := by rw [htk, List.getElem?_append_right (by omega), hfl]; simp
    rw [List.getElem?_take_of_lt (by omega), Array.getElem?_toList] at this
    exact this
  have hcell1 : cur[n3 * 3 + 1]? = some (.int .i64 0) := by
    have : (cur.toList.take ((n3 + 1) * 3))[n3 * 3 + 1]? = some (.int .i64 0) := by rw [htk, List.getElem?_append_right (by omega), hfl]; simp
    rw [List.getElem?_take_of_lt (by omega), Array.getElem?_toList] at this
    exact this
  have hcell2 : cur[n3 * 3 + 2]? = some (.bool false) := by
    have : (cur.toList.take ((n3 + 1) * 3))[n3 * 3 + 2]? = some (.bool false) := by rw [htk, List.getElem?_append_right (by omega), hfl]; simp
    rw [List.getElem?_take_of_lt (by omega), Array.getElem?_toList] at this
    exact this
  have Hcell12 := Lib.hid (And.intro hcell1 hcell2)
  clear hcell1 hcell2
  have hgne : gg ≠ w3.heap.size := by
    intro q
    have h1 : w4.heap[gg]? = _ := hrow
    have h2 : w4.heap[w3.heap.size]? = _ := Hbx4.out
    rw [q, h2] at h1
    cases h1
  have hgb : w1.heap.size ≤ gg := (Hown4.out.lt gg rfl).1
  have hbx5 : Blk (w4.setCell ⟨w3.heap.size, 2, none⟩ (.slice (some ⟨gg, 0, none⟩) (n3 + 1) cap)) w3.heap.size 37 #[.slice B1 n1 d1, .slice B2 n2 d2, .slice (some ⟨gg, 0, none⟩) (n3 + 1) cap, .int .i64 fuel'] := Hbx4.out.set_ 2 _
  have hrow5 : Blk (w4.setCell ⟨w3.heap.size, 2, none⟩ (.slice (some ⟨gg, 0, none⟩) (n3 + 1) cap)) gg 104 cur := hrow.far (p := ⟨w3.heap.size, 2, none⟩) hgne _
  have hkx : ∀ X : TypeId → Bool, X 104 = false → X 37 = false → KeepX X w3 (w4.setCell ⟨w3.heap.size, 2, none⟩ (.slice (some ⟨gg, 0, none⟩) (n3 + 1) cap)) := fun X h1 h2 =>
    (((((KeepX.refl X w3).alloc _).alloc _).grown_own (ownsRow_keep Hov.out (X := fun _ => true) (((KeepX.refl _ w3).alloc _).alloc _) rfl) Hgr4.out h1)).setCell (p := ⟨w3.heap.size, 2, none⟩) Hbx4.out h2 _
  have hres5 : Blk (w4.setCell ⟨w3.heap.size, 2, none⟩ (.slice (some ⟨gg, 0, none⟩) (n3 + 1) cap)) (w.heap.size + 1 + 1) 37 #[.slice none 0 0, .slice none 0 0, .slice none 0 0, .int .i64 0] :=
    (((Hres3.out.alloc _).alloc _).grown Hgr4.out Hfar2.out).far (p := ⟨w3.heap.size, 2, none⟩) (by show w.heap.size + 1 + 1 ≠ w3.heap.size; omega) _
  have hbw5 : Below w.heap.size w (w4.setCell ⟨w3.heap.size, 2, none⟩ (.slice (some ⟨gg, 0, none⟩) (n3 + 1) cap)) :=
    (below_grown (below_al (below_al Hb3.out _) _) (ownsRow_keep Hov.out (X := fun _ => true) (((KeepX.refl _ w3).alloc _).alloc _) rfl) Hgr4.out (by have := Hb1.out.size; omega) (by have := Hb3.out.size; simp; omega)).setCell (by have := Hb3.out.size; simp; omega) _
  have hxs : (w4.setCell ⟨w3.heap.size, 2, none⟩ (.slice (some ⟨gg, 0, none⟩) (n3 + 1) cap)).ownsRow w1.heap.size 104 3 (.slice (some ⟨gg, 0, none⟩) (n3 + 1) cap) (n3 + 1) (css ++ [([.slice none 0 0, .int .i64 0, .bool false] : List Value)]).flatten :=
    ownsRow_keep (by rw [List.flatten_append]; simpa using Hown4.out) (X := (· == 104)) ((KeepX.refl _ w4).setCell (p := ⟨w3.heap.size, 2, none⟩) Hbx4.out rfl _) rfl
  generalize w4.setCell ⟨w3.heap.size, 2, none⟩ (.slice (some ⟨gg, 0, none⟩) (n3 + 1) cap) = V5 at *
  have q2 := hbx5.cell 2
  have q3 := (hrow5.cell (n3 * 3)).trans hcell
  have hl5 := hbx5.lt
  have hl6 := hrow5.lt
  have Hbx5 := Lib.hid hbx5
  have Hrow5 := Lib.hid hrow5
  have Hkx := Lib.hid hkx
  have Hres5 := Lib.hid hres5
  have Hbw5 := Lib.hid hbw5
  have Hxs := Lib.hid hxs
  have Hhc := Lib.hid hcell
  have Hcs := Lib.hid hcs
  have Hfl := Lib.hid hfl
  clear hbx5 hrow5 hkx hres5 hbw5 hxs hcell hcs htk hfl hrow hq4 hf4 z0 z1 z2 z3 y0 y1 y2 y3 hgne Hgr4 Hown4 Hbx4 hlt4 w4
  have hq9 : (n3 : Int) < (n3 : Int) + 1 := by omega
  go_wp2_with fail
  go_region_law (refine step_append_tsl _ rfl (.tmp 91) (.tmp 92) _ rfl V5.heap.size 5 i5 _ 1 1 Try.underlying23 HU.out.1 HU.out.2.1 HU.out.2.2.1 HU.out.2.2.2 rfl (by omega) (.slice none 0 0) 0 [] rfl (World.ownsRow_nil _ _ _ _) Ab nb cb (bs.map enc8) rfl (by have := BytesR.keep (X := (· == 5)) rfl ((KeepX.of_below Hb3.out).trans (Hkx.out _ rfl rfl)).drew Hbv.out; unfold BytesR at this; rw [Hbl.out] at this; exact this) (enc8_one bs) (by unfold maxLen; omega) (by omega) (by simp) ?_; intro A' c' w5 hown5 hgr5 hat5; have hb5 : Below V5.heap.size V5 w5 := ((Below.refl _ V5).drew).grown hgr5 (by simp) (by intro k hk; simp [Value.ownBlock] at hk); have hbx6 := Hbx5.out.below hb5; have hrow6 := Hrow5.out.below hb5; have q4 := hbx6.cell 2; have q5 := (hrow6.cell (n3 * 3)).trans Hhc.out; have q6 := hrow6.frozen (n3 * 3); have Hbx6 := Lib.hid hbx6; have Hrow6 := Lib.hid hrow6; have Hown5 := Lib.hid hown5; have Hb5 := Lib.hid hb5; clear hbx6 hrow6 hown5 hb5 hgr5 hat5)
  all_goals
    have hres6 := Hres5.out.below Hb5.out
    have z0 := hres6.cell 0
    have z1 := hres6.cell 1
    have z2 := hres6.cell 2
    have z3 := hres6.cell 3
    have y0 := hres6.frozen 0
    have y1 := hres6.frozen 1
    have y2 := hres6.frozen 2
    have y3 := hres6.frozen 3
    have x0 := Hbx6.out.cell 0
    have x1 := Hbx6.out.cell 1
    have x2 := Hbx6.out.cell 2
    have x3 := Hbx6.out.cell 3
    have hne1 : gg ≠ w3.heap.size := by
      intro q
      have h1 : w5.heap[gg]? = _ := Hrow6.out
      have h2 : w5.heap[w3.heap.size]? = _ := Hbx6.out
      rw [q, h2] at h1
      cases h1
    have hne2 : gg ≠ w.heap.size + 1 + 1 := by
      intro q
      have h1 : w5.heap[gg]? = _ := Hrow6.out
      have h2 : w5.heap[w.heap.size + 1 + 1]? = _ := hres6
      rw [q, h2] at h1
      cases h1
    have Hres6 := Lib.hid hres6
    clear hres6
    go_wp2
    refine bodyPost_ret (v := .tuple #[.agg #[.slice B1 n1 d1, .slice B2 n2 d2, .slice (some ⟨gg, 0, none⟩) (n3 + 1) cap, .int .i64 fuel'], .int .i64 0]) (by simp [results, Try.results29, go_sem, z0, z1, z2, z3]) rfl ⟨_, rfl, ?_, ?_⟩
    · have hR : Blk (w5.setCell ⟨gg, n3 * 3, none⟩ (.slice A' nb c')) (w.heap.size + 1 + 1) 37 _ := Hres6.out.far (p := ⟨gg, n3 * 3, none⟩) (fun e => hne2 e.symm) _
      have hK : ∀ X : TypeId → Bool, X 104 = false → ∀ Z, KeepX X Z w5 → KeepX X Z (w5.setCell ⟨gg, n3 * 3, none⟩ (.slice A' nb c')) := fun X hX Z hz => hz.setCell (p := ⟨gg, n3 * 3, none⟩) Hrow6.out hX _
      have hK3 : ∀ X : TypeId → Bool, X 104 = false → X 37 = false → KeepX X w3 (w5.setCell ⟨gg, n3 * 3, none⟩ (.slice A' nb c')) := fun X h1 h2 => hK X h1 _ ((Hkx.out X h1 h2).trans (KeepX.of_below Hb5.out))
      have hKd : KeepX diskX V (w5.setCell ⟨gg, n3 * 3, none⟩ (.slice A' nb c')) := Hkk.out.trans (hK3 _ rfl rfl)
      have hcl : css.length = n3 := by rw [He.out.1, H3.out]
      refine DevR.keep (X := devX) rfl rfl rfl rfl (keep_put4 (KeepX.refl _ _) hR rfl) ⟨_, _, _, rfl, SeqR.keep Hs.out.seq (rowR_stays rfl) rfl hKd, SeqR.keep Hc.out.seq (wrR_stays rfl) rfl hKd, css ++ [[.slice A' nb c', .int .i64 0, .bool false]], ?_, ?_⟩
      · refine Els.snoc ⟨He.out.1, He.out.2.1, fun i cs x h1 h2 => ?_⟩ rfl ⟨_, rfl, ?_⟩
        · obtain ⟨u, e, h⟩ := volO_stays (X := (· == 5)) rfl _ _ _ _ (hK3 _ rfl rfl) (He.out.2.2 i cs x h1 h2)
          exact ⟨u, e, TSl.of_own h⟩
        · unfold BytesR
          rw [Hbl.out]
          exact TSl.keep (X := (· == 5)) (TSl.of_own (by simpa using Hown5.out)) (hK _ rfl _ (KeepX.refl _ _)) rfl
      · show TSl _ _ _ (d'.vols ++ [_]).length _ _
        rw [List.length_append, H3.out]
        have hput := ownsRow_put (w' := w5.setCell ⟨gg, n3 * 3, none⟩ (.slice A' nb c')) (k := n3) (cs := [.slice A' nb c', .int .i64 0, .bool false]) (ownsRow_keep Hxs.out (X := fun _ => true) (KeepX.of_below Hb5.out) rfl) (by omega) (by
          intro c hc
          rcases List.mem_append.1 hc with hc | hc
          · exact He.out.2.1 c hc
          · simp at hc; subst hc; rfl) rfl (by simp [hcl]) Hrow6.out (Hrow6.out.set_ (n3 * 3) (.slice A' nb c')) (by simp) ?_ ?_
        · have hset : (css ++ [[Value.slice none 0 0, .int .i64 0, .bool false]]).set n3 [.slice A' nb c', .int .i64 0, .bool false] = css ++ [[.slice A' nb c', .int .i64 0, .bool false]] := by
            rw [← hcl, List.set_append_right _ _ (Nat.le_refl _)]; simp
          rw [hset] at hput
          exact TSl.of_own hput
        · intro j hj
          have hlc : n3 * 3 + 2 < cur.size := by have := (Array.getElem?_eq_some_iff.1 Hcell12.out.2).1; exact this
          match j, hj with
          | 0, _ => rw [Array.getElem?_setIfInBounds, if_pos (by omega), if_pos (by omega)]; rfl
          | 1, _ => rw [Array.getElem?_setIfInBounds, if_neg (by omega)]; exact Hcell12.out.1
          | 2, _ => rw [Array.getElem?_setIfInBounds, if_neg (by omega)]; exact Hcell12.out.2
        · intro i hi
          rw [Array.getElem?_setIfInBounds, if_neg (by omega)]
    · exact below_put4 (((Hbw5.out.trans (Hb5.out.mono Hbw5.out.size))).setCell (p := ⟨gg, n3 * 3, none⟩) (by have := Hb1.out.size; show w.heap.size ≤ gg; omega) _) (by omega)
end Go.Proofs.Ytomfladifefomaa
-- T14: 
namespace Go.Proofs.Ytomfladifefomaa
open Go.RowKit
set_option maxRecDepth 100000 in
set_option maxHeartbeats 1000000 in
theorem fetch_none (g : Geo) (hg : GoodGeo g) (d : Dev) (hd : GoodDev g d) (dv : Value) (v at_ n : Int) (w : World) (h : DevR w dv d) (hv : volOk d v = false) :
    Calls Try.prog 31 #[geoV g, dv, .int .i64 v, .int .i64 at_, .int .i64 n] w fun e w' => e = .returned (.tuple #[.slice none 0 0, .int .i64 6]) ∧ Below w.heap.size w w' := by
  have hchk := fun W (hb : Below w.heap.size w W) => check_good g hg d hd dv W (h.below hb)
  have hvol := fun W (hb : Below w.heap.size w W) => volume_no dv d v W (h.below hb) hv
  obtain ⟨s, c, vv, rfl, hs, hc, hvv⟩ := h
  obtain ⟨A1, c1, rfl, hs1, hs2⟩ := SeqR.form hs
  obtain ⟨A2, c2, rfl, hc1, hc2⟩ := SeqR.form hc
  obtain ⟨A3, c3, rfl, hv1, hv2⟩ := SeqR.form hvv
  have Hchk := Lib.hid hchk
  have Hvol := Lib.hid hvol
  obtain ⟨a, b, c, e, f⟩ := g
  unfold geoV at *
  simp only at *
  generalize d.safe.length = n1 at *
  generalize d.cache.length = n2 at *
  generalize d.vols.length = n3 at *
  generalize d.fuel = fuel at *
  clear hchk hvol hs hc hvv hd hg hs1 hs2 hc1 hc2 hv1 hv2 hv
  go_enter Try.func31, Try.ntmps31
  go_wp2_with (first
    | (go_at_call 35; refine (Hchk.out _ (below_al (below_al (Below.refl _ _) _) _)).mono ?_; rintro e w1 ⟨rfl, hb1⟩; obtain ⟨hx1, hy1, hz1, HB1⟩ := bcell hb1; have Hb1 := Lib.hid (below_tr (below_al (below_al (Below.refl _ _) _) _) hb1); clear hb1; simp at hz1)
    | (go_at_call 59; refine (Hvol.out _ Hb1.out).mono ?_; rintro e w2 ⟨rfl, hb2⟩; have HB2 := Lib.hid (below_tr Hb1.out hb2); clear hb2 hx1 hy1))
  go_ret2
  exact ⟨rfl, HB2.out⟩
end Go.Proofs.Ytomfladifefomaa
-- T15: 
namespace Go.Proofs.Ytomfladifefomaa
open Go.RowKit
theorem conv_run (W : World) (s : ByteArray) : (convert 9 23 (.string s)).run Try.prog W = .ok (.slice (some ⟨W.heap.size, 0, none⟩) s.size (grownCap W s.size 0 5)) (Lib.bytesWorld W 5 s) :=
  Lib.run_convert_string_bytes (P := Try.prog) W 9 23 5 s Try.underlying9 Try.underlying23 Try.underlying5
theorem conv_below (W : World) (e : TypeId) (s : ByteArray) : Below W.heap.size W (Lib.bytesWorld W e s) := by
  refine ⟨?_, ?_, ?_, by rw [Lib.bytesWorld_size]; omega, fun k hk => Lib.bytesWorld_at_old W e s k hk⟩
  all_goals
    unfold Lib.bytesWorld World.freeze
    rw [if_neg (by omega)]
    rfl
theorem conv_bytes (W : World) (s : ByteArray) (h : s.size ≤ 1000000) : BytesR (Lib.bytesWorld W 5 s) (.slice (some ⟨W.heap.size, 0, none⟩) s.size (grownCap W s.size 0 5)) s.data.toList := by
  have hl : s.data.toList.length = s.size := by rw [Array.length_toList]; rfl
  unfold BytesR
  rw [hl]
  refine ⟨_, _, rfl, grownCap_ge W s.size 0 _, grownCap_le_maxLen W s.size 0 _ (by unfold maxLen; omega), by simp [hl], fun _ => ⟨_, 0, _, _, rfl, Lib.bytesWorld_at_new W _ s, fun j u hu => ?_⟩⟩
  have hj : j < s.data.toList.length := by simpa using (List.getElem?_eq_some_iff.1 hu).1
  rw [Nat.zero_add]
  unfold Lib.bytesCells
  rw [Array.getElem?_append_left (by simpa using hj), ← hu]
  simp
  rfl
theorem conv_bytes_at (W : World) (s : ByteArray) (m : Nat) (hm : s.size = m) (h : m ≤ 1000000) : BytesR (Lib.bytesWorld W 5 s) (.slice (some ⟨W.heap.size, 0, none⟩) m (grownCap W m 0 5)) s.data.toList := by
  subst hm; exact conv_bytes W s h
/-- small devices with so many volumes of the same bytes -/
def tg (bs : List UInt8) (v : Nat) : Dev := { newDev smallGeo with vols := List.replicate v ⟨bs, 0, false⟩ }
theorem tg_succ (bs : List UInt8) (v : Nat) : ({ spent (tg bs v) with vols := (spent (tg bs v)).vols ++ [⟨bs, 0, false⟩] } : Dev) = tg bs (v + 1) := by
  simp [tg, spent, newDev, List.replicate_succ']
theorem newGood (g : Geo) (hg : GoodGeo g) : GoodDev g (newDev g) := by
  have hS0 : 0 ≤ sectorsOf g := by
    have := hg.r1; have := hg.a1; have := hg.h1; unfold sectorsOf; omega
  refine ⟨?_, ?_, by simp [newDev], by simp [newDev], ?_, by simp [newDev], by simp [newDev], by simp [newDev]⟩
  · simp [newDev]; omega
  · intro s hs
    have : s = zeros := (List.mem_replicate.1 hs).2
    rw [this]; simp [zeros]
  · have := hg.n1
    simp [newDev]; omega
theorem tg_good (bs : List UInt8) (v : Nat) (hv : v ≤ 3) (hb : bs.length ≤ 50) : GoodDev smallGeo (tg bs v) := by
  have h := newGood smallGeo smallGood
  refine ⟨h.safe, h.rows, h.most, h.cache, ?_, ?_, h.f1, h.f2⟩
  · show ((List.replicate v _).length : Int) ≤ 3
    rw [List.length_replicate]; omega
  · intro x hx
    have : x = ⟨bs, 0, false⟩ := (List.mem_replicate.1 hx).2
    subst this
    show vBad bs.length 0 false 300 = false
    simp [vBad]; omega
theorem tg_len (bs : List UInt8) (v : Nat) : (tg bs v).vols.length = v := by simp [tg]
theorem tg_fuel (bs : List UInt8) (v : Nat) : (tg bs v).fuel ≠ 0 := by simp [tg, newDev]
theorem tg_at (bs : List UInt8) (v k : Nat) (h : k < v) : (tg bs v).vols[k]? = some ⟨bs, 0, false⟩ := by simp [tg, h]
end Go.Proofs.Ytomfladifefomaa
