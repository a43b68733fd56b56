import Derived.Test.YtomfladifefomaaRows
import Derived.Test.YtomfladifefomaaMem
import Derived.Test.YtomfladifefomaaT11
import Derived.Deep.RegionLaw
namespace Go.Proofs.Ytomfladifefomaa
open Go.RowKit
set_option maxRecDepth 100000 in
set_option maxHeartbeats 1000000 in
theorem append_none (g : Geo) (hg : GoodGeo g) (d : Dev) (hd : GoodDev g d) (dv : Value) (v : Int) (bv : Value) (w : World) (h : DevR w dv d) (hv : volOk d v = false) (hfr : ¬ (v = (d.vols.length : Int) ∧ v < g.volumes)) :
    Calls Try.prog 29 #[geoV g, dv, .int .i64 v, bv] w fun e w' => e = .returned (.tuple #[zeroDev, .int .i64 6]) ∧ Below w.heap.size w w' := by
  have hchk := fun W (hb : Below w.heap.size w W) => check_good g hg d hd dv W (h.below hb)
  have hvol := fun W (hb : Below w.heap.size w W) => volume_no dv d v W (h.below hb) hv
  obtain ⟨s, c, vv, rfl, hs, hc, hvv⟩ := h
  obtain ⟨A1, c1, rfl, hs1, hs2⟩ := SeqR.form hs
  obtain ⟨A2, c2, rfl, hc1, hc2⟩ := SeqR.form hc
  obtain ⟨A3, c3, rfl, hv1, hv2⟩ := SeqR.form hvv
  have Hchk := Lib.hid hchk
  have Hvol := Lib.hid hvol
  obtain ⟨a, b, c, e, f⟩ := g
  unfold geoV at *
  simp only at *
  generalize d.safe.length = n1 at *
  generalize d.cache.length = n2 at *
  generalize d.vols.length = n3 at *
  generalize d.fuel = fuel at *
  clear hchk hvol hs hc hvv hd hg hs1 hs2 hc1 hc2 hv1 hv2 hv
  by_cases hq : v = (n3 : Int)
  case' pos =>
    have hfl : decide (v < f) = false := by simp; omega
    have hqq : (v == (n3 : Int)) = true := by simpa using hq
    clear hfr hq
  case' neg =>
    have hqq : (v == (n3 : Int)) = false := by simpa using hq
    clear hfr hq
  all_goals
    go_enter Try.func29, Try.ntmps29
    go_wp2_with fail
    refine (Hchk.out _ (below_al (below_al (below_al (Below.refl _ _) _) _) _)).mono ?_
    rintro e w1 ⟨rfl, hb1⟩
    have hres : Blk w1 (w.heap.size + 1 + 1) 37 #[.slice none 0 0, .slice none 0 0, .slice none 0 0, .int .i64 0] := (Blk.new_at (by simp) _ _).below hb1
    have hd1 : Blk w1 (w.heap.size + 1) 37 #[.slice A1 n1 c1, .slice A2 n2 c2, .slice A3 n3 c3, .int .i64 fuel] := ((Blk.new_at (by simp) _ _).alloc _).below hb1
    have hg1 : Blk w1 w.heap.size 32 #[.int .i64 a, .int .i64 b, .int .i64 c, .int .i64 e, .int .i64 f] := (((Blk.new_at rfl _ _).alloc _).alloc _).below hb1
    have Hb1 := Lib.hid (below_tr (below_al (below_al (below_al (Below.refl _ _) _) _) _) hb1)
    have e0 := hd1.cell 0
    have e1 := hd1.cell 1
    have e2 := hd1.cell 2
    have e3 := hd1.cell 3
    have i4 := hg1.cell 4
    have Hres := Lib.hid hres
    have Hd1 := Lib.hid hd1
    have Hg1 := Lib.hid hg1
    clear hres hd1 hg1 hb1
    go_wp2_with fail
    refine (Hvol.out _ Hb1.out).mono ?_
    rintro e w2 ⟨rfl, hb2⟩
    have hres2 := Hres.out.below hb2
    have z0 := hres2.cell 0
    have z1 := hres2.cell 1
    have z2 := hres2.cell 2
    have z3 := hres2.cell 3
    have y0 := hres2.frozen 0
    have y1 := hres2.frozen 1
    have y2 := hres2.frozen 2
    have y3 := hres2.frozen 3
    have HB2 := Lib.hid (below_tr Hb1.out hb2)
    clear hb2 hres2 e0 e1 e2 e3 i4
    go_wp2
    refine bodyPost_ret (v := .tuple #[zeroDev, .int .i64 6]) (by simp [results, Try.results29, go_sem, zeroDev, z0, z1, z2, z3]) rfl ⟨rfl, ?_⟩
    exact below_put4 HB2.out (by omega)
end Go.Proofs.Ytomfladifefomaa
