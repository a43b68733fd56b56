import Derived.Test.YtomfladifefomaaRows
import Derived.Test.YtomfladifefomaaMem
import Derived.Test.YtomfladifefomaaT13
import Derived.Test.YtomfladifefomaaPackBad
namespace Go.Proofs.Ytomfladifefomaa
open Go.RowKit
set_option maxRecDepth 100000 in
set_option maxHeartbeats 1000000 in
theorem fetch_none (g : Geo) (hg : GoodGeo g) (d : Dev) (hd : GoodDev g d) (dv : Value) (v at_ n : Int) (w : World) (h : DevR w dv d) (hv : volOk d v = false) :
    Calls Try.prog 31 #[geoV g, dv, .int .i64 v, .int .i64 at_, .int .i64 n] w fun e w' => e = .returned (.tuple #[.slice none 0 0, .int .i64 6]) ∧ Below w.heap.size w w' := by
  have hchk := fun W (hb : Below w.heap.size w W) => check_good g hg d hd dv W (h.below hb)
  have hvol := fun W (hb : Below w.heap.size w W) => volume_no dv d v W (h.below hb) hv
  obtain ⟨s, c, vv, rfl, hs, hc, hvv⟩ := h
  obtain ⟨A1, c1, rfl, hs1, hs2⟩ := SeqR.form hs
  obtain ⟨A2, c2, rfl, hc1, hc2⟩ := SeqR.form hc
  obtain ⟨A3, c3, rfl, hv1, hv2⟩ := SeqR.form hvv
  have Hchk := Lib.hid hchk
  have Hvol := Lib.hid hvol
  obtain ⟨a, b, c, e, f⟩ := g
  unfold geoV at *
  simp only at *
  generalize d.safe.length = n1 at *
  generalize d.cache.length = n2 at *
  generalize d.vols.length = n3 at *
  generalize d.fuel = fuel at *
  clear hchk hvol hs hc hvv hd hg hs1 hs2 hc1 hc2 hv1 hv2 hv
  go_enter Try.func31, Try.ntmps31
  go_wp2_with (first
    | (go_at_call 35; refine (Hchk.out _ (below_al (below_al (Below.refl _ _) _) _)).mono ?_; rintro e w1 ⟨rfl, hb1⟩; obtain ⟨hx1, hy1, hz1, HB1⟩ := bcell hb1; have Hb1 := Lib.hid (below_tr (below_al (below_al (Below.refl _ _) _) _) hb1); clear hb1; simp at hz1)
    | (go_at_call 59; refine (Hvol.out _ Hb1.out).mono ?_; rintro e w2 ⟨rfl, hb2⟩; have HB2 := Lib.hid (below_tr Hb1.out hb2); clear hb2 hx1 hy1))
  go_ret2
  exact ⟨rfl, HB2.out⟩
end Go.Proofs.Ytomfladifefomaa
