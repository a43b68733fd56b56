import Derived.Test.YtomfladifefomaaRows
import Derived.Test.YtomfladifefomaaMem
import Derived.Test.YtomfladifefomaaT4
import Derived.Deep.RegionHeld3
namespace Go.Proofs.Ytomfladifefomaa
open Go.RowKit
structure Geo where
  ring : Int
  area : Int
  hot : Int
  volume : Int
  volumes : Int
structure GoodGeo (g : Geo) : Prop where
  r1 : 4 ≤ g.ring
  r2 : g.ring ≤ 60
  a1 : 2 ≤ g.area
  a2 : g.area ≤ 80
  h1 : 2 ≤ g.hot
  h2 : g.hot ≤ 200
  v1 : 100 ≤ g.volume
  v2 : g.volume ≤ 4000
  n1 : 1 ≤ g.volumes
  n2 : g.volumes ≤ 8
def geoV (g : Geo) : Value := .agg #[.int .i64 g.ring, .int .i64 g.area, .int .i64 g.hot, .int .i64 g.volume, .int .i64 g.volumes]
def sectorsOf (g : Geo) : Int := 2 + g.ring + 2 * g.area + g.hot
structure GoodDev (g : Geo) (d : Dev) : Prop where
  safe : (d.safe.length : Int) = sectorsOf g
  rows : ∀ s ∈ d.safe, s.length = 64
  most : d.cache.length ≤ 2000
  cache : ∀ x ∈ d.cache, wBad x.at_ d.safe.length x.data.length = false
  many : (d.vols.length : Int) ≤ g.volumes
  vols : ∀ x ∈ d.vols, vBad x.data.length x.synced x.gone g.volume = false
  f1 : -1 ≤ d.fuel
  f2 : d.fuel ≤ 1048576
/-- devices in memory -/
def DevR (w : World) (dv : Value) (d : Dev) : Prop := ∃ s c v, dv = .agg #[s, c, v, .int .i64 d.fuel] ∧ RowsR w s d.safe ∧ WrsR w c d.cache ∧ VolsR w v d.vols
/-- the types of blocks that devices lie in -/
def devX (t : TypeId) : Bool := t == 5 || t == 23 || t == 61 || t == 104
theorem DevR.keep {X : TypeId → Bool} (h5 : X 5 = true) (h23 : X 23 = true) (h61 : X 61 = true) (h104 : X 104 = true) {w w' : World} {dv : Value} {d : Dev} (hk : KeepX X w w') (h : DevR w dv d) : DevR w' dv d := by
  obtain ⟨s, c, v, rfl, h1, h2, h3⟩ := h
  exact ⟨s, c, v, rfl, SeqR.keep h1 (rowR_stays h5) h23 hk, SeqR.keep h2 (wrR_stays h5) h61 hk, SeqR.keep h3 (volR_stays h5) h104 hk⟩
theorem DevR.below {w w' : World} {dv : Value} {d : Dev} (h : DevR w dv d) (hb : Below w.heap.size w w') : DevR w' dv d :=
  h.keep (X := fun _ => true) rfl rfl rfl rfl (KeepX.of_below hb)

set_option maxHeartbeats 1000000 in
theorem geo_good (g : Geo) (hg : GoodGeo g) (w : World) : Calls Try.prog 36 #[geoV g] w fun e w' => e = .returned (.int .i64 0) ∧ Below w.heap.size w w' := by
  obtain ⟨a, b, c, d, e⟩ := g
  obtain ⟨h1, h2, h3, h4, h5, h6, h7, h8, h9, h10⟩ := hg
  simp only at h1 h2 h3 h4 h5 h6 h7 h8 h9 h10
  unfold geoV
  simp only
  go_enter Try.func36, Try.ntmps36
  go_wp2
  refine wp_loop_rounds 6 ?_
  iterate 6 (rw [rounds_succ]; go_wp2)
  go_ret
  refine ⟨rfl, ?_⟩
  repeat (first | exact Below.refl _ _ | refine below_al ?_ _)
theorem sectors_any (g : Geo) (hg : GoodGeo g) (w : World) : Calls Try.prog 58 #[geoV g] w fun e w' => e = .returned (.int .i64 (sectorsOf g)) ∧ Below w.heap.size w w' := by
  obtain ⟨a, b, c, d, e⟩ := g
  obtain ⟨h1, h2, h3, h4, h5, h6, h7, h8, h9, h10⟩ := hg
  simp only at h1 h2 h3 h4 h5 h6 h7 h8 h9 h10
  unfold geoV sectorsOf
  simp only
  go_enter Try.func58, Try.ntmps58
  go_wp2
  go_ret
  exact ⟨rfl, below_al (Below.refl _ _) _⟩
end Go.Proofs.Ytomfladifefomaa
