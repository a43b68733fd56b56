import Derived.Test.YtomfladifefomaaRows
import Derived.Test.YtomfladifefomaaMem
import Derived.Test.YtomfladifefomaaT9
namespace Go.Proofs.Ytomfladifefomaa
open Go.RowKit
set_option maxRecDepth 100000 in
set_option maxHeartbeats 800000 in
theorem volume_out (dv : Value) (d : Dev) (v : Int) (w : World) (h : DevR w dv d) (hv : v < 0 ∨ (d.vols.length : Int) ≤ v) :
    Calls Try.prog 59 #[dv, .int .i64 v] w fun e w' => e = .returned (.bool false) ∧ Below w.heap.size w w' := by
  obtain ⟨s, c, vv, rfl, hs, hc, hvv⟩ := h
  obtain ⟨A1, c1, rfl, hs1, hs2⟩ := SeqR.form hs
  obtain ⟨A2, c2, rfl, hc1, hc2⟩ := SeqR.form hc
  obtain ⟨A3, c3, rfl, hv1, hv2⟩ := SeqR.form hvv
  generalize d.safe.length = n1 at *
  generalize d.cache.length = n2 at *
  generalize d.vols.length = n3 at *
  clear hs hc hvv
  by_cases h0 : v < 0
  · clear hv
    have hq : decide (0 ≤ v) = false := by simp; omega
    go_enter Try.func59, Try.ntmps59
    go_wp2
    go_ret
    exact ⟨rfl, below_al (Below.refl _ _) _⟩
  · have h1 : (n3 : Int) ≤ v := by omega
    have hq : decide (v < (n3 : Int)) = false := by simp; omega
    clear hv
    go_enter Try.func59, Try.ntmps59
    go_wp2
    go_ret
    exact ⟨rfl, below_al (Below.refl _ _) _⟩
set_option maxRecDepth 100000 in
set_option maxHeartbeats 800000 in
theorem volume_in (dv : Value) (d : Dev) (k : Nat) (x : Vol) (w : World) (h : DevR w dv d) (hx : d.vols[k]? = some x) :
    Calls Try.prog 59 #[dv, .int .i64 k] w fun e w' => e = .returned (.bool (!x.gone)) ∧ Below w.heap.size w w' := by
  obtain ⟨s, c, vv, rfl, hs, hc, hvv⟩ := h
  obtain ⟨A1, c1, rfl, hs1, hs2⟩ := SeqR.form hs
  obtain ⟨A2, c2, rfl, hc1, hc2⟩ := SeqR.form hc
  obtain ⟨A3, c3, rfl, hv1, hv2⟩ := SeqR.form hvv
  have hlt : k < d.vols.length := (List.getElem?_eq_some_iff.1 hx).1
  obtain ⟨g, o, cs, rfl, hg, hl, ⟨u, rfl, hu⟩, hcell⟩ := SeqR.at_ hvv hx
  have hcell2 := hcell 2 _ rfl
  generalize d.safe.length = n1 at *
  generalize d.cache.length = n2 at *
  generalize d.vols.length = n3 at *
  clear hs hc hvv hcell hu hx hl
  cases hgo : x.gone
  all_goals
    rw [hgo] at hcell2
    clear hgo
    go_enter Try.func59, Try.ntmps59
    go_wp2
    go_ret
    exact ⟨rfl, below_al (Below.refl _ _) _⟩
def smallGeo : Geo := ⟨6, 2, 6, 300, 3⟩
theorem smallGood : GoodGeo smallGeo := by constructor <;> decide
theorem small_any (w : World) : Calls Try.prog 27 #[] w fun e w' => e = .returned (geoV smallGeo) ∧ Below w.heap.size w w' := by
  go_enter Try.func27, Try.ntmps27
  go_wp2
  refine bodyPost_ret (v := geoV smallGeo) (by simp [results, Try.results27, go_sem, geoV, smallGeo]) rfl ⟨rfl, ?_⟩
  repeat (first | exact Below.refl _ _ | refine below_al ?_ _)
end Go.Proofs.Ytomfladifefomaa
