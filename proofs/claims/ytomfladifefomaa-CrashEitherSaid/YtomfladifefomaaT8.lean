import Derived.Test.YtomfladifefomaaRows
import Derived.Test.YtomfladifefomaaMem
import Derived.Test.YtomfladifefomaaT7
namespace Go.Proofs.Ytomfladifefomaa
open Go.RowKit
theorem OwnDev.devR {base : Nat} {w : World} {dv : Value} {d : Dev} (h : OwnDev base w dv d) : DevR w dv d := by
  obtain ⟨s, c, v, V, css, rfl, hs, hc, hk, _, he, ho, _⟩ := h
  refine ⟨s, c, v, rfl, SeqR.keep hs.seq (rowR_stays rfl) rfl hk, SeqR.keep hc.seq (wrR_stays rfl) rfl hk, css, ⟨he.1, he.2.1, fun i cs x h1 h2 => ?_⟩, TSl.of_own ho⟩
  obtain ⟨u, e, h⟩ := he.2.2 i cs x h1 h2
  exact ⟨u, e, TSl.of_own h⟩
theorem diskX_devX : ∀ t, diskX t = true → devX t = true := by
  intro t h
  simp only [diskX, devX, Bool.or_eq_true] at *
  rcases h with (h | h) | h
  · exact .inl (.inl (.inl h))
  · exact .inl (.inl (.inr h))
  · exact .inl (.inr h)
theorem OwnDev.keep {base : Nat} {w w' : World} {dv : Value} {d : Dev} (h : OwnDev base w dv d) (hk : KeepX devX w w') : OwnDev base w' dv d := by
  obtain ⟨s, c, v, V, css, rfl, hs, hc, hv, hb, he, ho, hp⟩ := h
  exact ⟨s, c, v, V, css, rfl, hs, hc, hv.trans (hk.weak diskX_devX), hb, he.keep (volO_stays (X := devX) rfl) hk, ownsRow_keep ho hk rfl, hp⟩
theorem OwnDev.base_mono {base b : Nat} {w : World} {dv : Value} {d : Dev} (h : OwnDev base w dv d) (hb : b ≤ base) : OwnDev b w dv d := by
  obtain ⟨s, c, v, V, css, rfl, hs, hc, hv, hb', he, ho, hp⟩ := h
  exact ⟨s, c, v, V, css, rfl, hs.base_mono hb, hc.base_mono hb, hv, by omega, he, ownsRow_base ho hb, hp⟩
/-- the form of such a value -/
theorem OwnDev.form {base : Nat} {w : World} {dv : Value} {d : Dev} (h : OwnDev base w dv d) : ∃ A1 c1 A2 c2 A3 c3, dv = .agg #[.slice A1 d.safe.length c1, .slice A2 d.cache.length c2, .slice A3 d.vols.length c3, .int .i64 d.fuel] := by
  obtain ⟨s, c, v, V, css, rfl, hs, hc, hv, hb', he, ho, hp⟩ := h
  obtain ⟨A1, c1, rfl, _⟩ := SeqR.form hs.seq
  obtain ⟨A2, c2, rfl, _⟩ := SeqR.form hc.seq
  obtain ⟨A3, c3, rfl, _⟩ := ownsRow_form ho
  exact ⟨A1, c1, A2, c2, A3, c3, rfl⟩
theorem OwnDev.fuel {base : Nat} {w : World} {s c v : Value} {d : Dev} {n : Int} (h : OwnDev base w (.agg #[s, c, v, .int .i64 n]) d) (m : Int) : OwnDev base w (.agg #[s, c, v, .int .i64 m]) { d with fuel := m } := by
  obtain ⟨s, c, v, V, css, e, hs, hc, hv, hb', he, ho, hp⟩ := h
  cases e
  exact ⟨s, c, v, V, css, rfl, hs, hc, hv, hb', he, ho, hp⟩
section
variable {w : World} {b : Nat} {t : TypeId} {cs : Array Value} {a0 a1 a2 a3 : Value}
theorem keep_put4 {X : TypeId → Bool} {Z : World} (hk : KeepX X Z w) (h : Blk w b t cs) (hx : X t = false) : KeepX X Z ((((w.setCell ⟨b, 0, none⟩ a0).setCell ⟨b, 1, none⟩ a1).setCell ⟨b, 2, none⟩ a2).setCell ⟨b, 3, none⟩ a3) :=
  (((hk.setCell (p := ⟨b, 0, none⟩) h hx _).setCell (p := ⟨b, 1, none⟩) (h.set_ 0 _) hx _).setCell (p := ⟨b, 2, none⟩) ((h.set_ 0 _).set_ 1 _) hx _).setCell (p := ⟨b, 3, none⟩) (((h.set_ 0 _).set_ 1 _).set_ 2 _) hx _
theorem below_put4 {B : Nat} {Z : World} (hk : Below B Z w) (h : B ≤ b) : Below B Z ((((w.setCell ⟨b, 0, none⟩ a0).setCell ⟨b, 1, none⟩ a1).setCell ⟨b, 2, none⟩ a2).setCell ⟨b, 3, none⟩ a3) :=
  (((hk.setCell (p := ⟨b, 0, none⟩) h _).setCell (p := ⟨b, 1, none⟩) h _).setCell (p := ⟨b, 2, none⟩) h _).setCell (p := ⟨b, 3, none⟩) h _
end
def zeroDev : Value := .agg #[.slice none 0 0, .slice none 0 0, .slice none 0 0, .int .i64 0]
def spent (d : Dev) : Dev := { d with fuel := if 0 < d.fuel then d.fuel - 1 else d.fuel }
theorem GoodDev.lens {g : Geo} {d : Dev} (hg : GoodGeo g) (hd : GoodDev g d) : d.safe.length ≤ 100000 ∧ d.cache.length ≤ 100000 ∧ d.vols.length ≤ 100000 ∧ (∀ s ∈ d.safe, s.length ≤ 100000) ∧ (∀ x ∈ d.cache, x.data.length ≤ 100000) ∧ (∀ x ∈ d.vols, x.data.length ≤ 100000) := by
  have h1 := hd.safe
  have h2 := hg
  unfold sectorsOf at h1
  refine ⟨by have := hg.r2; have := hg.a2; have := hg.h2; omega, by have := hd.most; omega, by have := hd.many; have := hg.n2; omega, fun s hs => by have := hd.rows s hs; omega, fun x hx => ?_, fun x hx => ?_⟩
  · have := hd.cache x hx
    simp [wBad] at this; omega
  · have := hd.vols x hx
    have := hg.v2
    simp [vBad] at *; omega
set_option maxRecDepth 100000 in
set_option maxHeartbeats 1000000 in
theorem spend_down (g : Geo) (hg : GoodGeo g) (d : Dev) (hd : GoodDev g d) (hf : d.fuel = 0) (dv : Value) (w : World) (h : DevR w dv d) :
    Calls Try.prog 60 #[geoV g, dv] w fun e w' => e = .returned (.tuple #[zeroDev, .int .i64 10]) ∧ Below w.heap.size w w' := by
  have hchk := fun W (hb : Below w.heap.size w W) => check_good g hg d hd dv W (h.below hb)
  obtain ⟨s, c, v, rfl, hs, hc, hv⟩ := h
  obtain ⟨A1, c1, rfl, hs1, hs2⟩ := SeqR.form hs
  obtain ⟨A2, c2, rfl, hc1, hc2⟩ := SeqR.form hc
  obtain ⟨A3, c3, rfl, hv1, hv2⟩ := SeqR.form hv
  obtain ⟨safe, cache, vols, fuel⟩ := d
  simp only at hf
  subst hf
  simp only at *
  obtain ⟨a, b, c, e, f⟩ := g
  unfold geoV at *
  simp only at *
  generalize safe.length = n1 at *
  generalize cache.length = n2 at *
  generalize vols.length = n3 at *
  have Hchk := Lib.hid hchk
  clear hchk hs hc hv hd hg
  go_enter Try.func60, Try.ntmps60
  go_wp2_with (go_at_call 35; refine (Hchk.out _ (below_al (below_al (below_al (Below.refl _ _) _) _) _)).mono ?_; rintro e w1 ⟨rfl, hb1⟩; have hres : Blk w1 (w.heap.size + 1 + 1) 37 #[.slice none 0 0, .slice none 0 0, .slice none 0 0, .int .i64 0] := (Blk.new_at (by simp) _ _).below hb1; have z0 := hres.cell 0; have z1 := hres.cell 1; have z2 := hres.cell 2; have z3 := hres.cell 3; obtain ⟨hx1, hy1, hz1, HB1⟩ := bcell hb1; have Hres := Lib.hid hres; clear hb1 hres; simp at hz1)
  refine bodyPost_ret (v := .tuple #[zeroDev, .int .i64 10]) (by simp [results, Try.results60, go_sem, zeroDev, z0, z1, z2, z3]) rfl ⟨rfl, ?_⟩
  exact ((((below_tr (below_al (below_al (below_al (Below.refl _ _) _) _) _) HB1.out).setCell (p := ⟨w.heap.size + 1 + 1, 0, none⟩) (by simp; omega) _).setCell (p := ⟨w.heap.size + 1 + 1, 1, none⟩) (by simp; omega) _).setCell (p := ⟨w.heap.size + 1 + 1, 2, none⟩) (by simp; omega) _).setCell (p := ⟨w.heap.size + 1 + 1, 3, none⟩) (by simp; omega) _
set_option maxRecDepth 100000 in
set_option maxHeartbeats 2000000 in
theorem spend_ok (g : Geo) (hg : GoodGeo g) (d : Dev) (hd : GoodDev g d) (hf : d.fuel ≠ 0) (dv : Value) (w : World) (h : DevR w dv d) :
    Calls Try.prog 60 #[geoV g, dv] w fun e w' => ∃ dv', e = .returned (.tuple #[dv', .int .i64 0]) ∧ OwnDev w.heap.size w' dv' (spent d) ∧ Below w.heap.size w w' := by
  have hchk := fun W (hb : Below w.heap.size w W) => check_good g hg d hd dv W (h.below hb)
  obtain ⟨l1, l2, l3, l4, l5, l6⟩ := hd.lens hg
  have hown := fun W (hb : Below w.heap.size w W) => own_any d dv W (h.below hb) l1 l2 l3 l4 l5 l6
  clear l1 l2 l3 l4 l5 l6
  have hf1 := hd.f1
  have hf2 := hd.f2
  obtain ⟨s, c, v, rfl, hs, hc, hv⟩ := h
  obtain ⟨A1, c1, rfl, hs1, hs2⟩ := SeqR.form hs
  obtain ⟨A2, c2, rfl, hc1, hc2⟩ := SeqR.form hc
  obtain ⟨A3, c3, rfl, hv1, hv2⟩ := SeqR.form hv
  have hsp : spent d = { d with fuel := if 0 < d.fuel then d.fuel - 1 else d.fuel } := rfl
  rw [hsp]
  clear hsp
  have Hchk := Lib.hid hchk
  have Hown := Lib.hid hown
  clear hchk hown hs hc hv hd hg hs1 hs2 hc1 hc2 hv1 hv2
  obtain ⟨a, b, c, e, f⟩ := g
  unfold geoV at *
  simp only at *
  generalize hn1 : d.safe.length = n1 at *
  generalize hn2 : d.cache.length = n2 at *
  generalize hn3 : d.vols.length = n3 at *
  generalize hfu : d.fuel = fuel at *
  have hq : (fuel == 0) = false := by simpa using hf
  have H1 := Lib.hid hn1
  have H2 := Lib.hid hn2
  have H3 := Lib.hid hn3
  have H4 := Lib.hid hfu
  clear hn1 hn2 hn3 hfu hf
  by_cases hpos : 0 < fuel
  all_goals
    go_enter Try.func60, Try.ntmps60
    go_wp2_with (first
      | (go_at_call 35; refine (Hchk.out _ (below_al (below_al (below_al (Below.refl _ _) _) _) _)).mono ?_; rintro e w1 ⟨rfl, hb1⟩; have hres : Blk w1 (w.heap.size + 1 + 1) 37 #[.slice none 0 0, .slice none 0 0, .slice none 0 0, .int .i64 0] := (Blk.new_at (by simp) _ _).below hb1; obtain ⟨hx1, hy1, hz1, HB1⟩ := bcell hb1; have Hres := Lib.hid hres; clear hb1 hres; simp at hz1)
      | (go_at_call 62; refine (Hown.out _ (below_tr (below_al (below_al (below_al (Below.refl _ _) _) _) _) HB1.out)).mono ?_; rintro e w2 ⟨dv', rfl, ho, hb2⟩; have hres2 := Hres.out.below hb2; obtain ⟨B1, d1, B2, d2, B3, d3, rfl⟩ := ho.form; rw [H1.out, H2.out, H3.out, H4.out] at ho; rw [H1.out, H2.out, H3.out, H4.out]; have z0 := hres2.cell 0; have z1 := hres2.cell 1; have z2 := hres2.cell 2; have z3 := hres2.cell 3; have y0 := hres2.frozen 0; have y1 := hres2.frozen 1; have y2 := hres2.frozen 2; have y3 := hres2.frozen 3; have Hres2 := Lib.hid hres2; have Ho := Lib.hid ho; have hz2 := hb2.size; have hz3 : w.heap.size + 1 + 1 < w2.heap.size := hres2.lt; have HB2 := Lib.hid hb2; clear hb2 hres2 ho hx1 hy1))
  · refine bodyPost_ret (v := .tuple #[.agg #[.slice B1 n1 d1, .slice B2 n2 d2, .slice B3 n3 d3, .int .i64 (fuel - 1)], .int .i64 0]) (by simp [results, Try.results60, go_sem, z0, z1, z2, z3, hz3]) rfl ⟨_, rfl, ?_, ?_⟩
    · exact ((Ho.out.fuel (fuel - 1)).keep ((keep_put4 (KeepX.refl _ w2) Hres2.out rfl).alloc _)).base_mono (by omega)
    · exact below_al (below_put4 (below_tr (below_tr (below_al (below_al (below_al (Below.refl _ _) _) _) _) HB1.out) HB2.out) (by omega)) _
  · refine bodyPost_ret (v := .tuple #[.agg #[.slice B1 n1 d1, .slice B2 n2 d2, .slice B3 n3 d3, .int .i64 fuel], .int .i64 0]) (by simp [results, Try.results60, go_sem, z0, z1, z2, z3, hz3]) rfl ⟨_, rfl, ?_, ?_⟩
    · exact ((Ho.out.fuel fuel).keep ((keep_put4 (KeepX.refl _ w2) Hres2.out rfl).alloc _)).base_mono (by omega)
    · exact below_al (below_put4 (below_tr (below_tr (below_al (below_al (below_al (Below.refl _ _) _) _) _) HB1.out) HB2.out) (by omega)) _
end Go.Proofs.Ytomfladifefomaa
