import Derived.Test.YtomfladifefomaaRows
import Derived.Test.YtomfladifefomaaMem
import Derived.Test.YtomfladifefomaaT10
namespace Go.Proofs.Ytomfladifefomaa
open Go.RowKit
/-- is there such a volume that was not taken away? -/
def volOk (d : Dev) (v : Int) : Bool := decide (0 ≤ v) && (match d.vols[v.toNat]? with | some x => !x.gone | none => false)
theorem volume_no (dv : Value) (d : Dev) (v : Int) (w : World) (h : DevR w dv d) (hv : volOk d v = false) :
    Calls Try.prog 59 #[dv, .int .i64 v] w fun e w' => e = .returned (.bool false) ∧ Below w.heap.size w w' := by
  by_cases h0 : v < 0
  · exact volume_out dv d v w h (.inl h0)
  · obtain ⟨k, rfl⟩ := Int.eq_ofNat_of_zero_le (by omega : 0 ≤ v)
    cases hx : d.vols[k]? with
    | none => exact volume_out dv d _ w h (.inr (by rw [List.getElem?_eq_none_iff] at hx; omega))
    | some x =>
      have hg : x.gone = true := by simpa [volOk, hx] using hv
      have := volume_in dv d k x w h hx
      rw [hg] at this
      exact this
theorem volOk_in {d : Dev} {v : Int} (h : volOk d v = true) : ∃ (k : Nat) (x : Vol), v = (k : Int) ∧ d.vols[k]? = some x ∧ x.gone = false := by
  simp only [volOk, Bool.and_eq_true, decide_eq_true_eq] at h
  obtain ⟨k, rfl⟩ := Int.eq_ofNat_of_zero_le h.1
  have h2 := h.2
  rw [Int.toNat_natCast] at h2
  cases hx : d.vols[k]? with
  | none => rw [hx] at h2; cases h2
  | some x => rw [hx] at h2; exact ⟨k, x, rfl, hx, by simpa using h2⟩
set_option maxRecDepth 100000 in
set_option maxHeartbeats 1000000 in
theorem take_none (g : Geo) (hg : GoodGeo g) (d : Dev) (hd : GoodDev g d) (dv : Value) (v : Int) (w : World) (h : DevR w dv d) (hv : volOk d v = false) :
    Calls Try.prog 30 #[geoV g, dv, .int .i64 v] w fun e w' => e = .returned (.tuple #[zeroDev, .int .i64 6]) ∧ Below w.heap.size w w' := by
  have hchk := fun W (hb : Below w.heap.size w W) => check_good g hg d hd dv W (h.below hb)
  have hvol := fun W (hb : Below w.heap.size w W) => volume_no dv d v W (h.below hb) hv
  obtain ⟨s, c, vv, rfl, hs, hc, hvv⟩ := h
  obtain ⟨A1, c1, rfl, hs1, hs2⟩ := SeqR.form hs
  obtain ⟨A2, c2, rfl, hc1, hc2⟩ := SeqR.form hc
  obtain ⟨A3, c3, rfl, hv1, hv2⟩ := SeqR.form hvv
  have Hchk := Lib.hid hchk
  have Hvol := Lib.hid hvol
  obtain ⟨a, b, c, e, f⟩ := g
  unfold geoV at *
  simp only at *
  generalize d.safe.length = n1 at *
  generalize d.cache.length = n2 at *
  generalize d.vols.length = n3 at *
  generalize d.fuel = fuel at *
  clear hchk hvol hs hc hvv hd hg hs1 hs2 hc1 hc2 hv1 hv2 hv
  go_enter Try.func30, Try.ntmps30
  go_wp2_with (first
    | (go_at_call 35; refine (Hchk.out _ (below_al (below_al (below_al (Below.refl _ _) _) _) _)).mono ?_; rintro e w1 ⟨rfl, hb1⟩; have hres : Blk w1 (w.heap.size + 1 + 1) 37 #[.slice none 0 0, .slice none 0 0, .slice none 0 0, .int .i64 0] := (Blk.new_at (by simp) _ _).below hb1; obtain ⟨hx1, hy1, hz1, HB1⟩ := bcell hb1; have Hres := Lib.hid hres; clear hb1 hres; simp at hz1)
    | (go_at_call 59; refine (Hvol.out _ (below_tr (below_al (below_al (below_al (Below.refl _ _) _) _) _) HB1.out)).mono ?_; rintro e w2 ⟨rfl, hb2⟩; have hres2 := Hres.out.below hb2; have z0 := hres2.cell 0; have z1 := hres2.cell 1; have z2 := hres2.cell 2; have z3 := hres2.cell 3; have y0 := hres2.frozen 0; have y1 := hres2.frozen 1; have y2 := hres2.frozen 2; have y3 := hres2.frozen 3; have HB2 := Lib.hid (below_tr (below_tr (below_al (below_al (below_al (Below.refl _ _) _) _) _) HB1.out) hb2); have Hres2 := Lib.hid hres2; clear hb2 hres2 hx1 hy1))
  refine bodyPost_ret (v := .tuple #[zeroDev, .int .i64 6]) (by simp [results, Try.results30, go_sem, zeroDev, z0, z1, z2, z3]) rfl ⟨rfl, ?_⟩
  exact below_put4 HB2.out (by omega)
theorem OwnDev.row {base : Nat} {w : World} {s c : Value} {A : Option Addr} {n cap : Nat} {f : Int} {d : Dev} (h : OwnDev base w (.agg #[s, c, .slice A n cap, .int .i64 f]) d) (hn : 0 < d.vols.length) :
    ∃ g cur, A = some ⟨g, 0, none⟩ ∧ base ≤ g ∧ Blk w g 104 cur ∧ cur.size = cap * 3 ∧ n = d.vols.length ∧ n ≤ cap := by
  obtain ⟨s', c', v, V, css, e, hs, hc, hk, hb, he, ho, hp⟩ := h
  cases e
  rcases ho.2 with ⟨_, hz⟩ | ⟨g, cap', cur, e, hbase, hg, hnc, hcm, hcs, htake⟩
  · omega
  · cases e
    exact ⟨g, cur, rfl, hbase, hg, hcs, rfl, hnc⟩
theorem OwnDev.dropVol {base g n cap k : Nat} {w w' : World} {s c : Value} {f : Int} {d : Dev} {cur cur' : Array Value} (h : OwnDev base w (.agg #[s, c, .slice (some ⟨g, 0, none⟩) n cap, .int .i64 f]) d) (hk : k < d.vols.length)
    (hb : Blk w g 104 cur) (hb' : Blk w' g 104 cur') (hsz : cur'.size = cur.size) (hin : ∀ j, j < 3 → cur'[k * 3 + j]? = [Value.slice none 0 0, .int .i64 0, .bool true][j]?)
    (hout : ∀ i, (i < k * 3 ∨ k * 3 + 3 ≤ i) → cur'[i]? = cur[i]?) (hkeep : KeepX diskX w w') :
    OwnDev base w' (.agg #[s, c, .slice (some ⟨g, 0, none⟩) n cap, .int .i64 f]) { d with vols := d.vols.set k ⟨[], 0, true⟩ } := by
  obtain ⟨s', c', v, V, css, e, hs, hc, hkk, hbb, he, ho, hp⟩ := h
  cases e
  have hkc : k < css.length := by rw [he.1]; exact hk
  have hn : n = d.vols.length := by
    rcases ho.2 with ⟨e, _⟩ | ⟨g, cap', cur, e, _⟩
    · cases e
    · cases e; rfl
  subst hn
  refine ⟨_, _, _, V, css.set k [.slice none 0 0, .int .i64 0, .bool true], rfl, hs, hc, hkk.trans hkeep, hbb, ⟨by simp [he.1], ?_, ?_⟩, ?_, ?_⟩
  · intro cs hcs
    rcases List.mem_or_eq_of_mem_set hcs with h1 | h1
    · exact he.2.1 cs h1
    · rw [h1]; rfl
  · intro i cs x hci hxi
    by_cases e : i = k
    · subst e
      rw [List.getElem?_set_self hkc] at hci
      rw [List.getElem?_set_self hk] at hxi
      cases hci; cases hxi
      exact ⟨_, rfl, World.ownsRow_nil _ _ _ _⟩
    · rw [List.getElem?_set_ne (fun q => e q.symm)] at hci hxi
      exact volO_stays (X := diskX) rfl _ _ _ _ hkeep (he.2.2 i cs x hci hxi)
  · show World.ownsRow _ _ _ _ _ (d.vols.set k _).length _
    rw [List.length_set]
    exact ownsRow_put ho (by omega) he.2.1 rfl hkc hb hb' hsz hin hout
  · intro i j ci cj q hij hi hj hb1 hb2
    by_cases e1 : i = k
    · subst e1
      rw [List.getElem?_set_self hkc] at hi
      cases hi; simp [dataBlock, Value.ownBlock] at hb1
    · by_cases e2 : j = k
      · subst e2
        rw [List.getElem?_set_self hkc] at hj
        cases hj; simp [dataBlock, Value.ownBlock] at hb2
      · rw [List.getElem?_set_ne (fun q => e1 q.symm)] at hi
        rw [List.getElem?_set_ne (fun q => e2 q.symm)] at hj
        exact hp i j ci cj q hij hi hj hb1 hb2
set_option maxRecDepth 100000 in
set_option maxHeartbeats 400000 in
theorem take_ok (g : Geo) (hg : GoodGeo g) (d : Dev) (hd : GoodDev g d) (hf : d.fuel ≠ 0) (dv : Value) (k : Nat) (x : Vol) (hx : d.vols[k]? = some x) (hxg : x.gone = false) (w : World) (h : DevR w dv d) :
    Calls Try.prog 30 #[geoV g, dv, .int .i64 k] w fun e w' => ∃ dv', e = .returned (.tuple #[dv', .int .i64 0]) ∧ DevR w' dv' { spent d with vols := (spent d).vols.set k ⟨[], 0, true⟩ } ∧ Below w.heap.size w w' := by
  have hchk := fun W (hb : Below w.heap.size w W) => check_good g hg d hd dv W (h.below hb)
  have hvol := fun W (hb : Below w.heap.size w W) => volume_in dv d k x W (h.below hb) hx
  have hspe := fun W (hb : Below w.heap.size w W) => spend_ok g hg d hd hf dv W (h.below hb)
  rw [hxg] at hvol
  have hkl : k < d.vols.length := (List.getElem?_eq_some_iff.1 hx).1
  obtain ⟨l1, l2, l3, _, _, _⟩ := hd.lens hg
  obtain ⟨s, c, vv, rfl, hs, hc, hvv⟩ := h
  obtain ⟨A1, c1, rfl, hs1, hs2⟩ := SeqR.form hs
  obtain ⟨A2, c2, rfl, hc1, hc2⟩ := SeqR.form hc
  obtain ⟨A3, c3, rfl, hv1, hv2⟩ := SeqR.form hvv
  have Hchk := Lib.hid hchk
  have Hvol := Lib.hid hvol
  have Hspe := Lib.hid hspe
  obtain ⟨a, b, c, e, f⟩ := g
  unfold geoV at *
  simp only at *
  have hsv : (spent d).vols = d.vols := rfl
  have hss : (spent d).safe = d.safe := rfl
  have hsc : (spent d).cache = d.cache := rfl
  generalize hsd : spent d = d' at *
  rw [← hsv] at hkl
  generalize hn1 : d.safe.length = n1 at *
  generalize hn2 : d.cache.length = n2 at *
  generalize hn3 : d.vols.length = n3 at *
  generalize d.fuel = fuel at *
  have h1 : d'.safe.length = n1 := by rw [hss, hn1]
  have h2 : d'.cache.length = n2 := by rw [hsc, hn2]
  have h3 : d'.vols.length = n3 := by rw [hsv, hn3]
  have H1 := Lib.hid h1
  have H2 := Lib.hid h2
  have H3 := Lib.hid h3
  clear hchk hvol hspe hs hc hvv hd hg hs1 hs2 hc1 hc2 hv1 hv2 hx hxg hsv hss hsc hsd hn1 hn2 hn3 h1 h2 h3 hf
  have Hkl := Lib.hid hkl
  clear hkl
  generalize hfu : d'.fuel = fuel' at *
  have H4 := Lib.hid hfu
  clear hfu
  go_enter Try.func30, Try.ntmps30
  go_wp2_with fail
  refine (Hchk.out _ (below_al (below_al (below_al (Below.refl _ _) _) _) _)).mono ?_
  rintro e w1 ⟨rfl, hb1⟩
  have hres : Blk w1 (w.heap.size + 1 + 1) 37 #[.slice none 0 0, .slice none 0 0, .slice none 0 0, .int .i64 0] := (Blk.new_at (by simp) _ _).below hb1
  have hd1 : Blk w1 (w.heap.size + 1) 37 #[.slice A1 n1 c1, .slice A2 n2 c2, .slice A3 n3 c3, .int .i64 fuel] := ((Blk.new_at (by simp) _ _).alloc _).below hb1
  have hg1 : Blk w1 w.heap.size 32 #[.int .i64 a, .int .i64 b, .int .i64 c, .int .i64 e, .int .i64 f] := (((Blk.new_at rfl _ _).alloc _).alloc _).below hb1
  have hb1' := below_tr (below_al (below_al (below_al (Below.refl _ _) _) _) _) hb1
  clear hb1
  have e0 := hd1.cell 0
  have e1 := hd1.cell 1
  have e2 := hd1.cell 2
  have e3 := hd1.cell 3
  have Hb1 := Lib.hid hb1'
  have Hres := Lib.hid hres
  have Hd1 := Lib.hid hd1
  have Hg1 := Lib.hid hg1
  clear hres hd1 hg1 hb1'
  go_wp2_with fail
  refine (Hvol.out _ Hb1.out).mono ?_
  rintro e w2 ⟨rfl, hb2⟩
  have hres2 := Hres.out.below hb2
  have hd2 := Hd1.out.below hb2
  have hg2 := Hg1.out.below hb2
  have e0 := hd2.cell 0
  have e1 := hd2.cell 1
  have e2 := hd2.cell 2
  have e3 := hd2.cell 3
  have i0 := hg2.cell 0
  have i1 := hg2.cell 1
  have i2 := hg2.cell 2
  have i3 := hg2.cell 3
  have i4 := hg2.cell 4
  have Hb2 := Lib.hid (below_tr Hb1.out hb2)
  have Hres2 := Lib.hid hres2
  clear hres2 hd2 hg2 hb2
  go_wp2_with fail
  refine (Hspe.out _ Hb2.out).mono ?_
  rintro e w3 ⟨dv', rfl, ho, hb3⟩
  have hres3 := Hres2.out.below hb3
  obtain ⟨B1, d1, B2, d2, B3, d3, rfl⟩ := ho.form
  rw [H1.out, H2.out, H3.out, H4.out] at ho
  rw [H1.out, H2.out, H3.out, H4.out]
  have z0 := hres3.cell 0
  have z1 := hres3.cell 1
  have z2 := hres3.cell 2
  have z3 := hres3.cell 3
  have y0 := hres3.frozen 0
  have y1 := hres3.frozen 1
  have y2 := hres3.frozen 2
  have y3 := hres3.frozen 3
  obtain ⟨gv, cur, rfl, hgv, hrow, hcs, hn, hnc⟩ := ho.row (by have := Hkl.out; omega)
  have hkn : k < n3 := by have := Hkl.out; omega
  have hk3 : k * 3 + 2 < cur.size := by omega
  obtain ⟨u0, hu0⟩ : ∃ u, cur[k * 3]? = some u := ⟨_, Array.getElem?_eq_getElem (by omega)⟩
  obtain ⟨u1, hu1⟩ : ∃ u, cur[k * 3 + 1]? = some u := ⟨_, Array.getElem?_eq_getElem (by omega)⟩
  obtain ⟨u2, hu2⟩ : ∃ u, cur[k * 3 + 2]? = some u := ⟨_, Array.getElem?_eq_getElem (by omega)⟩
  have q0 := (hrow.cell (k * 3)).trans hu0
  have q1 := (hrow.cell (k * 3 + 1)).trans hu1
  have q2 := (hrow.cell (k * 3 + 2)).trans hu2
  have p0 := hrow.frozen (k * 3)
  have p1 := hrow.frozen (k * 3 + 1)
  have p2 := hrow.frozen (k * 3 + 2)
  have hlg := hrow.lt
  have hlr := hres3.lt
  have hne : gv ≠ w.heap.size + 1 + 1 := by have := Hb2.out.size; have := Hres2.out.lt; omega
  have Hrow := Lib.hid hrow
  have Hres3 := Lib.hid hres3
  have Ho := Lib.hid ho
  have Hn := Lib.hid hn
  have Hcs := Lib.hid hcs
  have Hu := Lib.hid (And.intro hu0 (And.intro hu1 hu2))
  have Hb3 := Lib.hid (below_tr Hb2.out hb3)
  have hgw : w.heap.size ≤ gv := by have := Hb2.out.size; omega
  clear hrow hres3 ho hn hcs hu0 hu1 hu2 hb3 hnc e0 e1 e2 e3 i0 i1 i2 i3 i4 hgv
  go_wp2
  have hB : Blk (((w3.setCell ⟨gv, k * 3, none⟩ (.slice none 0 0)).setCell ⟨gv, k * 3 + 1, none⟩ (.int .i64 0)).setCell ⟨gv, k * 3 + 2, none⟩ (.bool true)) gv 104 _ := ((Hrow.out.set_ (k * 3) (.slice none 0 0)).set_ (k * 3 + 1) (.int .i64 0)).set_ (k * 3 + 2) (.bool true)
  have hK : KeepX diskX w3 (((w3.setCell ⟨gv, k * 3, none⟩ (.slice none 0 0)).setCell ⟨gv, k * 3 + 1, none⟩ (.int .i64 0)).setCell ⟨gv, k * 3 + 2, none⟩ (.bool true)) :=
    (((KeepX.refl _ w3).setCell (p := ⟨gv, k * 3, none⟩) Hrow.out rfl _).setCell (p := ⟨gv, k * 3 + 1, none⟩) (Hrow.out.set_ _ _) rfl _).setCell (p := ⟨gv, k * 3 + 2, none⟩) ((Hrow.out.set_ _ _).set_ _ _) rfl _
  have hO := Ho.out.dropVol (k := k) (by have := Hkl.out; exact this) Hrow.out hB (by simp) (fun j hj => by
    have hs3 : k * 3 + 2 < cur.size := hk3
    simp only [Array.getElem?_setIfInBounds, Array.size_setIfInBounds]
    match j, hj with
    | 0, _ => simp; omega
    | 1, _ => simp; omega
    | 2, _ => simp; omega) (fun i hi => by
    simp only [Array.getElem?_setIfInBounds, Array.size_setIfInBounds]
    rw [if_neg (by omega), if_neg (by omega), if_neg (by omega)]) hK
  rw [H4.out] at hO
  have hR : Blk (((w3.setCell ⟨gv, k * 3, none⟩ (.slice none 0 0)).setCell ⟨gv, k * 3 + 1, none⟩ (.int .i64 0)).setCell ⟨gv, k * 3 + 2, none⟩ (.bool true)) (w.heap.size + 1 + 1) 37 _ := ((Hres3.out.far (p := ⟨gv, k * 3, none⟩) (fun e => hne e.symm) (.slice none 0 0)).far (p := ⟨gv, k * 3 + 1, none⟩) (fun e => hne e.symm) (.int .i64 0)).far (p := ⟨gv, k * 3 + 2, none⟩) (fun e => hne e.symm) (.bool true)
  have hW : Below w.heap.size w (((w3.setCell ⟨gv, k * 3, none⟩ (.slice none 0 0)).setCell ⟨gv, k * 3 + 1, none⟩ (.int .i64 0)).setCell ⟨gv, k * 3 + 2, none⟩ (.bool true)) := ((Hb3.out.setCell (p := ⟨gv, k * 3, none⟩) (by simp; omega) _).setCell (p := ⟨gv, k * 3 + 1, none⟩) (by simp; omega) _).setCell (p := ⟨gv, k * 3 + 2, none⟩) (by simp; omega) _
  refine bodyPost_ret (v := .tuple #[.agg #[.slice B1 n1 d1, .slice B2 n2 d2, .slice (some ⟨gv, 0, none⟩) n3 d3, .int .i64 fuel'], .int .i64 0]) (by simp [results, Try.results30, go_sem, z0, z1, z2, z3, hlr]) rfl ⟨_, rfl, ?_, ?_⟩
  · exact DevR.keep (X := devX) rfl rfl rfl rfl ((keep_put4 (KeepX.refl _ _) hR rfl).alloc _) hO.devR
  · exact below_al (below_put4 hW (by omega)) _
end Go.Proofs.Ytomfladifefomaa
