import Derived.Test.YtomfladifefomaaRows
import Derived.Test.YtomfladifefomaaMem
import Derived.Test.YtomfladifefomaaT5
import Derived.Deep.RegionHeld3
namespace Go.Proofs.Ytomfladifefomaa
open Go.RowKit
set_option maxRecDepth 100000 in
set_option maxHeartbeats 2000000 in
theorem check_good (g : Geo) (hg : GoodGeo g) (d : Dev) (hd : GoodDev g d) (dv : Value) (w : World) (h : DevR w dv d) :
    Calls Try.prog 35 #[geoV g, dv] w fun e w' => e = .returned (.int .i64 0) ∧ Below w.heap.size w w' := by
  obtain ⟨s, c, v, rfl, hs, hc, hv⟩ := h
  obtain ⟨A1, c1, rfl, hs1, hs2⟩ := SeqR.form hs
  obtain ⟨A2, c2, rfl, hc1, hc2⟩ := SeqR.form hc
  obtain ⟨A3, c3, rfl, hv1, hv2⟩ := SeqR.form hv
  have Hs := Lib.hid hs
  have Hc := Lib.hid hc
  have Hv := Lib.hid hv
  clear hs hc hv
  have hsec := sectors_any g hg
  obtain ⟨safe, cache, vols, fuel⟩ := d
  obtain ⟨d1, d2, d3, d4, d5, d6, d7, d8⟩ := hd
  simp only at *
  have hsa : (safe.any fun s => s.length != 64) = false := by
    rw [List.any_eq_false]; intro s hs; simp [d2 s hs]
  have hca : (cache.any fun x => wBad x.at_ safe.length x.data.length) = false := by
    rw [List.any_eq_false]; intro s hs; simp [d4 s hs]
  have hva : (vols.any fun x => vBad x.data.length x.synced x.gone g.volume) = false := by
    rw [List.any_eq_false]; intro s hs; simp [d6 s hs]
  have hgg := hg
  obtain ⟨a, b, c, e, f⟩ := g
  obtain ⟨h1, h2, h3, h4, h5, h6, h7, h8, h9, h10⟩ := hg
  have hsz : sectorsOf ⟨a, b, c, e, f⟩ ≤ 1000 := by unfold sectorsOf; simp only at *; omega
  generalize hS : sectorsOf ⟨a, b, c, e, f⟩ = S at *
  simp only at *
  generalize hn1 : safe.length = n1 at *
  generalize hn2 : cache.length = n2 at *
  generalize hn3 : vols.length = n3 at *
  have hq1 : ((n1 : Int) != S) = false := by simp; omega
  have hq1' : ((n1 : Int) == S) = true := by simp; omega
  have hq2 : decide ((2000 : Int) < (n2 : Int)) = false := by simp; omega
  have hq3 : decide (f < (n3 : Int)) = false := by simp; omega
  have hq4 : decide (fuel < -1) = false := by simp; omega
  have hq5 : decide (1048576 < fuel) = false := by simp; omega
  have Hn1 := Lib.hid hn1
  have Hn2 := Lib.hid hn2
  have Hn3 := Lib.hid hn3
  have HS := Lib.hid hS
  have Hd1 := Lib.hid d1
  have Hsa := Lib.hid hsa
  have Hca := Lib.hid hca
  have Hva := Lib.hid hva
  clear hn1 hn2 hn3 hS d1 d2 d4 d6 hsa hca hva
  have Hsec := Lib.hid hsec
  clear hsec
  unfold geoV
  simp only
  go_enter Try.func35, Try.ntmps35
  go_wp2_with (go_at_call 36; refine (geo_good ⟨a, b, c, e, f⟩ hgg _).mono ?_; rintro e w1 ⟨rfl, hb1⟩; obtain ⟨hx1, hy1, hz1, HB1⟩ := bcell hb1; clear hb1; simp at hz1)
  have q0 : w1.cell? ⟨w.heap.size, 0, none⟩ = some (.int .i64 a) := by go_simp
  have q1 : w1.cell? ⟨w.heap.size, 1, none⟩ = some (.int .i64 b) := by go_simp
  have q2 : w1.cell? ⟨w.heap.size, 2, none⟩ = some (.int .i64 c) := by go_simp
  have q3 : w1.cell? ⟨w.heap.size, 3, none⟩ = some (.int .i64 e) := by go_simp
  have q4 : w1.cell? ⟨w.heap.size, 4, none⟩ = some (.int .i64 f) := by go_simp
  have q5 : w1.cell? ⟨w.heap.size + 1, 0, none⟩ = some (.slice A1 n1 c1) := by go_simp
  have q6 : w1.cell? ⟨w.heap.size + 1, 1, none⟩ = some (.slice A2 n2 c2) := by go_simp
  have q7 : w1.cell? ⟨w.heap.size + 1, 2, none⟩ = some (.slice A3 n3 c3) := by go_simp
  have q8 : w1.cell? ⟨w.heap.size + 1, 3, none⟩ = some (.int .i64 fuel) := by go_simp
  clear hx1 hy1
  go_region_held3 (fun W => W.cell? ⟨w.heap.size, 0, none⟩ = some (.int .i64 a) ∧ W.cell? ⟨w.heap.size, 1, none⟩ = some (.int .i64 b) ∧ W.cell? ⟨w.heap.size, 2, none⟩ = some (.int .i64 c) ∧ W.cell? ⟨w.heap.size, 3, none⟩ = some (.int .i64 e) ∧ W.cell? ⟨w.heap.size, 4, none⟩ = some (.int .i64 f) ∧
      W.cell? ⟨w.heap.size + 1, 0, none⟩ = some (.slice A1 n1 c1) ∧ W.cell? ⟨w.heap.size + 1, 1, none⟩ = some (.slice A2 n2 c2) ∧ W.cell? ⟨w.heap.size + 1, 2, none⟩ = some (.slice A3 n3 c3) ∧ W.cell? ⟨w.heap.size + 1, 3, none⟩ = some (.int .i64 fuel) ∧ w.heap.size + 1 + 1 ≤ W.heap.size)
    (first | go_keep | ((try dsimp only); refine ⟨?_, ?_, ?_, ?_, ?_, ?_, ?_, ?_, ?_, ?_⟩ <;> first | go_keep | ((first | rw [hx2 _ _ (by go_simp <;> omega)]); first | exact q0 | exact q1 | exact q2 | exact q3 | exact q4 | exact q5 | exact q6 | exact q7 | exact q8) | (simp at hz2; omega)))
    ((go_at_call 58; refine (Hsec.out _).mono ?_; rintro e w2 ⟨rfl, hb2⟩; obtain ⟨hx2, hy2, hz2, HB2⟩ := bcell hb2; clear hb2))
  have p0 : w2.cell? ⟨w.heap.size, 3, none⟩ = some (.int .i64 e) := by rw [hx2 _ _ (by go_simp <;> omega)]; exact q3
  have p1 : w2.cell? ⟨w.heap.size + 1, 0, none⟩ = some (.slice A1 n1 c1) := by rw [hx2 _ _ (by go_simp <;> omega)]; exact q5
  have p2 : w2.cell? ⟨w.heap.size + 1, 1, none⟩ = some (.slice A2 n2 c2) := by rw [hx2 _ _ (by go_simp <;> omega)]; exact q6
  have p3 : w2.cell? ⟨w.heap.size + 1, 2, none⟩ = some (.slice A3 n3 c3) := by rw [hx2 _ _ (by go_simp <;> omega)]; exact q7
  have hbw : Below w.heap.size w w2 := below_tr (below_al (below_al (Below.refl _ _) _) _ |> fun h => below_tr h HB1.out |>.drew) HB2.out
  have hz : w.heap.size + 1 + 1 ≤ w2.heap.size := by simp at hz2; omega
  clear hx2 hy2 q0 q1 q2 q3 q4 q5 q6 q7 q8 hz2
  have Hbw := Lib.hid hbw
  clear hbw
  go_wp2_with fail
  refine (has_rows _ _ _ (SeqR.keep Hs.out (rowR_stays (X := fun _ => true) rfl) rfl (KeepX.of_below Hbw.out)) (by have := Hd1.out; rw [Hn1.out]; omega)).mono ?_
  rintro e' w' ⟨rfl, rfl⟩
  rw [Hsa.out]
  go_wp2_with fail
  refine (has_wrs _ cache _ _ _ _ _ (SeqR.keep Hc.out (wrR_stays (X := fun _ => true) rfl) rfl (KeepX.of_below Hbw.out)) (by rw [Hn2.out]; omega) p1 (by omega)).mono ?_
  rintro e' w3 ⟨rfl, hb3⟩
  rw [Hca.out]
  have p4 := (hb3.cell (p := ⟨w.heap.size, 3, none⟩) (by show w.heap.size < w2.heap.size; omega)).trans p0
  have p5 := (hb3.cell (p := ⟨w.heap.size + 1, 2, none⟩) (by show w.heap.size + 1 < w2.heap.size; omega)).trans p3
  have hz3 := hb3.size
  have HB3 := Lib.hid (below_tr Hbw.out hb3)
  clear hb3 p0 p1 p2 p3
  go_wp2_with fail
  refine (has_vols _ vols _ _ _ (SeqR.keep Hv.out (volR_stays (X := fun _ => true) rfl) rfl (KeepX.of_below HB3.out)) (by rw [Hn3.out]; omega) p4 (by omega)).mono ?_
  rintro e' w4 ⟨rfl, hb4⟩
  rw [Hva.out]
  have HB4 := Lib.hid (below_tr HB3.out hb4)
  clear hb4
  go_wp2
  go_ret
  exact ⟨rfl, HB4.out⟩
end Go.Proofs.Ytomfladifefomaa
