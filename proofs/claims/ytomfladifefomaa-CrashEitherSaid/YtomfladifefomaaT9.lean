import Derived.Test.YtomfladifefomaaRows
import Derived.Test.YtomfladifefomaaMem
import Derived.Test.YtomfladifefomaaT8
namespace Go.Proofs.Ytomfladifefomaa
open Go.RowKit
def zero64 : Array Value := madeCells (Value.int .u8 0).cells 64
def zeros : List UInt8 := List.replicate 64 0
theorem zero64_is : zero64.toList = zeros.map enc8 := by kernel_rfl
def newDev (g : Geo) : Dev := { safe := List.replicate (sectorsOf g).toNat zeros, cache := [], vols := [], fuel := -1 }
theorem make64 (W : World) : (Instr.makeSlice 23 (.int .i64 64) (.int .i64 64)).run Try.prog W = .ok (.slice (some ⟨W.heap.size, 0, none⟩) 64 64) (W.alloc (.cells zero64 5)) := by
  obtain ⟨i0, hi, hz0, hz1, hz2⟩ := info_parts infoU8
  have h := run_make_rowN (P := Try.prog) 23 5 i0 _ Try.underlying23 hi hz0 .i64 .i64 64 64 (Nat.le_refl _) (by rw [hz2]; omega) (by omega) W
  rw [hz1, Nat.mul_one] at h
  exact h
theorem bytes64 {w : World} {g : Nat} {fr : Nat × Nat} (h : w.heap[g]? = some (.cells zero64 5 fr)) : BytesR w (.slice (some ⟨g, 0, none⟩) 64 64) zeros :=
  ⟨_, 64, rfl, Nat.le_refl _, by unfold maxLen; omega, by simp [zeros], fun _ => ⟨g, 0, zero64, fr, rfl, h, fun j u hu => by rw [← zero64_is] at hu; simpa using hu⟩⟩
set_option maxRecDepth 100000 in
set_option maxHeartbeats 2000000 in
theorem new_any (g : Geo) (hg : GoodGeo g) (w : World) :
    Calls Try.prog 28 #[geoV g] w fun e w' => ∃ dv', e = .returned (.tuple #[dv', .int .i64 0]) ∧ DevR w' dv' (newDev g) ∧ Below w.heap.size w w' := by
  have hgg := hg
  have hsec := sectors_any g hg
  have hS0 : 0 ≤ sectorsOf g ∧ sectorsOf g ≤ 1000 := by
    have := hg.r1; have := hg.r2; have := hg.a1; have := hg.a2; have := hg.h1; have := hg.h2; unfold sectorsOf; omega
  unfold newDev
  obtain ⟨i23, hi, hz0, hz1, hz2⟩ := info_parts infoRow
  have HI := Lib.hid (And.intro hi (And.intro hz0 (And.intro hz1 hz2)))
  clear hi hz0 hz1 hz2
  obtain ⟨a, b, c, e, f⟩ := g
  generalize hS : sectorsOf ⟨a, b, c, e, f⟩ = S at *
  obtain ⟨n, rfl⟩ := Int.eq_ofNat_of_zero_le hS0.1
  have Hsec := Lib.hid hsec
  have hS1 := hS0.2
  clear hS hg hsec hS0
  unfold geoV
  simp only [Int.toNat_natCast]
  have hmk := make64
  go_enter Try.func28, Try.ntmps28
  go_wp2_with (first
    | (go_at_call 36; refine (geo_good ⟨a, b, c, e, f⟩ hgg _).mono ?_; rintro e w1 ⟨rfl, hb1⟩; have hres : Blk w1 (w.heap.size + 1) 37 #[.slice none 0 0, .slice none 0 0, .slice none 0 0, .int .i64 0] := (Blk.new_at (by simp) _ _).below hb1; obtain ⟨hx1, hy1, hz1, HB1⟩ := bcell hb1; have Hres := Lib.hid hres; clear hb1 hres; simp at hz1; have hz1a : w.heap.size < w1.heap.size := (by omega); have hz1b : w.heap.size + 1 < w1.heap.size := (by omega))
    | (go_at_call 58; refine (Hsec.out _).mono ?_; rintro e w2 ⟨rfl, hb2⟩; have hbox : Blk w2 w1.heap.size 37 #[.slice none 0 0, .slice none 0 0, .slice none 0 0, .int .i64 (-1)] := (Blk.new_at (by simp) _ _).below hb2; have hres2 := (Hres.out.alloc _).below hb2; have hlt2 := hbox.lt; have HB2 := Lib.hid (below_tr (below_al (below_tr (below_al (below_al (Below.refl _ _) _) _) HB1.out) _) hb2); have Hbox := Lib.hid hbox; have Hres2 := Lib.hid hres2; clear hb2 hbox hres2 hx1 hy1))
  have hlt1 : w.heap.size + 1 < w2.heap.size := Hres2.out.lt
  generalize hB : w1.heap.size = B at *
  have hBw : w.heap.size + 1 < B := hz1b
  clear hB HB1 Hres hz1 hz1a hz1b
  go_loopw [15] (fun i wr => ∃ (k : Nat) (sv : Value), k ≤ n ∧ i = .int .i64 k ∧ Blk wr (w.heap.size + 1) 37 #[.slice none 0 0, .slice none 0 0, .slice none 0 0, .int .i64 0] ∧ Blk wr B 37 #[sv, .slice none 0 0, .slice none 0 0, .int .i64 (-1)] ∧ OwnR RowR 23 1 (B + 1) wr sv (List.replicate k zeros) ∧ Below w.heap.size w wr) (fun i _ => n - (intOf i).toNat)
  case atStart => exact ⟨0, _, Nat.zero_le _, rfl, Hres2.out, Hbox.out, OwnR.nil, HB2.out⟩
  case round =>
    clear Hres2 Hbox HB2 hlt2 hlt1 w2
    obtain ⟨k, sv, hk, rfl, hres, hbox, ⟨css, hels, hown⟩, hbw⟩ := hrel
    rw [List.length_replicate] at hown
    obtain ⟨Ak, ck, rfl, _, _⟩ := ownsRow_form hown
    have hltB := hbox.lt
    have hb0 : wr.cell? ⟨B, 0, none⟩ = some (.slice Ak k ck) := hbox.cell 0
    have Hres := Lib.hid hres
    have Hbox := Lib.hid hbox
    have Hels := Lib.hid hels
    have Hown := Lib.hid hown
    have Hbw := Lib.hid hbw
    by_cases hlt : k < n
    · have hne : some B ≠ (Value.slice Ak k ck).ownBlock := fun e => by have := (hown.lt _ e.symm).1; omega
      have Hne := Lib.hid hne
      clear hne hres hbox hels hown hbw
      go_wp2_with fail
      have hnb : Blk (((wr.alloc (.cells zero64 5)).alloc (.cells #[.slice (some ⟨wr.heap.size, 0, none⟩) 64 64] 23)).drew) (wr.heap.size + 1) 23 #[.slice (some ⟨wr.heap.size, 0, none⟩) 64 64] := (Blk.new_at (by simp) _ _).drew
      have Hnb := Lib.hid hnb
      clear hnb
      go_region_law (refine step_append_lies _ rfl (.tmp 18) (.tmp 20) _ rfl (B + 1) 23 i23 _ 1 24 Try.underlying29 HI.out.1 HI.out.2.1 HI.out.2.2.1 HI.out.2.2.2 rfl (by omega) (.slice Ak k ck) k css.flatten rfl (ownsRow_keep Hown.out (X := fun _ => true) (((KeepX.refl _ wr).alloc (.cells zero64 5)).alloc (.cells #[.slice (some ⟨wr.heap.size, 0, none⟩) 64 64] 23)).drew rfl) ⟨wr.heap.size + 1, 0, none⟩ 1 1 [.slice (some ⟨wr.heap.size, 0, none⟩) 64 64] rfl rfl (World.news_of_block (cs := #[.slice (some ⟨wr.heap.size, 0, none⟩) 64 64]) (t := 23) (fr := (0, 0)) Hnb.out) (by simp [Value.oneCell']) (by omega) (by unfold maxLen; omega) (by omega) (by simp; omega) (wr.heap.size + 1 + 1) (by simp) ?_; intro gg cap w2 hown2 hgr hat hlt2; have hbx2 := (((Hbox.out.alloc (.cells zero64 5)).alloc (.cells #[.slice (some ⟨wr.heap.size, 0, none⟩) 64 64] 23)).drew).grown hgr Hne.out; have hfz := hbx2.frozen 0; have hcz := hbx2.cell 0; have Hbx2 := Lib.hid hbx2; have Hown2 := Lib.hid hown2; have Hgr := Lib.hid hgr; clear hbx2 hown2 hgr hat)
      all_goals
        go_wp2
        go_roundw
        case rel =>
          have hk1 : ∀ X : TypeId → Bool, KeepX X wr (((wr.alloc (.cells zero64 5)).alloc (.cells #[.slice (some ⟨wr.heap.size, 0, none⟩) 64 64] 23)).drew) := fun X => (((KeepX.refl X wr).alloc _).alloc _).drew
          have hown1' := ownsRow_keep Hown.out (hk1 fun _ => true) rfl
          have hkx : ∀ X : TypeId → Bool, X 23 = false → X 37 = false → ∀ Z, KeepX X Z (((wr.alloc (.cells zero64 5)).alloc (.cells #[.slice (some ⟨wr.heap.size, 0, none⟩) 64 64] 23)).drew) → KeepX X Z (w2.setCell ⟨B, 0, none⟩ (.slice (some ⟨gg, 0, none⟩) (k + 1) cap)) := fun X h1 h2 Z hz =>
            (hz.grown_own hown1' Hgr.out h1).setCell (p := ⟨B, 0, none⟩) Hbx2.out h2 _
          refine ⟨k + 1, _, by omega, by go_num, ?_, Hbx2.out.set_ 0 _, ?_, ?_⟩
          · exact ((((Hres.out.alloc _).alloc _).drew).grown Hgr.out (fun e => by have := (Hown.out.lt _ e.symm).1; omega)).far (by show w.heap.size + 1 ≠ B; omega) _
          · rw [List.replicate_succ']
            refine OwnR.snoc (cs := [.slice (some ⟨wr.heap.size, 0, none⟩) 64 64]) Hels.out (rowR_stays rfl) (hkx (· == 5) rfl rfl wr (hk1 _)) rfl ⟨_, rfl, ?_⟩ ?_
            · exact BytesR.keep (X := (· == 5)) rfl (hkx _ rfl rfl (wr.alloc (.cells zero64 5)) (((KeepX.refl _ _).alloc _).drew)) (bytes64 (heap_alloc_new wr _))
            · rw [List.length_replicate]
              exact ownsRow_keep Hown2.out (X := (· == 23)) ((KeepX.refl _ w2).setCell (p := ⟨B, 0, none⟩) Hbx2.out rfl _) rfl
          · exact (below_grown (below_al (below_al Hbw.out _) _).drew hown1' Hgr.out (by omega) (by simp; omega)).setCell (by show w.heap.size ≤ B; omega) _
        case measure => simp [intOf]; omega
    · obtain rfl : k = n := by omega
      have z0 := hres.cell 0
      have z1 := hres.cell 1
      have z2 := hres.cell 2
      have z3 := hres.cell 3
      have y0 := hres.frozen 0
      have y1 := hres.frozen 1
      have y2 := hres.frozen 2
      have y3 := hres.frozen 3
      have x0 := hbox.cell 0
      have x1 := hbox.cell 1
      have x2 := hbox.cell 2
      have x3 := hbox.cell 3
      clear hres hbox hels hown hbw
      go_wp2
      refine bodyPost_ret (v := .tuple #[.agg #[.slice Ak k ck, .slice none 0 0, .slice none 0 0, .int .i64 (-1)], .int .i64 0]) (by simp [results, Try.results28, go_sem, z0, z1, z2, z3]) rfl ⟨_, rfl, ?_, ?_⟩
      · refine DevR.keep (X := devX) rfl rfl rfl rfl (keep_put4 (KeepX.refl _ wr) Hres.out rfl) ⟨_, _, _, rfl, ?_, SeqR.nil, SeqR.nil⟩
        exact OwnR.seq ⟨css, Hels.out, by rw [List.length_replicate]; exact Hown.out⟩
      · exact below_put4 Hbw.out (by omega)
end Go.Proofs.Ytomfladifefomaa
