import Derived.Test.YtomfladifefomaaRows
import Derived.Test.YtomfladifefomaaMem
import Derived.Test.YtomfladifefomaaT6
import Derived.Deep.RegionHeld3
import Derived.Deep.RegionLaw
namespace Go.Proofs.Ytomfladifefomaa
open Go.RowKit
theorem clone_any (v : Value) (bs : List UInt8) (w : World) (h : BytesR w v bs) (hn : bs.length ≤ 1000000000) :
    Calls Try.prog 61 #[v] w fun e w' => ∃ A c, e = .returned (.slice A bs.length c) ∧ w'.ownsRow w.heap.size 5 1 (.slice A bs.length c) bs.length (bs.map enc8) ∧ Below w.heap.size w w' := by
  have h0 := h
  obtain ⟨A, c, rfl, h1, h2, h3, h4⟩ := h
  cases A with
  | none =>
    have hz : bs.length = 0 := by
      rcases Nat.eq_zero_or_pos bs.length with e | e
      · exact e
      · obtain ⟨g, o, cur, fr, e, _⟩ := h4 e; cases e
    have hb : bs = [] := List.eq_nil_of_length_eq_zero hz
    subst hb
    refine (clone_nil c w).mono ?_
    rintro e w' ⟨rfl, rfl⟩
    exact ⟨none, 0, rfl, World.ownsRow_nil _ _ _ _, Below.refl _ _⟩
  | some a =>
    refine (clone_some a _ c _ w h0 (enc8_one bs) hn).mono ?_
    rintro e w' ⟨v', rfl, hown, hb⟩
    rcases hown.2 with ⟨rfl, hz⟩ | ⟨g, cap, cur, rfl, _⟩
    · exact ⟨none, 0, by rw [hz], by rw [hz] at *; exact hown, hb⟩
    · exact ⟨_, cap, rfl, hown, hb⟩
theorem infoRow : (Try.prog.info? 23).map (fun i => (i.zero, i.size, i.bytes)) = some (some (.slice none 0 0), 1, 24) := by kernel_rfl
theorem infoWr : (Try.prog.info? 61).map (fun i => (i.zero, i.size, i.bytes)) = some (some (.agg #[.int .i64 0, .slice none 0 0]), 2, 32) := by kernel_rfl
theorem infoVol : (Try.prog.info? 104).map (fun i => (i.zero, i.size, i.bytes)) = some (some (.agg #[.slice none 0 0, .int .i64 0, .bool false]), 3, 40) := by kernel_rfl
/-- a volume whose bytes lie in a row of their own, from block B on -/
def VolO (B : Nat) (w : World) (x : Vol) (cs : List Value) : Prop := ∃ u, cs = [u, .int .i64 x.synced, .bool x.gone] ∧ w.ownsRow B 5 1 u x.data.length (x.data.map enc8)
theorem volO_stays {B : Nat} {X : TypeId → Bool} (hx : X 5 = true) : Stays (VolO B) X := fun _ _ _ _ hk ⟨u, e, h⟩ => ⟨u, e, ownsRow_keep h hk hx⟩
def dataBlock (cs : List Value) : Option Nat := match cs with | u :: _ => u.ownBlock | [] => none
/-- no two volumes' bytes lie in one block -/
def Sep (css : List (List Value)) : Prop := ∀ (i j : Nat) (ci cj : List Value) (g : Nat), i ≠ j → css[i]? = some ci → css[j]? = some cj → dataBlock ci = some g → dataBlock cj ≠ some g
theorem Sep.snoc {css : List (List Value)} {cs : List Value} (h : Sep css) (hn : ∀ g, dataBlock cs = some g → ∀ c ∈ css, dataBlock c ≠ some g) : Sep (css ++ [cs]) := by
  intro i j ci cj g hij hi hj hb hb'
  have li : i < (css ++ [cs]).length := (List.getElem?_eq_some_iff.1 hi).1
  have lj : j < (css ++ [cs]).length := (List.getElem?_eq_some_iff.1 hj).1
  simp at li lj
  by_cases h1 : i < css.length
  · rw [List.getElem?_append_left h1] at hi
    by_cases h2 : j < css.length
    · rw [List.getElem?_append_left h2] at hj
      exact h i j ci cj g hij hi hj hb hb'
    · have e : j = css.length := by omega
      subst e
      simp at hj
      subst hj
      exact hn g hb' ci (List.mem_of_getElem? hi) hb
  · have e : i = css.length := by omega
    subst e
    simp at hi
    subst hi
    have h2 : j < css.length := by omega
    rw [List.getElem?_append_left h2] at hj
    exact hn g hb cj (List.mem_of_getElem? hj) hb'
/-- what lies with disk and cache: bytes, rows of them, writes -/
def diskX (t : TypeId) : Bool := t == 5 || t == 23 || t == 61
/-- devices in memory of their own: each part may be changed by itself -/
def OwnDev (base : Nat) (w : World) (dv : Value) (d : Dev) : Prop := ∃ (s c v : Value) (V : World) (css : List (List Value)), dv = .agg #[s, c, v, .int .i64 d.fuel] ∧
  OwnR RowR 23 1 base V s d.safe ∧ OwnR WrR 61 2 base V c d.cache ∧ KeepX diskX V w ∧ base ≤ V.heap.size ∧
  Els (VolO V.heap.size) 3 w css d.vols ∧ w.ownsRow base 104 3 v d.vols.length css.flatten ∧ Sep css
theorem take_succ {α : Type} {l : List α} {k : Nat} {x : α} (h : l[k]? = some x) : l.take (k + 1) = l.take k ++ [x] := by
  rw [List.take_add_one, h]; rfl
set_option maxRecDepth 100000 in
set_option maxHeartbeats 4000000 in
theorem own_any (d : Dev) (dv : Value) (w : World) (h : DevR w dv d) (hd1 : d.safe.length ≤ 100000) (hd2 : d.cache.length ≤ 100000) (hd3 : d.vols.length ≤ 100000)
    (he1 : ∀ s ∈ d.safe, s.length ≤ 100000) (he2 : ∀ x ∈ d.cache, x.data.length ≤ 100000) (he3 : ∀ x ∈ d.vols, x.data.length ≤ 100000) :
    Calls Try.prog 62 #[dv] w fun e w' => ∃ dv', e = .returned dv' ∧ OwnDev w.heap.size w' dv' d ∧ Below w.heap.size w w' := by
  obtain ⟨s, c, v, rfl, hs, hc, hv⟩ := h
  obtain ⟨A1, c1, rfl, hs1, hs2⟩ := SeqR.form hs
  obtain ⟨A2, c2, rfl, hc1, hc2⟩ := SeqR.form hc
  obtain ⟨A3, c3, rfl, hv1, hv2⟩ := SeqR.form hv
  obtain ⟨i23, hi, hz0, hz1, hz2⟩ := info_parts infoRow
  have Hs := Lib.hid hs
  have Hc := Lib.hid hc
  have Hv := Lib.hid hv
  have He1 := Lib.hid he1
  have He2 := Lib.hid he2
  have He3 := Lib.hid he3
  have HI := Lib.hid (And.intro hi (And.intro hz0 (And.intro hz1 hz2)))
  clear hs hc hv hi hz0 hz1 hz2 he1 he2 he3
  obtain ⟨safe, cache, vols, fuel⟩ := d
  simp only at *
  generalize hn1 : safe.length = n1 at *
  generalize hn2 : cache.length = n2 at *
  generalize hn3 : vols.length = n3 at *
  have Hn1 := Lib.hid hn1
  have Hn2 := Lib.hid hn2
  have Hn3 := Lib.hid hn3
  clear hn1 hn2 hn3
  go_enter Try.func62, Try.ntmps62
  go_wp2
  go_loopw [16] (fun i wr => ∃ (k : Nat) (sv : Value), k ≤ n1 ∧ i = .int .i64 k ∧ Blk wr w.heap.size 37 #[.slice A1 n1 c1, .slice A2 n2 c2, .slice A3 n3 c3, .int .i64 fuel] ∧ Blk wr (w.heap.size + 1) 37 #[.slice none 0 0, .slice none 0 0, .slice none 0 0, .int .i64 0] ∧ Blk wr (w.heap.size + 1 + 1) 37 #[sv, .slice none 0 0, .slice none 0 0, .int .i64 fuel] ∧ OwnR RowR 23 1 (w.heap.size + 1 + 1 + 1) wr sv (safe.take k) ∧ Below w.heap.size w wr ∧ w.heap.size + 1 + 1 + 1 ≤ wr.heap.size) (fun i _ => n1 - (intOf i).toNat)
  case atStart => exact ⟨0, _, Nat.zero_le _, rfl, ((Blk.new _ _ _).alloc _).alloc _, (Blk.new_at (by simp) _ _).alloc _, Blk.new_at (by simp) _ _, OwnR.nil, below_al (below_al (below_al (Below.refl _ _) _) _) _, by simp⟩
  case round =>
    obtain ⟨k, sv, hk, rfl, hin, hres, hbox, ⟨css, hels, hown⟩, hbw, hsz⟩ := hrel
    have hkl : (safe.take k).length = k := by simp [Hn1.out]; omega
    rw [hkl] at hown
    obtain ⟨Ak, ck, rfl, _, _⟩ := ownsRow_form hown
    by_cases hlt : k < n1
    · obtain ⟨x, hx⟩ : ∃ x, safe[k]? = some x := ⟨_, List.getElem?_eq_getElem (by rw [Hn1.out]; exact hlt)⟩
      have hwr := SeqR.keep Hs.out (rowR_stays (X := fun _ => true) rfl) rfl (KeepX.of_below hbw)
      obtain ⟨g, o, cs, rfl, hg, hl, ⟨u, rfl, hu⟩, hcell⟩ := SeqR.at_ hwr hx
      obtain ⟨A0, c0, rfl, hd1, hd2⟩ := bytesR_len hu
      have hcell0 : wr.cell? ⟨g, o + k, none⟩ = some (.slice A0 x.length c0) := by simpa only [Nat.add_zero, Nat.mul_one] using hcell 0 _ rfl
      have hb0 : wr.cell? ⟨w.heap.size + 1 + 1, 0, none⟩ = some (.slice Ak k ck) := hbox.cell 0
      have hxl := He1.out x (List.mem_of_getElem? hx)
      clear hcell hwr hl
      have Hx := Lib.hid hx
      have Hu := Lib.hid hu
      have Hin := Lib.hid hin
      have Hres := Lib.hid hres
      clear hres
      have Hbox := Lib.hid hbox
      have Hels := Lib.hid hels
      have Hown := Lib.hid hown
      have Hbw := Lib.hid hbw
      have Hkl := Lib.hid hkl
      have hne : some (w.heap.size + 1 + 1) ≠ (Value.slice Ak k ck).ownBlock := fun e => by have := (hown.lt _ e.symm).1; omega
      have Hne := Lib.hid hne
      clear hne
      clear hx hu hin hbox hels hown hbw hkl
      go_wp2_with fail
      go_region_law (first
          | (refine step_append_lies _ rfl (.tmp 21) (.tmp 24) _ rfl (w.heap.size + 1 + 1 + 1) 23 i23 _ 1 24 Try.underlying29 HI.out.1 HI.out.2.1 HI.out.2.2.1 HI.out.2.2.2 rfl (by omega) (.slice Ak k ck) k css.flatten rfl (ownsRow_keep Hown.out (X := fun _ => true) (((KeepX.refl _ wr).drew.below HB1.out).alloc _) rfl) ⟨w1.heap.size, 0, none⟩ 1 1 [.slice An x.length cn] rfl rfl (World.news_of_block (cs := #[.slice An x.length cn]) (heap_alloc_new w1 _)) (by simp [Value.oneCell']) (by omega) (by unfold maxLen; omega) (by omega) (by have hq : wr.heap.size ≤ w1.heap.size := hz1; simp; omega) (w1.heap.size + 1) (by simp) ?_; intro gg cap w2 hown2 hgr hat hlt2; have hbx2 := (((Hbox.out.drew).below HB1.out).alloc _).grown hgr Hne.out; have hfz := hbx2.frozen 0; have hcz := hbx2.cell 0; have Hbx2 := Lib.hid hbx2; have Hown2 := Lib.hid hown2; have Hgr := Lib.hid hgr; clear hbx2 hown2 hgr hat)
          | (go_simp; go_at_call 61; refine (clone_any _ x _ (by exact Hu.out) (by omega)).mono ?_; rintro e w1 ⟨An, cn, rfl, hown1, hb1⟩; obtain ⟨hx1, hy1, hz1, HB1⟩ := bcell hb1; have hq7 : w1.cell? ⟨w.heap.size + 1 + 1, 0, none⟩ = some (.slice Ak k ck) := (hx1 _ _ (by show w.heap.size + 1 + 1 < wr.heap.size; omega)).trans hb0; have hq8 : ∀ o, (w1.alloc o).cell? ⟨w.heap.size + 1 + 1, 0, none⟩ = some (.slice Ak k ck) := fun o => (World.cell?_alloc_lt w1 o ⟨w.heap.size + 1 + 1, 0, none⟩ (by have hq : wr.heap.size ≤ w1.heap.size := hz1; show w.heap.size + 1 + 1 < w1.heap.size; omega)).trans hq7; have Hown1 := Lib.hid hown1; clear hb1 hown1 hx1 hy1))
      all_goals
        go_wp2
        go_roundw
        case rel =>
          have hk1 : ∀ X : TypeId → Bool, KeepX X wr (w1.alloc (.cells #[.slice An x.length cn] 23)) := fun X => ((KeepX.refl X wr).drew.below HB1.out).alloc _
          have hown1' := ownsRow_keep Hown.out (hk1 fun _ => true) rfl
          have hk2 : KeepX (· == 5) wr (w2.setCell ⟨w.heap.size + 1 + 1, 0, none⟩ (.slice (some ⟨gg, 0, none⟩) (k + 1) cap)) :=
            ((hk1 _).grown_own hown1' Hgr.out rfl).setCell (p := ⟨w.heap.size + 1 + 1, 0, none⟩) Hbx2.out rfl _
          have hk3 : KeepX (· == 5) w1 (w2.setCell ⟨w.heap.size + 1 + 1, 0, none⟩ (.slice (some ⟨gg, 0, none⟩) (k + 1) cap)) :=
            (((KeepX.refl _ w1).alloc _).grown_own hown1' Hgr.out rfl).setCell (p := ⟨w.heap.size + 1 + 1, 0, none⟩) Hbx2.out rfl _
          refine ⟨k + 1, _, by omega, by go_num, ?_, ?_, Hbx2.out.set_ 0 _, ?_, ?_, ?_⟩
          · exact ((((Hin.out.drew).below HB1.out).alloc _).grown Hgr.out (fun e => by have := (Hown.out.lt _ e.symm).1; omega)).far (by simp; omega) _
          · exact ((((Hres.out.drew).below HB1.out).alloc _).grown Hgr.out (fun e => by have := (Hown.out.lt _ e.symm).1; omega)).far (by simp) _
          · rw [take_succ Hx.out]
            refine OwnR.snoc Hels.out (rowR_stays rfl) hk2 rfl ⟨_, rfl, BytesR.keep (X := (· == 5)) rfl hk3 (TSl.of_own Hown1.out)⟩ ?_
            rw [Hkl.out]
            exact ownsRow_keep Hown2.out (X := (· == 23)) ((KeepX.refl _ w2).setCell (p := ⟨w.heap.size + 1 + 1, 0, none⟩) Hbx2.out rfl _) rfl
          · exact (below_grown (below_al (below_tr Hbw.out.drew HB1.out) _) hown1' Hgr.out (by omega) (by have hq : wr.heap.size ≤ w1.heap.size := hz1; simp; omega)).setCell (by simp; omega) _
          · have hq : wr.heap.size ≤ w1.heap.size := hz1
            have hq2 := Hgr.out.size
            simp [World.setCell] at hq2 ⊢
            omega
        case measure => simp [intOf]; omega
    · obtain rfl : k = n1 := by omega
      have hta : safe.take k = safe := List.take_of_length_le (by rw [Hn1.out]; omega)
      rw [hta] at hels hkl
      have Hsafe : Hid (OwnR RowR 23 1 (w.heap.size + 1 + 1 + 1) wr (.slice Ak k ck) safe) := ⟨css, hels, by rw [hkl]; exact hown⟩
      have hb1 : wr.cell? ⟨w.heap.size, 1, none⟩ = some (.slice A2 n2 c2) := hin.cell 1
      have Hin := Lib.hid hin
      have Hres := Lib.hid hres
      clear hres
      have Hbox := Lib.hid hbox
      have Hbw := Lib.hid hbw
      clear hin hbox hbw hta hels hkl hown
      generalize hW : wr = W1 at *
      clear hW
      obtain ⟨i61, hi', hz0', hz1', hz2'⟩ := info_parts infoWr
      have HJ := Lib.hid (And.intro hi' (And.intro hz0' (And.intro hz1' hz2')))
      clear hi' hz0' hz1' hz2'
      go_wp2
      go_loopw [31] (fun i wr => ∃ (m : Nat) (cv : Value), m ≤ n2 ∧ i = .int .i64 m ∧ Blk wr w.heap.size 37 #[.slice A1 k c1, .slice A2 n2 c2, .slice A3 n3 c3, .int .i64 fuel] ∧ Blk wr (w.heap.size + 1) 37 #[.slice none 0 0, .slice none 0 0, .slice none 0 0, .int .i64 0] ∧ Blk wr (w.heap.size + 1 + 1) 37 #[.slice Ak k ck, cv, .slice none 0 0, .int .i64 fuel] ∧ OwnR RowR 23 1 (w.heap.size + 1 + 1 + 1) wr (.slice Ak k ck) safe ∧ OwnR WrR 61 2 (w.heap.size + 1 + 1 + 1) wr cv (cache.take m) ∧ Below w.heap.size w wr ∧ w.heap.size + 1 + 1 + 1 ≤ wr.heap.size) (fun i _ => n2 - (intOf i).toNat)
      case atStart => exact ⟨0, _, Nat.zero_le _, rfl, Hin.out, Hres.out, Hbox.out, Hsafe.out, OwnR.nil, Hbw.out, hsz⟩
      case round =>
        clear Hin Hres Hbox Hsafe Hbw hsz hb1 css W1
        obtain ⟨m, cv, hm, rfl, hin, hres, hbox, hsafe, ⟨css, hels, hown⟩, hbw, hsz⟩ := hrel
        have hkl : (cache.take m).length = m := by simp [Hn2.out]; omega
        rw [hkl] at hown
        obtain ⟨Am, cm, rfl, _, _⟩ := ownsRow_form hown
        have Hsafe := Lib.hid hsafe
        clear hsafe
        by_cases hlt : m < n2
        · obtain ⟨x, hx⟩ : ∃ x, cache[m]? = some x := ⟨_, List.getElem?_eq_getElem (by rw [Hn2.out]; exact hlt)⟩
          have hwr := SeqR.keep Hc.out (wrR_stays (X := fun _ => true) rfl) rfl (KeepX.of_below hbw)
          obtain ⟨g, o, cs, rfl, hg, hl, ⟨u, rfl, hu⟩, hcell⟩ := SeqR.at_ hwr hx
          obtain ⟨A0, c0, rfl, hd1, hd2⟩ := bytesR_len hu
          have hcell0 : wr.cell? ⟨g, o + m * 2, none⟩ = some (.int .i64 x.at_) := by simpa only [Nat.add_zero] using hcell 0 _ rfl
          have hcell1 := hcell 1 _ rfl
          have hb0 : wr.cell? ⟨w.heap.size + 1 + 1, 1, none⟩ = some (.slice Am m cm) := hbox.cell 1
          have hxl := He2.out x (List.mem_of_getElem? hx)
          have hne : some (w.heap.size + 1 + 1) ≠ (Value.slice Am m cm).ownBlock := fun e => by have := (hown.lt _ e.symm).1; omega
          have Hne := Lib.hid hne
          clear hne
          clear hcell hwr hl
          have Hx := Lib.hid hx
          have Hu := Lib.hid hu
          have Hin := Lib.hid hin
          have Hres := Lib.hid hres
          clear hres
          have Hbox := Lib.hid hbox
          have Hels := Lib.hid hels
          have Hown := Lib.hid hown
          have Hbw := Lib.hid hbw
          have Hkl := Lib.hid hkl
          clear hx hu hin hbox hels hown hbw hkl
          go_wp2_with fail
          have hbx : Blk (wr.alloc (.cells #[.int .i64 x.at_, .slice A0 x.data.length c0] 61)) wr.heap.size 61 #[.int .i64 x.at_, .slice A0 x.data.length c0] := Blk.new _ _ _
          have hk0 : ∀ X : TypeId → Bool, KeepX X wr (wr.alloc (.cells #[.int .i64 x.at_, .slice A0 x.data.length c0] 61)) := fun X => (KeepX.refl X wr).alloc _
          have hbw' := below_al Hbw.out (.cells #[.int .i64 x.at_, .slice A0 x.data.length c0] 61)
          have hsz' : wr.heap.size + 1 = (wr.alloc (.cells #[.int .i64 x.at_, .slice A0 x.data.length c0] 61)).heap.size := by simp
          generalize wr.alloc (.cells #[.int .i64 x.at_, .slice A0 x.data.length c0] 61) = V at *
          have hsv : wr.heap.size < V.heap.size := by omega
          have Hsz' := Lib.hid hsz'
          clear hsz'
          have Hbx := Lib.hid hbx
          have hv0 := hbx.cell 0
          have hv1 := hbx.cell 1
          have hbox' := Hbox.out.keep (hk0 fun _ => true) rfl
          have hb0 : V.cell? ⟨w.heap.size + 1 + 1, 1, none⟩ = some (.slice Am m cm) := hbox'.cell 1
          have Hbox' := Lib.hid hbox'
          have Hbw' := Lib.hid hbw'
          have Hk0 := Lib.hid hk0
          clear hbx hbox' hbw' hk0
          go_region_law (first
            | (refine step_append_lies _ rfl (.tmp 36) (.tmp 43) _ rfl (w.heap.size + 1 + 1 + 1) 61 i61 _ 2 32 Try.underlying34 HJ.out.1 HJ.out.2.1 HJ.out.2.2.1 HJ.out.2.2.2 rfl (by omega) (.slice Am m cm) m css.flatten rfl (ownsRow_keep Hown.out (X := fun _ => true) (((Hk0.out _).drew.below HB1.out).alloc _) rfl) ⟨w1.heap.size, 0, none⟩ 1 1 [.int .i64 x.at_, .slice An x.data.length cn] rfl rfl (World.news_of_block (cs := #[.int .i64 x.at_, .slice An x.data.length cn]) (heap_alloc_new w1 _)) (by simp [Value.oneCell']) (by omega) (by unfold maxLen; omega) (by omega) (by have hq : V.heap.size ≤ w1.heap.size := hz1; simp; omega) (w1.heap.size + 1) (by simp) ?_; intro gg cap w2 hown2 hgr hat hlt2; have hbx2 := (((Hbox'.out.drew).below HB1.out).alloc _).grown hgr Hne.out; have hfz := hbx2.frozen 1; have hcz := hbx2.cell 1; have Hbx2 := Lib.hid hbx2; have Hown2 := Lib.hid hown2; have Hgr := Lib.hid hgr; clear hbx2 hown2 hgr hat)
            | (go_simp; go_at_call 61; refine (clone_any _ x.data _ (by exact BytesR.keep (X := fun _ => true) rfl (Hk0.out _).drew Hu.out) (by omega)).mono ?_; rintro e w1 ⟨An, cn, rfl, hown1, hb1⟩; obtain ⟨hx1, hy1, hz1, HB1⟩ := bcell hb1; have hq7 : w1.cell? ⟨w.heap.size + 1 + 1, 1, none⟩ = some (.slice Am m cm) := (hx1 _ _ (by show w.heap.size + 1 + 1 < V.heap.size; omega)).trans hb0; have hq9 : w1.cell? ⟨wr.heap.size, 0, none⟩ = some (.int .i64 x.at_) := (hx1 _ _ (by show wr.heap.size < V.heap.size; omega)).trans hv0; have hq8 : ∀ o, (w1.alloc o).cell? ⟨w.heap.size + 1 + 1, 1, none⟩ = some (.slice Am m cm) := fun o => (World.cell?_alloc_lt w1 o ⟨w.heap.size + 1 + 1, 1, none⟩ (by have hq : V.heap.size ≤ w1.heap.size := hz1; show w.heap.size + 1 + 1 < w1.heap.size; omega)).trans hq7; have Hown1 := Lib.hid hown1; clear hb1 hown1 hx1 hy1))
          all_goals
            go_wp2
            go_roundw
            case rel =>
              have hk1 : ∀ X : TypeId → Bool, KeepX X wr (w1.alloc (.cells #[.int .i64 x.at_, .slice An x.data.length cn] 61)) := fun X => ((Hk0.out X).drew.below HB1.out).alloc _
              have hown1' := ownsRow_keep Hown.out (hk1 fun _ => true) rfl
              have hk2 : KeepX (fun t => t == 5 || t == 23) wr (w2.setCell ⟨w.heap.size + 1 + 1, 1, none⟩ (.slice (some ⟨gg, 0, none⟩) (m + 1) cap)) :=
                ((hk1 _).grown_own hown1' Hgr.out rfl).setCell (p := ⟨w.heap.size + 1 + 1, 1, none⟩) Hbx2.out rfl _
              have hk3 : KeepX (fun t => t == 5 || t == 23) w1 (w2.setCell ⟨w.heap.size + 1 + 1, 1, none⟩ (.slice (some ⟨gg, 0, none⟩) (m + 1) cap)) :=
                (((KeepX.refl _ w1).alloc _).grown_own hown1' Hgr.out rfl).setCell (p := ⟨w.heap.size + 1 + 1, 1, none⟩) Hbx2.out rfl _
              refine ⟨m + 1, _, by omega, by go_num, ?_, ?_, Hbx2.out.set_ 1 _, ?_, ?_, ?_, ?_⟩
              · exact (((((Hin.out.keep (Hk0.out fun _ => true) rfl).drew).below HB1.out).alloc _).grown Hgr.out (fun e => by have := (Hown.out.lt _ e.symm).1; omega)).far (by simp; omega) _
              · exact (((((Hres.out.keep (Hk0.out fun _ => true) rfl).drew).below HB1.out).alloc _).grown Hgr.out (fun e => by have := (Hown.out.lt _ e.symm).1; omega)).far (by simp) _
              · exact Hsafe.out.keep (rowR_stays rfl) hk2 rfl
              · rw [take_succ Hx.out]
                refine OwnR.snoc Hels.out (wrR_stays rfl) hk2 rfl ⟨_, rfl, BytesR.keep (X := fun t => t == 5 || t == 23) rfl hk3 (TSl.of_own Hown1.out)⟩ ?_
                rw [Hkl.out]
                exact ownsRow_keep Hown2.out (X := (· == 61)) ((KeepX.refl _ w2).setCell (p := ⟨w.heap.size + 1 + 1, 1, none⟩) Hbx2.out rfl _) rfl
              · exact (below_grown (below_al (below_tr Hbw'.out.drew HB1.out) _) hown1' Hgr.out (by omega) (by have hq : V.heap.size ≤ w1.heap.size := hz1; simp; omega)).setCell (by simp; omega) _
              · have hq : V.heap.size ≤ w1.heap.size := hz1
                have hq2 := Hgr.out.size
                simp [World.setCell] at hq2 ⊢
                omega
            case measure => simp [intOf]; omega
        · obtain rfl : m = n2 := by omega
          have hta : cache.take m = cache := List.take_of_length_le (by rw [Hn2.out]; omega)
          rw [hta] at hels hkl
          have Hcache : Hid (OwnR WrR 61 2 (w.heap.size + 1 + 1 + 1) wr (.slice Am m cm) cache) := ⟨css, hels, by rw [hkl]; exact hown⟩
          have hb1 : wr.cell? ⟨w.heap.size, 2, none⟩ = some (.slice A3 n3 c3) := hin.cell 2
          have Hin := Lib.hid hin
          have Hres := Lib.hid hres
          clear hres
          have Hbox := Lib.hid hbox
          have Hbw := Lib.hid hbw
          clear hin hbox hbw hta hels hkl hown
          obtain ⟨i104, hi', hz0', hz1', hz2'⟩ := info_parts infoVol
          have HK := Lib.hid (And.intro hi' (And.intro hz0' (And.intro hz1' hz2')))
          clear hi' hz0' hz1' hz2' HJ HI
          generalize hV3 : wr = V3 at *
          clear hV3
          go_wp2
          go_loopw [50] (fun i wr => ∃ (q : Nat) (vv : Value) (css : List (List Value)), q ≤ n3 ∧ i = .int .i64 q ∧ Blk wr (w.heap.size + 1) 37 #[.slice none 0 0, .slice none 0 0, .slice none 0 0, .int .i64 0] ∧ Blk wr (w.heap.size + 1 + 1) 37 #[.slice Ak k ck, .slice Am m cm, vv, .int .i64 fuel] ∧ KeepX diskX V3 wr ∧ Els (VolO V3.heap.size) 3 wr css (vols.take q) ∧ wr.ownsRow (w.heap.size + 1 + 1 + 1) 104 3 vv q css.flatten ∧ Sep css ∧ Below w.heap.size w wr ∧ V3.heap.size ≤ wr.heap.size ∧ (∀ c ∈ css, ∀ g, dataBlock c = some g → g < wr.heap.size)) (fun i _ => n3 - (intOf i).toNat)
          case atStart => exact ⟨0, _, [], Nat.zero_le _, rfl, Hres.out, Hbox.out, KeepX.refl _ _, Els.nil, World.ownsRow_nil _ _ _ _, fun i j ci cj g _ h => by simp at h, Hbw.out, Nat.le_refl _, by simp⟩
          case round =>
            clear Hin Hres Hbox Hbw hb1 css
            obtain ⟨q, vv, css, hq, rfl, hres, hbox, hk3, hels, hown, hsep, hbw, hszv, hdb⟩ := hrel
            have hkl : (vols.take q).length = q := by simp [Hn3.out]; omega
            obtain ⟨Aq, cq, rfl, _, _⟩ := ownsRow_form hown
            by_cases hlt : q < n3
            · obtain ⟨x, hx⟩ : ∃ x, vols[q]? = some x := ⟨_, List.getElem?_eq_getElem (by rw [Hn3.out]; exact hlt)⟩
              have hwr := SeqR.keep Hv.out (volR_stays (X := fun _ => true) rfl) rfl (KeepX.of_below hbw)
              obtain ⟨g, o, cs, rfl, hg, hl, ⟨u, rfl, hu⟩, hcell⟩ := SeqR.at_ hwr hx
              obtain ⟨A0, c0, rfl, hd1, hd2⟩ := bytesR_len hu
              have hcell0 : wr.cell? ⟨g, o + q * 3, none⟩ = some (.slice A0 x.data.length c0) := by simpa only [Nat.add_zero] using hcell 0 _ rfl
              have hcell1 := hcell 1 _ rfl
              have hcell2 := hcell 2 _ rfl
              have hxl := He3.out x (List.mem_of_getElem? hx)
              have hne : some (w.heap.size + 1 + 1) ≠ (Value.slice Aq q cq).ownBlock := fun e => by have := (hown.lt _ e.symm).1; omega
              have hne2 : some wr.heap.size ≠ (Value.slice Aq q cq).ownBlock := fun e => by have := (hown.lt _ e.symm).2; omega
              have Hne := Lib.hid hne
              have Hne2 := Lib.hid hne2
              clear hne hne2
              clear hcell hwr hl
              have Hx := Lib.hid hx
              have Hres := Lib.hid hres
              clear hres
              have Hu := Lib.hid hu
              have Hbox := Lib.hid hbox
              have Hels := Lib.hid hels
              have Hown := Lib.hid hown
              have Hbw := Lib.hid hbw
              have Hkl := Lib.hid hkl
              have Hk3 := Lib.hid hk3
              have Hsep := Lib.hid hsep
              have Hdb := Lib.hid hdb
              clear hx hu hbox hels hown hbw hkl hk3 hsep hdb
              go_wp2_with fail
              have hbx : Blk (wr.alloc (.cells #[.slice A0 x.data.length c0, .int .i64 x.synced, .bool x.gone] 104)) wr.heap.size 104 #[.slice A0 x.data.length c0, .int .i64 x.synced, .bool x.gone] := Blk.new _ _ _
              have hk0 : Below wr.heap.size wr (wr.alloc (.cells #[.slice A0 x.data.length c0, .int .i64 x.synced, .bool x.gone] 104)) := below_al (Below.refl _ _) _
              have hsz' : wr.heap.size + 1 = (wr.alloc (.cells #[.slice A0 x.data.length c0, .int .i64 x.synced, .bool x.gone] 104)).heap.size := by simp
              generalize wr.alloc (.cells #[.slice A0 x.data.length c0, .int .i64 x.synced, .bool x.gone] 104) = V at *
              refine (clone_any _ x.data _ (BytesR.keep (X := fun _ => true) rfl (KeepX.of_below hk0) Hu.out) (by omega)).mono ?_
              rintro e w1 ⟨An, cn, rfl, hown1, hb1⟩
              have hbx1 := hbx.below hb1
              have hbox1 := (Hbox.out.below hk0).below hb1
              have hf0 := hbx1.frozen 0
              have hr1 := hbx1.cell 1
              have hr2 := hbx1.cell 2
              have hr0 := hbx1.cell 0
              have hr3 := hbox1.cell 2
              have hf3 := hbox1.frozen 2
              have Hbx1 := Lib.hid hbx1
              have Hbox1 := Lib.hid hbox1
              have Hown1 := Lib.hid hown1
              have HB1 := Lib.hid hb1
              have Hk0 := Lib.hid hk0
              have hsz1 := hb1.size
              have Hsz' := Lib.hid hsz'
              have hsz2 : wr.heap.size + 1 ≤ w1.heap.size := by omega
              clear hbx1 hbox1 hown1 hb1 hbx hk0 hsz'
              have hV2 : ∀ b, b ≠ wr.heap.size → (w1.setCell ⟨wr.heap.size, 0, none⟩ (.slice An x.data.length cn)).heap[b]? = w1.heap[b]? := fun b hb => Below.heap_setCell w1 _ _ b hb
              have hV2s : (w1.setCell ⟨wr.heap.size, 0, none⟩ (.slice An x.data.length cn)).heap.size = w1.heap.size := by simp [World.setCell]
              have HV2 := Lib.hid hV2
              have HV2s := Lib.hid hV2s
              clear hV2 hV2s
              go_wp2_with (at_builtin; refine wpList_append_lies _ rfl (.tmp 59) (.tmp 61) _ rfl (w.heap.size + 1 + 1 + 1) 104 i104 _ 3 40 Try.underlying35 HK.out.1 HK.out.2.1 HK.out.2.2.1 HK.out.2.2.2 rfl (by omega) (.slice Aq q cq) q css.flatten rfl (ownsRow_block (w := w1.setCell ⟨wr.heap.size, 0, none⟩ (.slice An x.data.length cn)) (ownsRow_block (w := wr) Hown.out fun g' hg' => (HV2.out g' (fun e => Hne2.out (by rw [← e, hg']))).trans (((HB1.out.mono Hk0.out.size).block g' ((Hown.out.lt _ hg').2)).trans (Hk0.out.block g' ((Hown.out.lt _ hg').2)))) fun g' hg' => Below.heap_alloc _ _ g' (by rw [HV2s.out]; have := (Hown.out.lt _ hg').2; omega)) ⟨w1.heap.size, 0, none⟩ 1 1 [.slice An x.data.length cn, .int .i64 x.synced, .bool x.gone] rfl rfl (by have := World.news_of_block (cs := #[.slice An x.data.length cn, .int .i64 x.synced, .bool x.gone]) (heap_alloc_new (w1.setCell ⟨wr.heap.size, 0, none⟩ (.slice An x.data.length cn)) (.cells #[.slice An x.data.length cn, .int .i64 x.synced, .bool x.gone] 104)); rw [HV2s.out] at this; exact this) (by simp [Value.oneCell']) (by omega) (by unfold maxLen; omega) (by omega) (by simp; omega) (w1.heap.size + 1) (by simp [HV2s.out]) ?_; intro gg cap w2 hown2 hgr hat hlt2; have hbx2 := ((Hbox1.out.far (p := ⟨wr.heap.size, 0, none⟩) (by simp; omega) (.slice An x.data.length cn)).alloc (.cells #[.slice An x.data.length cn, .int .i64 x.synced, .bool x.gone] 104)).grown hgr Hne.out; have hfz := hbx2.frozen 2; have hcz := hbx2.cell 2; have Hbx2 := Lib.hid hbx2; have Hown2 := Lib.hid hown2; have Hgr := Lib.hid hgr; clear hbx2 hown2 hgr hat)
              go_roundw
              case rel =>
                have hb2 := Hgr.out.size
                simp [HV2s.out] at hb2
                have hbr : Below wr.heap.size wr w1 := Hk0.out.trans (HB1.out.mono Hk0.out.size)
                have hszV := Hsz'.out
                have hbr' : Below wr.heap.size wr w1 := hbr
                have hkd : ∀ X : TypeId → Bool, X 104 = false → X 37 = false → ∀ Z, KeepX X Z w1 → KeepX X Z (w2.setCell ⟨w.heap.size + 1 + 1, 2, none⟩ (.slice (some ⟨gg, 0, none⟩) (q + 1) cap)) := fun X h1 h2 Z hz =>
                  (((hz.setCell (p := ⟨wr.heap.size, 0, none⟩) Hbx1.out h1 _).alloc _).grown Hgr.out (fun g' cur t fr hr hb => by
                    rcases Hown.out.2 with ⟨e, _⟩ | ⟨g2, cap2, cur2, e, _, hg2, _⟩
                    · rw [e] at hr; simp [Value.ownBlock] at hr
                    · rw [e] at hr
                      simp only [Value.ownBlock, Option.some.injEq] at hr
                      subst hr
                      have hl := lt_of_block hg2
                      rw [Below.heap_alloc _ _ _ (by rw [HV2s.out]; omega), HV2.out _ (by omega), hbr.block _ hl, hg2] at hb
                      cases hb; exact h1)).setCell (p := ⟨w.heap.size + 1 + 1, 2, none⟩) Hbx2.out h2 _
                have hfar : ∀ g', g' ≠ w.heap.size + 1 + 1 → (w2.setCell ⟨w.heap.size + 1 + 1, 2, none⟩ (.slice (some ⟨gg, 0, none⟩) (q + 1) cap)).heap[g']? = w2.heap[g']? := fun g' h => Below.heap_setCell w2 _ _ g' h
                refine ⟨q + 1, _, css ++ [[.slice An x.data.length cn, .int .i64 x.synced, .bool x.gone]], by omega, by go_num, ?_, Hbx2.out.set_ 2 _, ?_, ?_, ?_, ?_, ?_, ?_, ?_⟩
                · exact ((((Hres.out.below hbr').far (p := ⟨wr.heap.size, 0, none⟩) (by have := Hres.out.lt; simp; omega) _).alloc _).grown Hgr.out (fun e => by have := (Hown.out.lt _ e.symm).1; omega)).far (by simp) _
                · exact hkd diskX rfl rfl V3 (Hk3.out.trans (KeepX.of_below hbr))
                · rw [take_succ Hx.out]
                  refine ((Hels.out.keep (volO_stays (X := (· == 5)) rfl) (hkd _ rfl rfl wr (KeepX.of_below hbr))).snoc rfl ⟨_, rfl, ?_⟩)
                  exact ownsRow_base (ownsRow_keep Hown1.out (hkd (· == 5) rfl rfl w1 (KeepX.refl _ _)) rfl) (by show V3.heap.size ≤ V.heap.size; omega)
                · rw [List.flatten_append]
                  refine ownsRow_block (w := w2) (by simpa using Hown2.out) fun g' hg' => hfar g' ?_
                  have := (Hown2.out.lt _ hg').1; omega
                · refine Hsep.out.snoc fun g' hg' c hc hcc => ?_
                  have h1 := Hdb.out c hc g' hcc
                  have h2 := (Hown1.out.lt g' hg').1
                  omega
                · refine (Below.grown (((below_tr Hbw.out (hbr)).setCell (p := ⟨wr.heap.size, 0, none⟩) (by have := Hbw.out.size; simp; omega) _).alloc (by rw [HV2s.out]; have := Hbw.out.size; omega) _) Hgr.out (by simp [HV2s.out]; have := Hbw.out.size; omega) (fun g' hg' => by have := (Hown.out.lt _ hg').1; omega)).setCell (by simp; omega) _
                · simp [World.setCell]; omega
                · intro c hc g' hg'
                  have hsize : (w2.setCell ⟨w.heap.size + 1 + 1, 2, none⟩ (.slice (some ⟨gg, 0, none⟩) (q + 1) cap)).heap.size = w2.heap.size := by simp [World.setCell]
                  rw [hsize]
                  rcases List.mem_append.1 hc with hc | hc
                  · have := Hdb.out c hc g' hg'; omega
                  · simp only [List.mem_singleton] at hc
                    subst hc
                    have := (Hown1.out.lt g' hg').2
                    omega
              case measure => simp [intOf]; omega
            · obtain rfl : q = n3 := by omega
              have hta : vols.take q = vols := List.take_of_length_le (by rw [Hn3.out]; omega)
              rw [hta] at hels
              have hr0 := hbox.cell 0
              have hr1 := hbox.cell 1
              have hr2 := hbox.cell 2
              have hr3 := hbox.cell 3
              have hz0 := hres.cell 0
              have hz1 := hres.cell 1
              have hz2 := hres.cell 2
              have hz3 := hres.cell 3
              have hzf := hres.frozen 0
              have hzf1 := hres.frozen 1
              have hzf2 := hres.frozen 2
              have hzf3 := hres.frozen 3
              have Hres := Lib.hid hres
              have Hbox := Lib.hid hbox
              have Hels := Lib.hid hels
              have Hown := Lib.hid hown
              have Hbw := Lib.hid hbw
              have Hk3 := Lib.hid hk3
              have Hsep := Lib.hid hsep
              clear hbox hels hown hbw hk3 hsep hdb hkl hta hres
              go_wp2
              refine bodyPost_ret (v := .agg #[.slice Ak k ck, .slice Am m cm, .slice Aq q cq, .int .i64 fuel]) (by simp [results, Try.results62, go_sem, hz0, hz1, hz2, hz3]) rfl ?_
              have hkx : ∀ X : TypeId → Bool, X 37 = false → KeepX X wr ((((wr.setCell ⟨w.heap.size + 1, 0, none⟩ (.slice Ak k ck)).setCell ⟨w.heap.size + 1, 1, none⟩ (.slice Am m cm)).setCell ⟨w.heap.size + 1, 2, none⟩ (.slice Aq q cq)).setCell ⟨w.heap.size + 1, 3, none⟩ (.int .i64 fuel)) := fun X hX =>
                ((((KeepX.refl X wr).setCell (p := ⟨w.heap.size + 1, 0, none⟩) Hres.out hX _).setCell (p := ⟨w.heap.size + 1, 1, none⟩) (Hres.out.set_ 0 _) hX _).setCell (p := ⟨w.heap.size + 1, 2, none⟩) ((Hres.out.set_ 0 _).set_ 1 _) hX _).setCell (p := ⟨w.heap.size + 1, 3, none⟩) (((Hres.out.set_ 0 _).set_ 1 _).set_ 2 _) hX _
              refine ⟨_, rfl, ⟨_, _, _, V3, css, rfl, Hsafe.out.base_mono (show w.heap.size ≤ w.heap.size + 1 + 1 + 1 by omega), Hcache.out.base_mono (show w.heap.size ≤ w.heap.size + 1 + 1 + 1 by omega), Hk3.out.trans (hkx _ rfl), by omega, Hels.out.keep (volO_stays (X := (· == 5)) rfl) (hkx _ rfl), ?_, Hsep.out⟩, ?_⟩
              · show World.ownsRow _ _ _ _ _ vols.length _
                rw [Hn3.out]
                exact ownsRow_base (ownsRow_keep Hown.out (hkx (· == 104) rfl) rfl) (show w.heap.size ≤ w.heap.size + 1 + 1 + 1 by omega)
              · exact (((Hbw.out.setCell (p := ⟨w.heap.size + 1, 0, none⟩) (by simp) _).setCell (p := ⟨w.heap.size + 1, 1, none⟩) (by simp) _).setCell (p := ⟨w.heap.size + 1, 2, none⟩) (by simp) _).setCell (p := ⟨w.heap.size + 1, 3, none⟩) (by simp) _
end Go.Proofs.Ytomfladifefomaa
