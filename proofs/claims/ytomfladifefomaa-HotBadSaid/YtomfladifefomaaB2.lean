/- The devices' own copies, spend, New, volume. Conditions: as each law states them. -/
import Derived.Test.YtomfladifefomaaRows
import Derived.Test.YtomfladifefomaaA1
import Derived.Test.YtomfladifefomaaB1
import Derived.Deep.RegionHeld3
import Derived.Deep.RegionLaw
-- T7: 
namespace Go.Proofs.Ytomfladifefomaa
open Go.RowKit
theorem clone_any (v : Value) (bs : List UInt8) (w : World) (h : BytesR w v bs) (hn : bs.length ≤ 1000000000) :
    Calls Try.prog 61 #[v] w fun e w' => ∃ A c, e = .returned (.slice A bs.length c) ∧ w'.ownsRow w.heap.size 5 1 (.slice A bs.length c) bs.length (bs.map enc8) ∧ Below w.heap.size w w' := by
  have h0 := h
  obtain ⟨A, c, rfl, h1, h2, h3, h4⟩ := h
  cases A with
  | none =>
    have hz : bs.length = 0 := by
      rcases Nat.eq_zero_or_pos bs.length with e | e
      · exact e
      · obtain ⟨g, o, cur, fr, e, _⟩ := h4 e; cases e
    have hb : bs = [] := List.eq_nil_of_length_eq_zero hz
    subst hb
    refine (clone_nil c w).mono ?_
    rintro e w' ⟨rfl, rfl⟩
    exact ⟨none, 0, rfl, World.ownsRow_nil _ _ _ _, Below.refl _ _⟩
  | some a =>
    refine (clone_some a _ c _ w h0 (enc8_one bs) hn).mono ?_
    rintro e w' ⟨v', rfl, hown, hb⟩
    rcases hown.2 with ⟨rfl, hz⟩ | ⟨g, cap, cur, rfl, _⟩
    · exact ⟨none, 0, by rw [hz], by rw [hz] at *; exact hown, hb⟩
    · exact ⟨_, cap, rfl, hown, hb⟩
theorem infoRow : (Try.prog.info? 23).map (fun i => (i.zero, i.size, i.bytes)) = some (some (.slice none 0 0), 1, 24) := by kernel_rfl
theorem infoWr : (Try.prog.info? 61).map (fun i => (i.zero, i.size, i.bytes)) = some (some (.agg #[.int .i64 0, .slice none 0 0]), 2, 32) := by kernel_rfl
theorem infoVol : (Try.prog.info? 104).map (fun i => (i.zero, i.size, i.bytes)) = some (some (.agg #[.slice none 0 0, .int .i64 0, .bool false]), 3, 40) := by kernel_rfl
/-- a volume whose bytes lie in a row of their own, from block B on -/
def VolO (B : Nat) (w : World) (x : Vol) (cs : List Value) : Prop := ∃ u, cs = [u, .int .i64 x.synced, .bool x.gone] ∧ w.ownsRow B 5 1 u x.data.length (x.data.map enc8)
theorem volO_stays {B : Nat} {X : TypeId → Bool} (hx : X 5 = true) : Stays (VolO B) X := fun _ _ _ _ hk ⟨u, e, h⟩ => ⟨u, e, ownsRow_keep h hk hx⟩
def dataBlock (cs : List Value) : Option Nat := match cs with | u :: _ => u.ownBlock | [] => none
/-- no two volumes' bytes lie in one block -/
def Sep (css : List (List Value)) : Prop := ∀ (i j : Nat) (ci cj : List Value) (g : Nat), i ≠ j → css[i]? = some ci → css[j]? = some cj → dataBlock ci = some g → dataBlock cj ≠ some g
theorem Sep.snoc {css : List (List Value)} {cs : List Value} (h : Sep css) (hn : ∀ g, dataBlock cs = some g → ∀ c ∈ css, dataBlock c ≠ some g) : Sep (css ++ [cs]) := by
  intro i j ci cj g hij hi hj hb hb'
  have li : i < (css ++ [cs]).length := (List.getElem?_eq_some_iff.1 hi).1
  have lj : j < (css ++ [cs]).length := (List.getElem?_eq_some_iff.1 hj).1
  simp at li lj
  by_cases h1 : i < css.length
  · rw [List.getElem?_append_left h1] at hi
    by_cases h2 : j < css.length
    · rw [List.getElem?_append_left h2] at hj
      exact h i j ci cj g hij hi hj hb hb'
    · have e : j = css.length := by omega
      subst e
      simp at hj
      subst hj
      exact hn g hb' ci (List.mem_of_getElem? hi) hb
  · have e : i = css.length := by omega
    subst e
    simp at hi
    subst hi
    have h2 : j < css.length := by omega
    rw [List.getElem?_append_left h2] at hj
    exact hn g hb cj (List.mem_of_getElem? hj) hb'
/-- what lies with disk and cache: bytes, rows of them, writes -/
def diskX (t : TypeId) : Bool := t == 5 || t == 23 || t == 61
/-- devices in memory of their own: each part may be changed by itself -/
def OwnDev (base : Nat) (w : World) (dv : Value) (d : Dev) : Prop := ∃ (s c v : Value) (V : World) (css : List (List Value)), dv = .agg #[s, c, v, .int .i64 d.fuel] ∧
  OwnR RowR 23 1 base V s d.safe ∧ OwnR WrR 61 2 base V c d.cache ∧ KeepX diskX V w ∧ base ≤ V.heap.size ∧
  Els (VolO V.heap.size) 3 w css d.vols ∧ w.ownsRow base 104 3 v d.vols.length css.flatten ∧ Sep css
theorem take_succ {α : Type} {l : List α} {k : Nat} {x : α} (h : l[k]? = some x) : l.take (k + 1) = l.take k ++ [x] := by
  rw [List.take_add_one, h]; rfl
set_option maxRecDepth 100000 in
set_option maxHeartbeats 4000000 in
theorem own_any (d : Dev) (dv : Value) (w : World) (h : DevR w dv d) (hd1 : d.safe.length ≤ 100000) (hd2 : d.cache.length ≤ 100000) (hd3 : d.vols.length ≤ 100000)
    (he1 : ∀ s ∈ d.safe, s.length ≤ 100000) (he2 : ∀ x ∈ d.cache, x.data.length ≤ 100000) (he3 : ∀ x ∈ d.vols, x.data.length ≤ 100000) :
    Calls Try.prog 62 #[dv] w fun e w' => ∃ dv', e = .returned dv' ∧ OwnDev w.heap.size w' dv' d ∧ Below w.heap.size w w' := by
  obtain ⟨s, c, v, rfl, hs, hc, hv⟩ := h
  obtain ⟨A1, c1, rfl, hs1, hs2⟩ := SeqR.form hs
  obtain ⟨A2, c2, rfl, hc1, hc2⟩ := SeqR.form hc
  obtain ⟨A3, c3, rfl, hv1, hv2⟩ := SeqR.form hv
  obtain ⟨i23, hi, hz0, hz1, hz2⟩ := info_parts infoRow
  have Hs := Lib.hid hs
  have Hc := Lib.hid hc
  have Hv := Lib.hid hv
  have He1 := Lib.hid he1
  have He2 := Lib.hid he2
  have He3 := Lib.hid he3
  have HI := Lib.hid (And.intro hi (And.intro hz0 (And.intro hz1 hz2)))
  clear hs hc hv hi hz0 hz1 hz2 he1 he2 he3
  obtain ⟨safe, cache, vols, fuel⟩ := d
  simp only at *
  generalize hn1 : safe.length = n1 at *
  generalize hn2 : cache.length = n2 at *
  generalize hn3 : vols.length = n3 at *
  have Hn1 := Lib.hid hn1
  have Hn2 := Lib.hid hn2
  have Hn3 := Lib.hid hn3
  clear hn1 hn2 hn3
  go_enter Try.func62, Try.ntmps62
  go_wp2
  go_loopw [16] (fun i wr => ∃ (k : Nat) (sv : Value), k ≤ n1 ∧ i = .int .i64 k ∧ Blk wr w.heap.size 37 #[.slice A1 n1 c1, .slice A2 n2 c2, .slice A3 n3 c3, .int .i64 fuel] ∧ Blk wr (w.heap.size + 1) 37 #[.slice none 0 0, .slice none 0 0, .slice none 0 0, .int .i64 0] ∧ Blk wr (w.heap.size + 1 + 1) 37 #[sv, .slice none 0 0, .slice none 0 0, .int .i64 fuel] ∧ OwnR RowR 23 1 (w.heap.size + 1 + 1 + 1) wr sv (safe.take k) ∧ Below w.heap.size w wr ∧ w.heap.size + 1 + 1 + 1 ≤ wr.heap.size) (fun i _ => n1 - (intOf i).toNat)
  case atStart => exact ⟨0, _, Nat.zero_le _, rfl, ((Blk.new _ _ _).alloc _).alloc _, (Blk.new_at (by simp) _ _).alloc _, Blk.new_at (by simp) _ _, OwnR.nil, below_al (below_al (below_al (Below.refl _ _) _) _) _, by simp⟩
  case round =>
    obtain ⟨k, sv, hk, rfl, hin, hres, hbox, ⟨css, hels, hown⟩, hbw, hsz⟩ := hrel
    have hkl : (safe.take k).length = k := by simp [Hn1.out]; omega
    rw [hkl] at hown
    obtain ⟨Ak, ck, rfl, _, _⟩ := ownsRow_form hown
    by_cases hlt : k < n1
    · obtain ⟨x, hx⟩ : ∃ x, safe[k]? = some x := ⟨_, List.getElem?_eq_getElem (by rw [Hn1.out]; exact hlt)⟩
      have hwr := SeqR.keep Hs.out (rowR_stays (X := fun _ => true) rfl) rfl (KeepX.of_below hbw)
      obtain ⟨g, o, cs, rfl, hg, hl, ⟨u, rfl, hu⟩, hcell⟩ := SeqR.at_ hwr hx
      obtain ⟨A0, c0, rfl, hd1, hd2⟩ := bytesR_len hu
      have hcell0 : wr.cell? ⟨g, o + k, none⟩ = some (.slice A0 x.length c0) := by simpa only [Nat.add_zero, Nat.mul_one] using hcell 0 _ rfl
      have hb0 : wr.cell? ⟨w.heap.size + 1 + 1, 0, none⟩ = some (.slice Ak k ck) := hbox.cell 0
      have hxl := He1.out x (List.mem_of_getElem? hx)
      clear hcell hwr hl
      have Hx := Lib.hid hx
      have Hu := Lib.hid hu
      have Hin := Lib.hid hin
      have Hres := Lib.hid hres
      clear hres
      have Hbox := Lib.hid hbox
      have Hels := Lib.hid hels
      have Hown := Lib.hid hown
      have Hbw := Lib.hid hbw
      have Hkl := Lib.hid hkl
      have hne : some (w.heap.size + 1 + 1) ≠ (Value.slice Ak k ck).ownBlock := fun e => by have := (hown.lt _ e.symm).1; omega
      have Hne := Lib.hid hne
      clear hne
      clear hx hu hin hbox hels hown hbw hkl
      go_wp2_with fail
      go_region_law (first
          | (refine step_append_lies _ rfl (.tmp 21) (.tmp 24) _ rfl (w.heap.size + 1 + 1 + 1) 23 i23 _ 1 24 Try.underlying29 HI.out.1 HI.out.2.1 HI.out.2.2.1 HI.out.2.2.2 rfl (by omega) (.slice Ak k ck) k css.flatten rfl (ownsRow_keep Hown.out (X := fun _ => true) (((KeepX.refl _ wr).drew.below HB1.out).alloc _) rfl) ⟨w1.heap.size, 0, none⟩ 1 1 [.slice An x.length cn] rfl rfl (World.news_of_block (cs := #[.slice An x.length cn]) (heap_alloc_new w1 _)) (by simp [Value.oneCell']) (by omega) (by unfold maxLen; omega) (by omega) (by have hq : wr.heap.size ≤ w1.heap.size := hz1; simp; omega) (w1.heap.size + 1) (by simp) ?_; intro gg cap w2 hown2 hgr hat hlt2; have hbx2 := (((Hbox.out.drew).below HB1.out).alloc _).grown hgr Hne.out; have hfz := hbx2.frozen 0; have hcz := hbx2.cell 0; have Hbx2 := Lib.hid hbx2; have Hown2 := Lib.hid hown2; have Hgr := Lib.hid hgr; clear hbx2 hown2 hgr hat)
          | (go_simp; go_at_call 61; refine (clone_any _ x _ (by exact Hu.out) (by omega)).mono ?_; rintro e w1 ⟨An, cn, rfl, hown1, hb1⟩; obtain ⟨hx1, hy1, hz1, HB1⟩ := bcell hb1; have hq7 : w1.cell? ⟨w.heap.size + 1 + 1, 0, none⟩ = some (.slice Ak k ck) := (hx1 _ _ (by show w.heap.size + 1 + 1 < wr.heap.size; omega)).trans hb0; have hq8 : ∀ o, (w1.alloc o).cell? ⟨w.heap.size + 1 + 1, 0, none⟩ = some (.slice Ak k ck) := fun o => (World.cell?_alloc_lt w1 o ⟨w.heap.size + 1 + 1, 0, none⟩ (by have hq : wr.heap.size ≤ w1.heap.size := hz1; show w.heap.size + 1 + 1 < w1.heap.size; omega)).trans hq7; have Hown1 := Lib.hid hown1; clear hb1 hown1 hx1 hy1))
      all_goals
        go_wp2
        go_roundw
        case rel =>
          have hk1 : ∀ X : TypeId → Bool, KeepX X wr (w1.alloc (.cells #[.slice An x.length cn] 23)) := fun X => ((KeepX.refl X wr).drew.below HB1.out).alloc _
          have hown1' := ownsRow_keep Hown.out (hk1 fun _ => true) rfl
          have hk2 : KeepX (· == 5) wr (w2.setCell ⟨w.heap.size + 1 + 1, 0, none⟩ (.slice (some ⟨gg, 0, none⟩) (k + 1) cap)) :=
            ((hk1 _).grown_own hown1' Hgr.out rfl).setCell (p := ⟨w.heap.size + 1 + 1, 0, none⟩) Hbx2.out rfl _
          have hk3 : KeepX (· == 5) w1 (w2.setCell ⟨w.heap.size + 1 + 1, 0, none⟩ (.slice (some ⟨gg, 0, none⟩) (k + 1) cap)) :=
            (((KeepX.refl _ w1).alloc _).grown_own hown1' Hgr.out rfl).setCell (p := ⟨w.heap.size + 1 + 1, 0, none⟩) Hbx2.out rfl _
          refine ⟨k + 1, _, by omega, by go_num, ?_, ?_, Hbx2.out.set_ 0 _, ?_, ?_, ?_⟩
          · exact ((((Hin.out.drew).below HB1.out).alloc _).grown Hgr.out (fun e => by have := (Hown.out.lt _ e.symm).1; omega)).far (by simp; omega) _
          · exact ((((Hres.out.drew).below HB1.out).alloc _).grown Hgr.out (fun e => by have := (Hown.out.lt _ e.symm).1; omega)).far (by simp) _
          · rw [take_succ Hx.out]
            refine OwnR.snoc Hels.out (rowR_stays rfl) hk2 rfl ⟨_, rfl, BytesR.keep (X := (· == 5)) rfl hk3 (TSl.of_own Hown1.out)⟩ ?_
            rw [Hkl.out]
            exact ownsRow_keep Hown2.out (X := (· == 23)) ((KeepX.refl _ w2).setCell (p := ⟨w.heap.size + 1 + 1, 0, none⟩) Hbx2.out rfl _) rfl
          · exact (below_grown (below_al (below_tr Hbw.out.drew HB1.out) _) hown1' Hgr.out (by omega) (by have hq : wr.heap.size ≤ w1.heap.size := hz1; simp; omega)).setCell (by simp; omega) _
          · have hq : wr.heap.size ≤ w1.heap.size := hz1
            have hq2 := Hgr.out.size
            simp [World.setCell] at hq2 ⊢
            omega
        case measure => simp [intOf]; omega
    · obtain rfl : k = n1 := by omega
      have hta : safe.take k = safe := List.take_of_length_le (by rw [Hn1.out]; omega)
      rw [hta] at hels hkl
      have Hsafe : Hid (OwnR RowR 23 1 (w.heap.size + 1 + 1 + 1) wr (.slice Ak k ck) safe) := ⟨css, hels, by rw [hkl]; exact hown⟩
      have hb1 : wr.cell? ⟨w.heap.size, 1, none⟩ = some (.slice A2 n2 c2) := hin.cell 1
      have Hin := Lib.hid hin
      have Hres := Lib.hid hres
      clear hres
      have Hbox := Lib.hid hbox
      have Hbw := Lib.hid hbw
      clear hin hbox hbw hta hels hkl hown
      generalize hW : wr = W1 at *
      clear hW
      obtain ⟨i61, hi', hz0', hz1', hz2'⟩ := info_parts infoWr
      have HJ := Lib.hid (And.intro hi' (And.intro hz0' (And.intro hz1' hz2')))
      clear hi' hz0' hz1' hz2'
      go_wp2
      go_loopw [31] (fun i wr => ∃ (m : Nat) (cv : Value), m ≤ n2 ∧ i = .int .i64 m ∧ Blk wr w.heap.size 37 #[.slice A1 k c1, .slice A2 n2 c2, .slice A3 n3 c3, .int .i64 fuel] ∧ Blk wr (w.heap.size + 1) 37 #[.slice none 0 0, .slice none 0 0, .slice none 0 0, .int .i64 0] ∧ Blk wr (w.heap.size + 1 + 1) 37 #[.slice Ak k ck, cv, .slice none 0 0, .int .i64 fuel] ∧ OwnR RowR 23 1 (w.heap.size + 1 + 1 + 1) wr (.slice Ak k ck) safe ∧ OwnR WrR 61 2 (w.heap.size + 1 + 1 + 1) wr cv (cache.take m) ∧ Below w.heap.size w wr ∧ w.heap.size + 1 + 1 + 1 ≤ wr.heap.size) (fun i _ => n2 - (intOf i).toNat)
      case atStart => exact ⟨0, _, Nat.zero_le _, rfl, Hin.out, Hres.out, Hbox.out, Hsafe.out, OwnR.nil, Hbw.out, hsz⟩
      case round =>
        clear Hin Hres Hbox Hsafe Hbw hsz hb1 css W1
        obtain ⟨m, cv, hm, rfl, hin, hres, hbox, hsafe, ⟨css, hels, hown⟩, hbw, hsz⟩ := hrel
        have hkl : (cache.take m).length = m := by simp [Hn2.out]; omega
        rw [hkl] at hown
        obtain ⟨Am, cm, rfl, _, _⟩ := ownsRow_form hown
        have Hsafe := Lib.hid hsafe
        clear hsafe
        by_cases hlt : m < n2
        · obtain ⟨x, hx⟩ : ∃ x, cache[m]? = some x := ⟨_, List.getElem?_eq_getElem (by rw [Hn2.out]; exact hlt)⟩
          have hwr := SeqR.keep Hc.out (wrR_stays (X := fun _ => true) rfl) rfl (KeepX.of_below hbw)
          obtain ⟨g, o, cs, rfl, hg, hl, ⟨u, rfl, hu⟩, hcell⟩ := SeqR.at_ hwr hx
          obtain ⟨A0, c0, rfl, hd1, hd2⟩ := bytesR_len hu
          have hcell0 : wr.cell? ⟨g, o + m * 2, none⟩ = some (.int .i64 x.at_) := by simpa only [Nat.add_zero] using hcell 0 _ rfl
          have hcell1 := hcell 1 _ rfl
          have hb0 : wr.cell? ⟨w.heap.size + 1 + 1, 1, none⟩ = some (.slice Am m cm) := hbox.cell 1
          have hxl := He2.out x (List.mem_of_getElem? hx)
          have hne : some (w.heap.size + 1 + 1) ≠ (Value.slice Am m cm).ownBlock := fun e => by have := (hown.lt _ e.symm).1; omega
          have Hne := Lib.hid hne
          clear hne
          clear hcell hwr hl
          have Hx := Lib.hid hx
          have Hu := Lib.hid hu
          have Hin := Lib.hid hin
          have Hres := Lib.hid hres
          clear hres
          have Hbox := Lib.hid hbox
          have Hels := Lib.hid hels
          have Hown := Lib.hid hown
          have Hbw := Lib.hid hbw
          have Hkl := Lib.hid hkl
          clear hx hu hin hbox hels hown hbw hkl
          go_wp2_with fail
          have hbx : Blk (wr.alloc (.cells #[.int .i64 x.at_, .slice A0 x.data.length c0] 61)) wr.heap.size 61 #[.int .i64 x.at_, .slice A0 x.data.length c0] := Blk.new _ _ _
          have hk0 : ∀ X : TypeId → Bool, KeepX X wr (wr.alloc (.cells #[.int .i64 x.at_, .slice A0 x.data.length c0] 61)) := fun X => (KeepX.refl X wr).alloc _
          have hbw' := below_al Hbw.out (.cells #[.int .i64 x.at_, .slice A0 x.data.length c0] 61)
          have hsz' : wr.heap.size + 1 = (wr.alloc (.cells #[.int .i64 x.at_, .slice A0 x.data.length c0] 61)).heap.size := by simp
          generalize wr.alloc (.cells #[.int .i64 x.at_, .slice A0 x.data.length c0] 61) = V at *
          have hsv : wr.heap.size < V.heap.size := by omega
          have Hsz' := Lib.hid hsz'
          clear hsz'
          have Hbx := Lib.hid hbx
          have hv0 := hbx.cell 0
          have hv1 := hbx.cell 1
          have hbox' := Hbox.out.keep (hk0 fun _ => true) rfl
          have hb0 : V.cell? ⟨w.heap.size + 1 + 1, 1, none⟩ = some (.slice Am m cm) := hbox'.cell 1
          have Hbox' := Lib.hid hbox'
          have Hbw' := Lib.hid hbw'
          have Hk0 := Lib.hid hk0
          clear hbx hbox' hbw' hk0
          go_region_law (first
            | (refine step_append_lies _ rfl (.tmp 36) (.tmp 43) _ rfl (w.heap.size + 1 + 1 + 1) 61 i61 _ 2 32 Try.underlying34 HJ.out.1 HJ.out.2.1 HJ.out.2.2.1 HJ.out.2.2.2 rfl (by omega) (.slice Am m cm) m css.flatten rfl (ownsRow_keep Hown.out (X := fun _ => true) (((Hk0.out _).drew.below HB1.out).alloc _) rfl) ⟨w1.heap.size, 0, none⟩ 1 1 [.int .i64 x.at_, .slice An x.data.length cn] rfl rfl (World.news_of_block (cs := #[.int .i64 x.at_, .slice An x.data.length cn]) (heap_alloc_new w1 _)) (by simp [Value.oneCell']) (by omega) (by unfold maxLen; omega) (by omega) (by have hq : V.heap.size ≤ w1.heap.size := hz1; simp; omega) (w1.heap.size + 1) (by simp) ?_; intro gg cap w2 hown2 hgr hat hlt2; have hbx2 := (((Hbox'.out.drew).below HB1.out).alloc _).grown hgr Hne.out; have hfz := hbx2.frozen 1; have hcz := hbx2.cell 1; have Hbx2 := Lib.hid hbx2; have Hown2 := Lib.hid hown2; have Hgr := Lib.hid hgr; clear hbx2 hown2 hgr hat)
            | (go_simp; go_at_call 61; refine (clone_any _ x.data _ (by exact BytesR.keep (X := fun _ => true) rfl (Hk0.out _).drew Hu.out) (by omega)).mono ?_; rintro e w1 ⟨An, cn, rfl, hown1, hb1⟩; obtain ⟨hx1, hy1, hz1, HB1⟩ := bcell hb1; have hq7 : w1.cell? ⟨w.heap.size + 1 + 1, 1, none⟩ = some (.slice Am m cm) := (hx1 _ _ (by show w.heap.size + 1 + 1 < V.heap.size; omega)).trans hb0; have hq9 : w1.cell? ⟨wr.heap.size, 0, none⟩ = some (.int .i64 x.at_) := (hx1 _ _ (by show wr.heap.size < V.heap.size; omega)).trans hv0; have hq8 : ∀ o, (w1.alloc o).cell? ⟨w.heap.size + 1 + 1, 1, none⟩ = some (.slice Am m cm) := fun o => (World.cell?_alloc_lt w1 o ⟨w.heap.size + 1 + 1, 1, none⟩ (by have hq : V.heap.size ≤ w1.heap.size := hz1; show w.heap.size + 1 + 1 < w1.heap.size; omega)).trans hq7; have Hown1 := Lib.hid hown1; clear hb1 hown1 hx1 hy1))
          all_goals
            go_wp2
            go_roundw
            case rel =>
              have hk1 : ∀ X : TypeId → Bool, KeepX X wr (w1.alloc (.cells #[.int .i64 x.at_, .slice An x.data.length cn] 61)) := fun X => ((Hk0.out X).drew.below HB1.out).alloc _
              have hown1' := ownsRow_keep Hown.out (hk1 fun _ => true) rfl
              have hk2 : KeepX (fun t => t == 5 || t == 23) wr (w2.setCell ⟨w.heap.size + 1 + 1, 1, none⟩ (.slice (some ⟨gg, 0, none⟩) (m + 1) cap)) :=
                ((hk1 _).grown_own hown1' Hgr.out rfl).setCell (p := ⟨w.heap.size + 1 + 1, 1, none⟩) Hbx2.out rfl _
              have hk3 : KeepX (fun t => t == 5 || t == 23) w1 (w2.setCell ⟨w.heap.size + 1 + 1, 1, none⟩ (.slice (some ⟨gg, 0, none⟩) (m + 1) cap)) :=
                (((KeepX.refl _ w1).alloc _).grown_own hown1' Hgr.out rfl).setCell (p := ⟨w.heap.size + 1 + 1, 1, none⟩) Hbx2.out rfl _
              refine ⟨m + 1, _, by omega, by go_num, ?_, ?_, Hbx2.out.set_ 1 _, ?_, ?_, ?_, ?_⟩
              · exact (((((Hin.out.keep (Hk0.out fun _ => true) rfl).drew).below HB1.out).alloc _).grown Hgr.out (fun e => by have := (Hown.out.lt _ e.symm).1; omega)).far (by simp; omega) _
              · exact (((((Hres.out.keep (Hk0.out fun _ => true) rfl).drew).below HB1.out).alloc _).grown Hgr.out (fun e => by have := (Hown.out.lt _ e.symm).1; omega)).far (by simp) _
              · exact Hsafe.out.keep (rowR_stays rfl) hk2 rfl
              · rw [take_succ Hx.out]
                refine OwnR.snoc Hels.out (wrR_stays rfl) hk2 rfl ⟨_, rfl, BytesR.keep (X := fun t => t == 5 || t == 23) rfl hk3 (TSl.of_own Hown1.out)⟩ ?_
                rw [Hkl.out]
                exact ownsRow_keep Hown2.out (X := (· == 61)) ((KeepX.refl _ w2).setCell (p := ⟨w.heap.size + 1 + 1, 1, none⟩) Hbx2.out rfl _) rfl
              · exact (below_grown (below_al (below_tr Hbw'.out.drew HB1.out) _) hown1' Hgr.out (by omega) (by have hq : V.heap.size ≤ w1.heap.size := hz1; simp; omega)).setCell (by simp; omega) _
              · have hq : V.heap.size ≤ w1.heap.size := hz1
                have hq2 := Hgr.out.size
                simp [World.setCell] at hq2 ⊢
                omega
            case measure => simp [intOf]; omega
        · obtain rfl : m = n2 := by omega
          have hta : cache.take m = cache := List.take_of_length_le (by rw [Hn2.out]; omega)
          rw [hta] at hels hkl
          have Hcache : Hid (OwnR WrR 61 2 (w.heap.size + 1 + 1 + 1) wr (.slice Am m cm) cache) := ⟨css, hels, by rw [hkl]; exact hown⟩
          have hb1 : wr.cell? ⟨w.heap.size, 2, none⟩ = some (.slice A3 n3 c3) := hin.cell 2
          have Hin := Lib.hid hin
          have Hres := Lib.hid hres
          clear hres
          have Hbox := Lib.hid hbox
          have Hbw := Lib.hid hbw
          clear hin hbox hbw hta hels hkl hown
          obtain ⟨i104, hi', hz0', hz1', hz2'⟩ := info_parts infoVol
          have HK := Lib.hid (And.intro hi' (And.intro hz0' (And.intro hz1' hz2')))
          clear hi' hz0' hz1' hz2' HJ HI
          generalize hV3 : wr = V3 at *
          clear hV3
          go_wp2
          go_loopw [50] (fun i wr => ∃ (q : Nat) (vv : Value) (css : List (List Value)), q ≤ n3 ∧ i = .int .i64 q ∧ Blk wr (w.heap.size + 1) 37 #[.slice none 0 0, .slice none 0 0, .slice none 0 0, .int .i64 0] ∧ Blk wr (w.heap.size + 1 + 1) 37 #[.slice Ak k ck, .slice Am m cm, vv, .int .i64 fuel] ∧ KeepX diskX V3 wr ∧ Els (VolO V3.heap.size) 3 wr css (vols.take q) ∧ wr.ownsRow (w.heap.size + 1 + 1 + 1) 104 3 vv q css.flatten ∧ Sep css ∧ Below w.heap.size w wr ∧ V3.heap.size ≤ wr.heap.size ∧ (∀ c ∈ css, ∀ g, dataBlock c = some g → g < wr.heap.size)) (fun i _ => n3 - (intOf i).toNat)
          case atStart => exact ⟨0, _, [], Nat.zero_le _, rfl, Hres.out, Hbox.out, KeepX.refl _ _, Els.nil, World.ownsRow_nil _ _ _ _, fun i j ci cj g _ h => by simp at h, Hbw.out, Nat.le_refl _, by simp⟩
          case round =>
            clear Hin Hres Hbox Hbw hb1 css
            obtain ⟨q, vv, css, hq, rfl, hres, hbox, hk3, hels, hown, hsep, hbw, hszv, hdb⟩ := hrel
            have hkl : (vols.take q).length = q := by simp [Hn3.out]; omega
            obtain ⟨Aq, cq, rfl, _, _⟩ := ownsRow_form hown
            by_cases hlt : q < n3
            · obtain ⟨x, hx⟩ : ∃ x, vols[q]? = some x := ⟨_, List.getElem?_eq_getElem (by rw [Hn3.out]; exact hlt)⟩
              have hwr := SeqR.keep Hv.out (volR_stays (X := fun _ => true) rfl) rfl (KeepX.of_below hbw)
              obtain ⟨g, o, cs, rfl, hg, hl, ⟨u, rfl, hu⟩, hcell⟩ := SeqR.at_ hwr hx
              obtain ⟨A0, c0, rfl, hd1, hd2⟩ := bytesR_len hu
              have hcell0 : wr.cell? ⟨g, o + q * 3, none⟩ = some (.slice A0 x.data.length c0) := by simpa only [Nat.add_zero] using hcell 0 _ rfl
              have hcell1 := hcell 1 _ rfl
              have hcell2 := hcell 2 _ rfl
              have hxl := He3.out x (List.mem_of_getElem? hx)
              have hne : some (w.heap.size + 1 + 1) ≠ (Value.slice Aq q cq).ownBlock := fun e => by have := (hown.lt _ e.symm).1; omega
              have hne2 : some wr.heap.size ≠ (Value.slice Aq q cq).ownBlock := fun e => by have := (hown.lt _ e.symm).2; omega
              have Hne := Lib.hid hne
              have Hne2 := Lib.hid hne2
              clear hne hne2
              clear hcell hwr hl
              have Hx := Lib.hid hx
              have Hres := Lib.hid hres
              clear hres
              have Hu := Lib.hid hu
              have Hbox := Lib.hid hbox
              have Hels := Lib.hid hels
              have Hown := Lib.hid hown
              have Hbw := Lib.hid hbw
              have Hkl := Lib.hid hkl
              have Hk3 := Lib.hid hk3
              have Hsep := Lib.hid hsep
              have Hdb := Lib.hid hdb
              clear hx hu hbox hels hown hbw hkl hk3 hsep hdb
              go_wp2_with fail
              have hbx : Blk (wr.alloc (.cells #[.slice A0 x.data.length c0, .int .i64 x.synced, .bool x.gone] 104)) wr.heap.size 104 #[.slice A0 x.data.length c0, .int .i64 x.synced, .bool x.gone] := Blk.new _ _ _
              have hk0 : Below wr.heap.size wr (wr.alloc (.cells #[.slice A0 x.data.length c0, .int .i64 x.synced, .bool x.gone] 104)) := below_al (Below.refl _ _) _
              have hsz' : wr.heap.size + 1 = (wr.alloc (.cells #[.slice A0 x.data.length c0, .int .i64 x.synced, .bool x.gone] 104)).heap.size := by simp
              generalize wr.alloc (.cells #[.slice A0 x.data.length c0, .int .i64 x.synced, .bool x.gone] 104) = V at *
              refine (clone_any _ x.data _ (BytesR.keep (X := fun _ => true) rfl (KeepX.of_below hk0) Hu.out) (by omega)).mono ?_
              rintro e w1 ⟨An, cn, rfl, hown1, hb1⟩
              have hbx1 := hbx.below hb1
              have hbox1 := (Hbox.out.below hk0).below hb1
              have hf0 := hbx1.frozen 0
              have hr1 := hbx1.cell 1
              have hr2 := hbx1.cell 2
              have hr0 := hbx1.cell 0
              have hr3 := hbox1.cell 2
              have hf3 := hbox1.frozen 2
              have Hbx1 := Lib.hid hbx1
              have Hbox1 := Lib.hid hbox1
              have Hown1 := Lib.hid hown1
              have HB1 := Lib.hid hb1
              have Hk0 := Lib.hid hk0
              have hsz1 := hb1.size
              have Hsz' := Lib.hid hsz'
              have hsz2 : wr.heap.size + 1 ≤ w1.heap.size := by omega
              clear hbx1 hbox1 hown1 hb1 hbx hk0 hsz'
              have hV2 : ∀ b, b ≠ wr.heap.size → (w1.setCell ⟨wr.heap.size, 0, none⟩ (.slice An x.data.length cn)).heap[b]? = w1.heap[b]? := fun b hb => Below.heap_setCell w1 _ _ b hb
              have hV2s : (w1.setCell ⟨wr.heap.size, 0, none⟩ (.slice An x.data.length cn)).heap.size = w1.heap.size := by simp [World.setCell]
              have HV2 := Lib.hid hV2
              have HV2s := Lib.hid hV2s
              clear hV2 hV2s
              go_wp2_with (at_builtin; refine wpList_append_lies _ rfl (.tmp 59) (.tmp 61) _ rfl (w.heap.size + 1 + 1 + 1) 104 i104 _ 3 40 Try.underlying35 HK.out.1 HK.out.2.1 HK.out.2.2.1 HK.out.2.2.2 rfl (by omega) (.slice Aq q cq) q css.flatten rfl (ownsRow_block (w := w1.setCell ⟨wr.heap.size, 0, none⟩ (.slice An x.data.length cn)) (ownsRow_block (w := wr) Hown.out fun g' hg' => (HV2.out g' (fun e => Hne2.out (by rw [← e, hg']))).trans (((HB1.out.mono Hk0.out.size).block g' ((Hown.out.lt _ hg').2)).trans (Hk0.out.block g' ((Hown.out.lt _ hg').2)))) fun g' hg' => Below.heap_alloc _ _ g' (by rw [HV2s.out]; have := (Hown.out.lt _ hg').2; omega)) ⟨w1.heap.size, 0, none⟩ 1 1 [.slice An x.data.length cn, .int .i64 x.synced, .bool x.gone] rfl rfl (by have := World.news_of_block (cs := #[.slice An x.data.length cn, .int .i64 x.synced, .bool x.gone]) (heap_alloc_new (w1.setCell ⟨wr.heap.size, 0, none⟩ (.slice An x.data.length cn)) (.cells #[.slice An x.data.length cn, .int .i64 x.synced, .bool x.gone] 104)); rw [HV2s.out] at this; exact this) (by simp [Value.oneCell']) (by omega) (by unfold maxLen; omega) (by omega) (by simp; omega) (w1.heap.size + 1) (by simp [HV2s.out]) ?_; intro gg cap w2 hown2 hgr hat hlt2; have hbx2 := ((Hbox1.out.far (p := ⟨wr.heap.size, 0, none⟩) (by simp; omega) (.slice An x.data.length cn)).alloc (.cells #[.slice An x.data.length cn, .int .i64 x.synced, .bool x.gone] 104)).grown hgr Hne.out; have hfz := hbx2.frozen 2; have hcz := hbx2.cell 2; have Hbx2 := Lib.hid hbx2; have Hown2 := Lib.hid hown2; have Hgr := Lib.hid hgr; clear hbx2 hown2 hgr hat)
              go_roundw
              case rel =>
                have hb2 := Hgr.out.size
                simp [HV2s.out] at hb2
                have hbr : Below wr.heap.size wr w1 := Hk0.out.trans (HB1.out.mono Hk0.out.size)
                have hszV := Hsz'.out
                have hbr' : Below wr.heap.size wr w1 := hbr
                have hkd : ∀ X : TypeId → Bool, X 104 = false → X 37 = false → ∀ Z, KeepX X Z w1 → KeepX X Z (w2.setCell ⟨w.heap.size + 1 + 1, 2, none⟩ (.slice (some ⟨gg, 0, none⟩) (q + 1) cap)) := fun X h1 h2 Z hz =>
                  (((hz.setCell (p := ⟨wr.heap.size, 0, none⟩) Hbx1.out h1 _).alloc _).grown Hgr.out (fun g' cur t fr hr hb => by
                    rcases Hown.out.2 with ⟨e, _⟩ | ⟨g2, cap2, cur2, e, _, hg2, _⟩
                    · rw [e] at hr; simp [Value.ownBlock] at hr
                    · rw [e] at hr
                      simp only [Value.ownBlock, Option.some.injEq] at hr
                      subst hr
                      have hl := lt_of_block hg2
                      rw [Below.heap_alloc _ _ _ (by rw [HV2s.out]; omega), HV2.out _ (by omega), hbr.block _ hl, hg2] at hb
                      cases hb; exact h1)).setCell (p := ⟨w.heap.size + 1 + 1, 2, none⟩) Hbx2.out h2 _
                have hfar : ∀ g', g' ≠ w.heap.size + 1 + 1 → (w2.setCell ⟨w.heap.size + 1 + 1, 2, none⟩ (.slice (some ⟨gg, 0, none⟩) (q + 1) cap)).heap[g']? = w2.heap[g']? := fun g' h => Below.heap_setCell w2 _ _ g' h
                refine ⟨q + 1, _, css ++ [[.slice An x.data.length cn, .int .i64 x.synced, .bool x.gone]], by omega, by go_num, ?_, Hbx2.out.set_ 2 _, ?_, ?_, ?_, ?_, ?_, ?_, ?_⟩
                · exact ((((Hres.out.below hbr').far (p := ⟨wr.heap.size, 0, none⟩) (by have := Hres.out.lt; simp; omega) _).alloc _).grown Hgr.out (fun e => by have := (Hown.out.lt _ e.symm).1; omega)).far (by simp) _
                · exact hkd diskX rfl rfl V3 (Hk3.out.trans (KeepX.of_below hbr))
                · rw [take_succ Hx.out]
                  refine ((Hels.out.keep (volO_stays (X := (· == 5)) rfl) (hkd _ rfl rfl wr (KeepX.of_below hbr))).snoc rfl ⟨_, rfl, ?_⟩)
                  exact ownsRow_base (ownsRow_keep Hown1.out (hkd (· == 5) rfl rfl w1 (KeepX.refl _ _)) rfl) (by show V3.heap.size ≤ V.heap.size; omega)
                · rw [List.flatten_append]
                  refine ownsRow_block (w := w2) (by simpa using Hown2.out) fun g' hg' => hfar g' ?_
                  have := (Hown2.out.lt _ hg').1; omega
                · refine Hsep.out.snoc fun g' hg' c hc hcc => ?_
                  have h1 := Hdb.out c hc g' hcc
                  have h2 := (Hown1.out.lt g' hg').1
                  omega
                · refine (Below.grown (((below_tr Hbw.out (hbr)).setCell (p := ⟨wr.heap.size, 0, none⟩) (by have := Hbw.out.size; simp; omega) _).alloc (by rw [HV2s.out]; have := Hbw.out.size; omega) _) Hgr.out (by simp [HV2s.out]; have := Hbw.out.size; omega) (fun g' hg' => by have := (Hown.out.lt _ hg').1; omega)).setCell (by simp; omega) _
                · simp [World.setCell]; omega
                · intro c hc g' hg'
                  have hsize : (w2.setCell ⟨w.heap.size + 1 + 1, 2, none⟩ (.slice (some ⟨gg, 0, none⟩) (q + 1) cap)).heap.size = w2.heap.size := by simp [World.setCell]
                  rw [hsize]
                  rcases List.mem_append.1 hc with hc | hc
                  · have := Hdb.out c hc g' hg'; omega
                  · simp only [List.mem_singleton] at hc
                    subst hc
                    have := (Hown1.out.lt g' hg').2
                    omega
              case measure => simp [intOf]; omega
            · obtain rfl : q = n3 := by omega
              have hta : vols.take q = vols := List.take_of_length_le (by rw [Hn3.out]; omega)
              rw [hta] at hels
              have hr0 := hbox.cell 0
              have hr1 := hbox.cell 1
              have hr2 := hbox.cell 2
              have hr3 := hbox.cell 3
              have hz0 := hres.cell 0
              have hz1 := hres.cell 1
              have hz2 := hres.cell 2
              have hz3 := hres.cell 3
              have hzf := hres.frozen 0
              have hzf1 := hres.frozen 1
              have hzf2 := hres.frozen 2
              have hzf3 := hres.frozen 3
              have Hres := Lib.hid hres
              have Hbox := Lib.hid hbox
              have Hels := Lib.hid hels
              have Hown := Lib.hid hown
              have Hbw := Lib.hid hbw
              have Hk3 := Lib.hid hk3
              have Hsep := Lib.hid hsep
              clear hbox hels hown hbw hk3 hsep hdb hkl hta hres
              go_wp2
              refine bodyPost_ret (v := .agg #[.slice Ak k ck, .slice Am m cm, .slice Aq q cq, .int .i64 fuel]) (by simp [results, Try.results62, go_sem, hz0, hz1, hz2, hz3]) rfl ?_
              have hkx : ∀ X : TypeId → Bool, X 37 = false → KeepX X wr ((((wr.setCell ⟨w.heap.size + 1, 0, none⟩ (.slice Ak k ck)).setCell ⟨w.heap.size + 1, 1, none⟩ (.slice Am m cm)).setCell ⟨w.heap.size + 1, 2, none⟩ (.slice Aq q cq)).setCell ⟨w.heap.size + 1, 3, none⟩ (.int .i64 fuel)) := fun X hX =>
                ((((KeepX.refl X wr).setCell (p := ⟨w.heap.size + 1, 0, none⟩) Hres.out hX _).setCell (p := ⟨w.heap.size + 1, 1, none⟩) (Hres.out.set_ 0 _) hX _).setCell (p := ⟨w.heap.size + 1, 2, none⟩) ((Hres.out.set_ 0 _).set_ 1 _) hX _).setCell (p := ⟨w.heap.size + 1, 3, none⟩) (((Hres.out.set_ 0 _).set_ 1 _).set_ 2 _) hX _
              refine ⟨_, rfl, ⟨_, _, _, V3, css, rfl, Hsafe.out.base_mono (show w.heap.size ≤ w.heap.size + 1 + 1 + 1 by omega), Hcache.out.base_mono (show w.heap.size ≤ w.heap.size + 1 + 1 + 1 by omega), Hk3.out.trans (hkx _ rfl), by omega, Hels.out.keep (volO_stays (X := (· == 5)) rfl) (hkx _ rfl), ?_, Hsep.out⟩, ?_⟩
              · show World.ownsRow _ _ _ _ _ vols.length _
                rw [Hn3.out]
                exact ownsRow_base (ownsRow_keep Hown.out (hkx (· == 104) rfl) rfl) (show w.heap.size ≤ w.heap.size + 1 + 1 + 1 by omega)
              · exact (((Hbw.out.setCell (p := ⟨w.heap.size + 1, 0, none⟩) (by simp) _).setCell (p := ⟨w.heap.size + 1, 1, none⟩) (by simp) _).setCell (p := ⟨w.heap.size + 1, 2, none⟩) (by simp) _).setCell (p := ⟨w.heap.size + 1, 3, none⟩) (by simp) _
end Go.Proofs.Ytomfladifefomaa
-- T8: 
namespace Go.Proofs.Ytomfladifefomaa
open Go.RowKit
theorem OwnDev.devR {base : Nat} {w : World} {dv : Value} {d : Dev} (h : OwnDev base w dv d) : DevR w dv d := by
  obtain ⟨s, c, v, V, css, rfl, hs, hc, hk, _, he, ho, _⟩ := h
  refine ⟨s, c, v, rfl, SeqR.keep hs.seq (rowR_stays rfl) rfl hk, SeqR.keep hc.seq (wrR_stays rfl) rfl hk, css, ⟨he.1, he.2.1, fun i cs x h1 h2 => ?_⟩, TSl.of_own ho⟩
  obtain ⟨u, e, h⟩ := he.2.2 i cs x h1 h2
  exact ⟨u, e, TSl.of_own h⟩
theorem diskX_devX : ∀ t, diskX t = true → devX t = true := by
  intro t h
  simp only [diskX, devX, Bool.or_eq_true] at *
  rcases h with (h | h) | h
  · exact .inl (.inl (.inl h))
  · exact .inl (.inl (.inr h))
  · exact .inl (.inr h)
theorem OwnDev.keep {base : Nat} {w w' : World} {dv : Value} {d : Dev} (h : OwnDev base w dv d) (hk : KeepX devX w w') : OwnDev base w' dv d := by
  obtain ⟨s, c, v, V, css, rfl, hs, hc, hv, hb, he, ho, hp⟩ := h
  exact ⟨s, c, v, V, css, rfl, hs, hc, hv.trans (hk.weak diskX_devX), hb, he.keep (volO_stays (X := devX) rfl) hk, ownsRow_keep ho hk rfl, hp⟩
theorem OwnDev.base_mono {base b : Nat} {w : World} {dv : Value} {d : Dev} (h : OwnDev base w dv d) (hb : b ≤ base) : OwnDev b w dv d := by
  obtain ⟨s, c, v, V, css, rfl, hs, hc, hv, hb', he, ho, hp⟩ := h
  exact ⟨s, c, v, V, css, rfl, hs.base_mono hb, hc.base_mono hb, hv, by omega, he, ownsRow_base ho hb, hp⟩
/-- the form of such a value -/
theorem OwnDev.form {base : Nat} {w : World} {dv : Value} {d : Dev} (h : OwnDev base w dv d) : ∃ A1 c1 A2 c2 A3 c3, dv = .agg #[.slice A1 d.safe.length c1, .slice A2 d.cache.length c2, .slice A3 d.vols.length c3, .int .i64 d.fuel] := by
  obtain ⟨s, c, v, V, css, rfl, hs, hc, hv, hb', he, ho, hp⟩ := h
  obtain ⟨A1, c1, rfl, _⟩ := SeqR.form hs.seq
  obtain ⟨A2, c2, rfl, _⟩ := SeqR.form hc.seq
  obtain ⟨A3, c3, rfl, _⟩ := ownsRow_form ho
  exact ⟨A1, c1, A2, c2, A3, c3, rfl⟩
theorem OwnDev.fuel {base : Nat} {w : World} {s c v : Value} {d : Dev} {n : Int} (h : OwnDev base w (.agg #[s, c, v, .int .i64 n]) d) (m : Int) : OwnDev base w (.agg #[s, c, v, .int .i64 m]) { d with fuel := m } := by
  obtain ⟨s, c, v, V, css, e, hs, hc, hv, hb', he, ho, hp⟩ := h
  cases e
  exact ⟨s, c, v, V, css, rfl, hs, hc, hv, hb', he, ho, hp⟩
section
variable {w : World} {b : Nat} {t : TypeId} {cs : Array Value} {a0 a1 a2 a3 : Value}
theorem keep_put4 {X : TypeId → Bool} {Z : World} (hk : KeepX X Z w) (h : Blk w b t cs) (hx : X t = false) : KeepX X Z ((((w.setCell ⟨b, 0, none⟩ a0).setCell ⟨b, 1, none⟩ a1).setCell ⟨b, 2, none⟩ a2).setCell ⟨b, 3, none⟩ a3) :=
  (((hk.setCell (p := ⟨b, 0, none⟩) h hx _).setCell (p := ⟨b, 1, none⟩) (h.set_ 0 _) hx _).setCell (p := ⟨b, 2, none⟩) ((h.set_ 0 _).set_ 1 _) hx _).setCell (p := ⟨b, 3, none⟩) (((h.set_ 0 _).set_ 1 _).set_ 2 _) hx _
theorem below_put4 {B : Nat} {Z : World} (hk : Below B Z w) (h : B ≤ b) : Below B Z ((((w.setCell ⟨b, 0, none⟩ a0).setCell ⟨b, 1, none⟩ a1).setCell ⟨b, 2, none⟩ a2).setCell ⟨b, 3, none⟩ a3) :=
  (((hk.setCell (p := ⟨b, 0, none⟩) h _).setCell (p := ⟨b, 1, none⟩) h _).setCell (p := ⟨b, 2, none⟩) h _).setCell (p := ⟨b, 3, none⟩) h _
end
def zeroDev : Value := .agg #[.slice none 0 0, .slice none 0 0, .slice none 0 0, .int .i64 0]
def spent (d : Dev) : Dev := { d with fuel := if 0 < d.fuel then d.fuel - 1 else d.fuel }
theorem GoodDev.lens {g : Geo} {d : Dev} (hg : GoodGeo g) (hd : GoodDev g d) : d.safe.length ≤ 100000 ∧ d.cache.length ≤ 100000 ∧ d.vols.length ≤ 100000 ∧ (∀ s ∈ d.safe, s.length ≤ 100000) ∧ (∀ x ∈ d.cache, x.data.length ≤ 100000) ∧ (∀ x ∈ d.vols, x.data.length ≤ 100000) := by
  have h1 := hd.safe
  have h2 := hg
  unfold sectorsOf at h1
  refine ⟨by have := hg.r2; have := hg.a2; have := hg.h2; omega, by have := hd.most; omega, by have := hd.many; have := hg.n2; omega, fun s hs => by have := hd.rows s hs; omega, fun x hx => ?_, fun x hx => ?_⟩
  · have := hd.cache x hx
    simp [wBad] at this; omega
  · have := hd.vols x hx
    have := hg.v2
    simp [vBad] at *; omega
set_option maxRecDepth 100000 in
set_option maxHeartbeats 1000000 in
theorem spend_down (g : Geo) (hg : GoodGeo g) (d : Dev) (hd : GoodDev g d) (hf : d.fuel = 0) (dv : Value) (w : World) (h : DevR w dv d) :
    Calls Try.prog 60 #[geoV g, dv] w fun e w' => e = .returned (.tuple #[zeroDev, .int .i64 10]) ∧ Below w.heap.size w w' := by
  have hchk := fun W (hb : Below w.heap.size w W) => check_good g hg d hd dv W (h.below hb)
  obtain ⟨s, c, v, rfl, hs, hc, hv⟩ := h
  obtain ⟨A1, c1, rfl, hs1, hs2⟩ := SeqR.form hs
  obtain ⟨A2, c2, rfl, hc1, hc2⟩ := SeqR.form hc
  obtain ⟨A3, c3, rfl, hv1, hv2⟩ := SeqR.form hv
  obtain ⟨safe, cache, vols, fuel⟩ := d
  simp only at hf
  subst hf
  simp only at *
  obtain ⟨a, b, c, e, f⟩ := g
  unfold geoV at *
  simp only at *
  generalize safe.length = n1 at *
  generalize cache.length = n2 at *
  generalize vols.length = n3 at *
  have Hchk := Lib.hid hchk
  clear hchk hs hc hv hd hg
  go_enter Try.func60, Try.ntmps60
  go_wp2_with (go_at_call 35; refine (Hchk.out _ (below_al (below_al (below_al (Below.refl _ _) _) _) _)).mono ?_; rintro e w1 ⟨rfl, hb1⟩; have hres : Blk w1 (w.heap.size + 1 + 1) 37 #[.slice none 0 0, .slice none 0 0, .slice none 0 0, .int .i64 0] := (Blk.new_at (by simp) _ _).below hb1; have z0 := hres.cell 0; have z1 := hres.cell 1; have z2 := hres.cell 2; have z3 := hres.cell 3; obtain ⟨hx1, hy1, hz1, HB1⟩ := bcell hb1; have Hres := Lib.hid hres; clear hb1 hres; simp at hz1)
  refine bodyPost_ret (v := .tuple #[zeroDev, .int .i64 10]) (by simp [results, Try.results60, go_sem, zeroDev, z0, z1, z2, z3]) rfl ⟨rfl, ?_⟩
  exact ((((below_tr (below_al (below_al (below_al (Below.refl _ _) _) _) _) HB1.out).setCell (p := ⟨w.heap.size + 1 + 1, 0, none⟩) (by simp; omega) _).setCell (p := ⟨w.heap.size + 1 + 1, 1, none⟩) (by simp; omega) _).setCell (p := ⟨w.heap.size + 1 + 1, 2, none⟩) (by simp; omega) _).setCell (p := ⟨w.heap.size + 1 + 1, 3, none⟩) (by simp; omega) _
set_option maxRecDepth 100000 in
set_option maxHeartbeats 2000000 in
theorem spend_ok (g : Geo) (hg : GoodGeo g) (d : Dev) (hd : GoodDev g d) (hf : d.fuel ≠ 0) (dv : Value) (w : World) (h : DevR w dv d) :
    Calls Try.prog 60 #[geoV g, dv] w fun e w' => ∃ dv', e = .returned (.tuple #[dv', .int .i64 0]) ∧ OwnDev w.heap.size w' dv' (spent d) ∧ Below w.heap.size w w' := by
  have hchk := fun W (hb : Below w.heap.size w W) => check_good g hg d hd dv W (h.below hb)
  obtain ⟨l1, l2, l3, l4, l5, l6⟩ := hd.lens hg
  have hown := fun W (hb : Below w.heap.size w W) => own_any d dv W (h.below hb) l1 l2 l3 l4 l5 l6
  clear l1 l2 l3 l4 l5 l6
  have hf1 := hd.f1
  have hf2 := hd.f2
  obtain ⟨s, c, v, rfl, hs, hc, hv⟩ := h
  obtain ⟨A1, c1, rfl, hs1, hs2⟩ := SeqR.form hs
  obtain ⟨A2, c2, rfl, hc1, hc2⟩ := SeqR.form hc
  obtain ⟨A3, c3, rfl, hv1, hv2⟩ := SeqR.form hv
  have hsp : spent d = { d with fuel := if 0 < d.fuel then d.fuel - 1 else d.fuel } := rfl
  rw [hsp]
  clear hsp
  have Hchk := Lib.hid hchk
  have Hown := Lib.hid hown
  clear hchk hown hs hc hv hd hg hs1 hs2 hc1 hc2 hv1 hv2
  obtain ⟨a, b, c, e, f⟩ := g
  unfold geoV at *
  simp only at *
  generalize hn1 : d.safe.length = n1 at *
  generalize hn2 : d.cache.length = n2 at *
  generalize hn3 : d.vols.length = n3 at *
  generalize hfu : d.fuel = fuel at *
  have hq : (fuel == 0) = false := by simpa using hf
  have H1 := Lib.hid hn1
  have H2 := Lib.hid hn2
  have H3 := Lib.hid hn3
  have H4 := Lib.hid hfu
  clear hn1 hn2 hn3 hfu hf
  by_cases hpos : 0 < fuel
  all_goals
    go_enter Try.func60, Try.ntmps60
    go_wp2_with (first
      | (go_at_call 35; refine (Hchk.out _ (below_al (below_al (below_al (Below.refl _ _) _) _) _)).mono ?_; rintro e w1 ⟨rfl, hb1⟩; have hres : Blk w1 (w.heap.size + 1 + 1) 37 #[.slice none 0 0, .slice none 0 0, .slice none 0 0, .int .i64 0] := (Blk.new_at (by simp) _ _).below hb1; obtain ⟨hx1, hy1, hz1, HB1⟩ := bcell hb1; have Hres := Lib.hid hres; clear hb1 hres; simp at hz1)
      | (go_at_call 62; refine (Hown.out _ (below_tr (below_al (below_al (below_al (Below.refl _ _) _) _) _) HB1.out)).mono ?_; rintro e w2 ⟨dv', rfl, ho, hb2⟩; have hres2 := Hres.out.below hb2; obtain ⟨B1, d1, B2, d2, B3, d3, rfl⟩ := ho.form; rw [H1.out, H2.out, H3.out, H4.out] at ho; rw [H1.out, H2.out, H3.out, H4.out]; have z0 := hres2.cell 0; have z1 := hres2.cell 1; have z2 := hres2.cell 2; have z3 := hres2.cell 3; have y0 := hres2.frozen 0; have y1 := hres2.frozen 1; have y2 := hres2.frozen 2; have y3 := hres2.frozen 3; have Hres2 := Lib.hid hres2; have Ho := Lib.hid ho; have hz2 := hb2.size; have hz3 : w.heap.size + 1 + 1 < w2.heap.size := hres2.lt; have HB2 := Lib.hid hb2; clear hb2 hres2 ho hx1 hy1))
  · refine bodyPost_ret (v := .tuple #[.agg #[.slice B1 n1 d1, .slice B2 n2 d2, .slice B3 n3 d3, .int .i64 (fuel - 1)], .int .i64 0]) (by simp [results, Try.results60, go_sem, z0, z1, z2, z3, hz3]) rfl ⟨_, rfl, ?_, ?_⟩
    · exact ((Ho.out.fuel (fuel - 1)).keep ((keep_put4 (KeepX.refl _ w2) Hres2.out rfl).alloc _)).base_mono (by omega)
    · exact below_al (below_put4 (below_tr (below_tr (below_al (below_al (below_al (Below.refl _ _) _) _) _) HB1.out) HB2.out) (by omega)) _
  · refine bodyPost_ret (v := .tuple #[.agg #[.slice B1 n1 d1, .slice B2 n2 d2, .slice B3 n3 d3, .int .i64 fuel], .int .i64 0]) (by simp [results, Try.results60, go_sem, z0, z1, z2, z3, hz3]) rfl ⟨_, rfl, ?_, ?_⟩
    · exact ((Ho.out.fuel fuel).keep ((keep_put4 (KeepX.refl _ w2) Hres2.out rfl).alloc _)).base_mono (by omega)
    · exact below_al (below_put4 (below_tr (below_tr (below_al (below_al (below_al (Below.refl _ _) _) _) _) HB1.out) HB2.out) (by omega)) _
end Go.Proofs.Ytomfladifefomaa
-- T9: 
namespace Go.Proofs.Ytomfladifefomaa
open Go.RowKit
def zero64 : Array Value := madeCells (Value.int .u8 0).cells 64
def zeros : List UInt8 := List.replicate 64 0
theorem zero64_is : zero64.toList = zeros.map enc8 := by kernel_rfl
def newDev (g : Geo) : Dev := { safe := List.replicate (sectorsOf g).toNat zeros, cache := [], vols := [], fuel := -1 }
theorem make64 (W : World) : (Instr.makeSlice 23 (.int .i64 64) (.int .i64 64)).run Try.prog W = .ok (.slice (some ⟨W.heap.size, 0, none⟩) 64 64) (W.alloc (.cells zero64 5)) := by
  obtain ⟨i0, hi, hz0, hz1, hz2⟩ := info_parts infoU8
  have h := run_make_rowN (P := Try.prog) 23 5 i0 _ Try.underlying23 hi hz0 .i64 .i64 64 64 (Nat.le_refl _) (by rw [hz2]; omega) (by omega) W
  rw [hz1, Nat.mul_one] at h
  exact h
theorem bytes64 {w : World} {g : Nat} {fr : Nat × Nat} (h : w.heap[g]? = some (.cells zero64 5 fr)) : BytesR w (.slice (some ⟨g, 0, none⟩) 64 64) zeros :=
  ⟨_, 64, rfl, Nat.le_refl _, by unfold maxLen; omega, by simp [zeros], fun _ => ⟨g, 0, zero64, fr, rfl, h, fun j u hu => by rw [← zero64_is] at hu; simpa using hu⟩⟩
set_option maxRecDepth 100000 in
set_option maxHeartbeats 2000000 in
theorem new_any (g : Geo) (hg : GoodGeo g) (w : World) :
    Calls Try.prog 28 #[geoV g] w fun e w' => ∃ dv', e = .returned (.tuple #[dv', .int .i64 0]) ∧ DevR w' dv' (newDev g) ∧ Below w.heap.size w w' := by
  have hgg := hg
  have hsec := sectors_any g hg
  have hS0 : 0 ≤ sectorsOf g ∧ sectorsOf g ≤ 1000 := by
    have := hg.r1; have := hg.r2; have := hg.a1; have := hg.a2; have := hg.h1; have := hg.h2; unfold sectorsOf; omega
  unfold newDev
  obtain ⟨i23, hi, hz0, hz1, hz2⟩ := info_parts infoRow
  have HI := Lib.hid (And.intro hi (And.intro hz0 (And.intro hz1 hz2)))
  clear hi hz0 hz1 hz2
  obtain ⟨a, b, c, e, f⟩ := g
  generalize hS : sectorsOf ⟨a, b, c, e, f⟩ = S at *
  obtain ⟨n, rfl⟩ := Int.eq_ofNat_of_zero_le hS0.1
  have Hsec := Lib.hid hsec
  have hS1 := hS0.2
  clear hS hg hsec hS0
  unfold geoV
  simp only [Int.toNat_natCast]
  have hmk := make64
  go_enter Try.func28, Try.ntmps28
  go_wp2_with (first
    | (go_at_call 36; refine (geo_good ⟨a, b, c, e, f⟩ hgg _).mono ?_; rintro e w1 ⟨rfl, hb1⟩; have hres : Blk w1 (w.heap.size + 1) 37 #[.slice none 0 0, .slice none 0 0, .slice none 0 0, .int .i64 0] := (Blk.new_at (by simp) _ _).below hb1; obtain ⟨hx1, hy1, hz1, HB1⟩ := bcell hb1; have Hres := Lib.hid hres; clear hb1 hres; simp at hz1; have hz1a : w.heap.size < w1.heap.size := (by omega); have hz1b : w.heap.size + 1 < w1.heap.size := (by omega))
    | (go_at_call 58; refine (Hsec.out _).mono ?_; rintro e w2 ⟨rfl, hb2⟩; have hbox : Blk w2 w1.heap.size 37 #[.slice none 0 0, .slice none 0 0, .slice none 0 0, .int .i64 (-1)] := (Blk.new_at (by simp) _ _).below hb2; have hres2 := (Hres.out.alloc _).below hb2; have hlt2 := hbox.lt; have HB2 := Lib.hid (below_tr (below_al (below_tr (below_al (below_al (Below.refl _ _) _) _) HB1.out) _) hb2); have Hbox := Lib.hid hbox; have Hres2 := Lib.hid hres2; clear hb2 hbox hres2 hx1 hy1))
  have hlt1 : w.heap.size + 1 < w2.heap.size := Hres2.out.lt
  generalize hB : w1.heap.size = B at *
  have hBw : w.heap.size + 1 < B := hz1b
  clear hB HB1 Hres hz1 hz1a hz1b
  go_loopw [15] (fun i wr => ∃ (k : Nat) (sv : Value), k ≤ n ∧ i = .int .i64 k ∧ Blk wr (w.heap.size + 1) 37 #[.slice none 0 0, .slice none 0 0, .slice none 0 0, .int .i64 0] ∧ Blk wr B 37 #[sv, .slice none 0 0, .slice none 0 0, .int .i64 (-1)] ∧ OwnR RowR 23 1 (B + 1) wr sv (List.replicate k zeros) ∧ Below w.heap.size w wr) (fun i _ => n - (intOf i).toNat)
  case atStart => exact ⟨0, _, Nat.zero_le _, rfl, Hres2.out, Hbox.out, OwnR.nil, HB2.out⟩
  case round =>
    clear Hres2 Hbox HB2 hlt2 hlt1 w2
    obtain ⟨k, sv, hk, rfl, hres, hbox, ⟨css, hels, hown⟩, hbw⟩ := hrel
    rw [List.length_replicate] at hown
    obtain ⟨Ak, ck, rfl, _, _⟩ := ownsRow_form hown
    have hltB := hbox.lt
    have hb0 : wr.cell? ⟨B, 0, none⟩ = some (.slice Ak k ck) := hbox.cell 0
    have Hres := Lib.hid hres
    have Hbox := Lib.hid hbox
    have Hels := Lib.hid hels
    have Hown := Lib.hid hown
    have Hbw := Lib.hid hbw
    by_cases hlt : k < n
    · have hne : some B ≠ (Value.slice Ak k ck).ownBlock := fun e => by have := (hown.lt _ e.symm).1; omega
      have Hne := Lib.hid hne
      clear hne hres hbox hels hown hbw
      go_wp2_with fail
      have hnb : Blk (((wr.alloc (.cells zero64 5)).alloc (.cells #[.slice (some ⟨wr.heap.size, 0, none⟩) 64 64] 23)).drew) (wr.heap.size + 1) 23 #[.slice (some ⟨wr.heap.size, 0, none⟩) 64 64] := (Blk.new_at (by simp) _ _).drew
      have Hnb := Lib.hid hnb
      clear hnb
      go_region_law (refine step_append_lies _ rfl (.tmp 18) (.tmp 20) _ rfl (B + 1) 23 i23 _ 1 24 Try.underlying29 HI.out.1 HI.out.2.1 HI.out.2.2.1 HI.out.2.2.2 rfl (by omega) (.slice Ak k ck) k css.flatten rfl (ownsRow_keep Hown.out (X := fun _ => true) (((KeepX.refl _ wr).alloc (.cells zero64 5)).alloc (.cells #[.slice (some ⟨wr.heap.size, 0, none⟩) 64 64] 23)).drew rfl) ⟨wr.heap.size + 1, 0, none⟩ 1 1 [.slice (some ⟨wr.heap.size, 0, none⟩) 64 64] rfl rfl (World.news_of_block (cs := #[.slice (some ⟨wr.heap.size, 0, none⟩) 64 64]) (t := 23) (fr := (0, 0)) Hnb.out) (by simp [Value.oneCell']) (by omega) (by unfold maxLen; omega) (by omega) (by simp; omega) (wr.heap.size + 1 + 1) (by simp) ?_; intro gg cap w2 hown2 hgr hat hlt2; have hbx2 := (((Hbox.out.alloc (.cells zero64 5)).alloc (.cells #[.slice (some ⟨wr.heap.size, 0, none⟩) 64 64] 23)).drew).grown hgr Hne.out; have hfz := hbx2.frozen 0; have hcz := hbx2.cell 0; have Hbx2 := Lib.hid hbx2; have Hown2 := Lib.hid hown2; have Hgr := Lib.hid hgr; clear hbx2 hown2 hgr hat)
      all_goals
        go_wp2
        go_roundw
        case rel =>
          have hk1 : ∀ X : TypeId → Bool, KeepX X wr (((wr.alloc (.cells zero64 5)).alloc (.cells #[.slice (some ⟨wr.heap.size, 0, none⟩) 64 64] 23)).drew) := fun X => (((KeepX.refl X wr).alloc _).alloc _).drew
          have hown1' := ownsRow_keep Hown.out (hk1 fun _ => true) rfl
          have hkx : ∀ X : TypeId → Bool, X 23 = false → X 37 = false → ∀ Z, KeepX X Z (((wr.alloc (.cells zero64 5)).alloc (.cells #[.slice (some ⟨wr.heap.size, 0, none⟩) 64 64] 23)).drew) → KeepX X Z (w2.setCell ⟨B, 0, none⟩ (.slice (some ⟨gg, 0, none⟩) (k + 1) cap)) := fun X h1 h2 Z hz =>
            (hz.grown_own hown1' Hgr.out h1).setCell (p := ⟨B, 0, none⟩) Hbx2.out h2 _
          refine ⟨k + 1, _, by omega, by go_num, ?_, Hbx2.out.set_ 0 _, ?_, ?_⟩
          · exact ((((Hres.out.alloc _).alloc _).drew).grown Hgr.out (fun e => by have := (Hown.out.lt _ e.symm).1; omega)).far (by show w.heap.size + 1 ≠ B; omega) _
          · rw [List.replicate_succ']
            refine OwnR.snoc (cs := [.slice (some ⟨wr.heap.size, 0, none⟩) 64 64]) Hels.out (rowR_stays rfl) (hkx (· == 5) rfl rfl wr (hk1 _)) rfl ⟨_, rfl, ?_⟩ ?_
            · exact BytesR.keep (X := (· == 5)) rfl (hkx _ rfl rfl (wr.alloc (.cells zero64 5)) (((KeepX.refl _ _).alloc _).drew)) (bytes64 (heap_alloc_new wr _))
            · rw [List.length_replicate]
              exact ownsRow_keep Hown2.out (X := (· == 23)) ((KeepX.refl _ w2).setCell (p := ⟨B, 0, none⟩) Hbx2.out rfl _) rfl
          · exact (below_grown (below_al (below_al Hbw.out _) _).drew hown1' Hgr.out (by omega) (by simp; omega)).setCell (by show w.heap.size ≤ B; omega) _
        case measure => simp [intOf]; omega
    · obtain rfl : k = n := by omega
      have z0 := hres.cell 0
      have z1 := hres.cell 1
      have z2 := hres.cell 2
      have z3 := hres.cell 3
      have y0 := hres.frozen 0
      have y1 := hres.frozen 1
      have y2 := hres.frozen 2
      have y3 := hres.frozen 3
      have x0 := hbox.cell 0
      have x1 := hbox.cell 1
      have x2 := hbox.cell 2
      have x3 := hbox.cell 3
      clear hres hbox hels hown hbw
      go_wp2
      refine bodyPost_ret (v := .tuple #[.agg #[.slice Ak k ck, .slice none 0 0, .slice none 0 0, .int .i64 (-1)], .int .i64 0]) (by simp [results, Try.results28, go_sem, z0, z1, z2, z3]) rfl ⟨_, rfl, ?_, ?_⟩
      · refine DevR.keep (X := devX) rfl rfl rfl rfl (keep_put4 (KeepX.refl _ wr) Hres.out rfl) ⟨_, _, _, rfl, ?_, SeqR.nil, SeqR.nil⟩
        exact OwnR.seq ⟨css, Hels.out, by rw [List.length_replicate]; exact Hown.out⟩
      · exact below_put4 Hbw.out (by omega)
end Go.Proofs.Ytomfladifefomaa
-- T10: 
namespace Go.Proofs.Ytomfladifefomaa
open Go.RowKit
set_option maxRecDepth 100000 in
set_option maxHeartbeats 800000 in
theorem volume_out (dv : Value) (d : Dev) (v : Int) (w : World) (h : DevR w dv d) (hv : v < 0 ∨ (d.vols.length : Int) ≤ v) :
    Calls Try.prog 59 #[dv, .int .i64 v] w fun e w' => e = .returned (.bool false) ∧ Below w.heap.size w w' := by
  obtain ⟨s, c, vv, rfl, hs, hc, hvv⟩ := h
  obtain ⟨A1, c1, rfl, hs1, hs2⟩ := SeqR.form hs
  obtain ⟨A2, c2, rfl, hc1, hc2⟩ := SeqR.form hc
  obtain ⟨A3, c3, rfl, hv1, hv2⟩ := SeqR.form hvv
  generalize d.safe.length = n1 at *
  generalize d.cache.length = n2 at *
  generalize d.vols.length = n3 at *
  clear hs hc hvv
  by_cases h0 : v < 0
  · clear hv
    have hq : decide (0 ≤ v) = false := by simp; omega
    go_enter Try.func59, Try.ntmps59
    go_wp2
    go_ret
    exact ⟨rfl, below_al (Below.refl _ _) _⟩
  · have h1 : (n3 : Int) ≤ v := by omega
    have hq : decide (v < (n3 : Int)) = false := by simp; omega
    clear hv
    go_enter Try.func59, Try.ntmps59
    go_wp2
    go_ret
    exact ⟨rfl, below_al (Below.refl _ _) _⟩
set_option maxRecDepth 100000 in
set_option maxHeartbeats 800000 in
theorem volume_in (dv : Value) (d : Dev) (k : Nat) (x : Vol) (w : World) (h : DevR w dv d) (hx : d.vols[k]? = some x) :
    Calls Try.prog 59 #[dv, .int .i64 k] w fun e w' => e = .returned (.bool (!x.gone)) ∧ Below w.heap.size w w' := by
  obtain ⟨s, c, vv, rfl, hs, hc, hvv⟩ := h
  obtain ⟨A1, c1, rfl, hs1, hs2⟩ := SeqR.form hs
  obtain ⟨A2, c2, rfl, hc1, hc2⟩ := SeqR.form hc
  obtain ⟨A3, c3, rfl, hv1, hv2⟩ := SeqR.form hvv
  have hlt : k < d.vols.length := (List.getElem?_eq_some_iff.1 hx).1
  obtain ⟨g, o, cs, rfl, hg, hl, ⟨u, rfl, hu⟩, hcell⟩ := SeqR.at_ hvv hx
  have hcell2 := hcell 2 _ rfl
  generalize d.safe.length = n1 at *
  generalize d.cache.length = n2 at *
  generalize d.vols.length = n3 at *
  clear hs hc hvv hcell hu hx hl
  cases hgo : x.gone
  all_goals
    rw [hgo] at hcell2
    clear hgo
    go_enter Try.func59, Try.ntmps59
    go_wp2
    go_ret
    exact ⟨rfl, below_al (Below.refl _ _) _⟩
def smallGeo : Geo := ⟨6, 2, 6, 300, 3⟩
theorem smallGood : GoodGeo smallGeo := by constructor <;> decide
theorem small_any (w : World) : Calls Try.prog 27 #[] w fun e w' => e = .returned (geoV smallGeo) ∧ Below w.heap.size w w' := by
  go_enter Try.func27, Try.ntmps27
  go_wp2
  refine bodyPost_ret (v := geoV smallGeo) (by simp [results, Try.results27, go_sem, geoV, smallGeo]) rfl ⟨rfl, ?_⟩
  repeat (first | exact Below.refl _ _ | refine below_al ?_ _)
end Go.Proofs.Ytomfladifefomaa
-- T11: 
namespace Go.Proofs.Ytomfladifefomaa
open Go.RowKit
/-- is there such a volume that was not taken away? -/
def volOk (d : Dev) (v : Int) : Bool := decide (0 ≤ v) && (match d.vols[v.toNat]? with | some x => !x.gone | none => false)
theorem volume_no (dv : Value) (d : Dev) (v : Int) (w : World) (h : DevR w dv d) (hv : volOk d v = false) :
    Calls Try.prog 59 #[dv, .int .i64 v] w fun e w' => e = .returned (.bool false) ∧ Below w.heap.size w w' := by
  by_cases h0 : v < 0
  · exact volume_out dv d v w h (.inl h0)
  · obtain ⟨k, rfl⟩ := Int.eq_ofNat_of_zero_le (by omega : 0 ≤ v)
    cases hx : d.vols[k]? with
    | none => exact volume_out dv d _ w h (.inr (by rw [List.getElem?_eq_none_iff] at hx; omega))
    | some x =>
      have hg : x.gone = true := by simpa [volOk, hx] using hv
      have := volume_in dv d k x w h hx
      rw [hg] at this
      exact this
theorem volOk_in {d : Dev} {v : Int} (h : volOk d v = true) : ∃ (k : Nat) (x : Vol), v = (k : Int) ∧ d.vols[k]? = some x ∧ x.gone = false := by
  simp only [volOk, Bool.and_eq_true, decide_eq_true_eq] at h
  obtain ⟨k, rfl⟩ := Int.eq_ofNat_of_zero_le h.1
  have h2 := h.2
  rw [Int.toNat_natCast] at h2
  cases hx : d.vols[k]? with
  | none => rw [hx] at h2; cases h2
  | some x => rw [hx] at h2; exact ⟨k, x, rfl, hx, by simpa using h2⟩
set_option maxRecDepth 100000 in
set_option maxHeartbeats 1000000 in
theorem take_none (g : Geo) (hg : GoodGeo g) (d : Dev) (hd : GoodDev g d) (dv : Value) (v : Int) (w : World) (h : DevR w dv d) (hv : volOk d v = false) :
    Calls Try.prog 30 #[geoV g, dv, .int .i64 v] w fun e w' => e = .returned (.tuple #[zeroDev, .int .i64 6]) ∧ Below w.heap.size w w' := by
  have hchk := fun W (hb : Below w.heap.size w W) => check_good g hg d hd dv W (h.below hb)
  have hvol := fun W (hb : Below w.heap.size w W) => volume_no dv d v W (h.below hb) hv
  obtain ⟨s, c, vv, rfl, hs, hc, hvv⟩ := h
  obtain ⟨A1, c1, rfl, hs1, hs2⟩ := SeqR.form hs
  obtain ⟨A2, c2, rfl, hc1, hc2⟩ := SeqR.form hc
  obtain ⟨A3, c3, rfl, hv1, hv2⟩ := SeqR.form hvv
  have Hchk := Lib.hid hchk
  have Hvol := Lib.hid hvol
  obtain ⟨a, b, c, e, f⟩ := g
  unfold geoV at *
  simp only at *
  generalize d.safe.length = n1 at *
  generalize d.cache.length = n2 at *
  generalize d.vols.length = n3 at *
  generalize d.fuel = fuel at *
  clear hchk hvol hs hc hvv hd hg hs1 hs2 hc1 hc2 hv1 hv2 hv
  go_enter Try.func30, Try.ntmps30
  go_wp2_with (first
    | (go_at_call 35; refine (Hchk.out _ (below_al (below_al (below_al (Below.refl _ _) _) _) _)).mono ?_; rintro e w1 ⟨rfl, hb1⟩; have hres : Blk w1 (w.heap.size + 1 + 1) 37 #[.slice none 0 0, .slice none 0 0, .slice none 0 0, .int .i64 0] := (Blk.new_at (by simp) _ _).below hb1; obtain ⟨hx1, hy1, hz1, HB1⟩ := bcell hb1; have Hres := Lib.hid hres; clear hb1 hres; simp at hz1)
    | (go_at_call 59; refine (Hvol.out _ (below_tr (below_al (below_al (below_al (Below.refl _ _) _) _) _) HB1.out)).mono ?_; rintro e w2 ⟨rfl, hb2⟩; have hres2 := Hres.out.below hb2; have z0 := hres2.cell 0; have z1 := hres2.cell 1; have z2 := hres2.cell 2; have z3 := hres2.cell 3; have y0 := hres2.frozen 0; have y1 := hres2.frozen 1; have y2 := hres2.frozen 2; have y3 := hres2.frozen 3; have HB2 := Lib.hid (below_tr (below_tr (below_al (below_al (below_al (Below.refl _ _) _) _) _) HB1.out) hb2); have Hres2 := Lib.hid hres2; clear hb2 hres2 hx1 hy1))
  refine bodyPost_ret (v := .tuple #[zeroDev, .int .i64 6]) (by simp [results, Try.results30, go_sem, zeroDev, z0, z1, z2, z3]) rfl ⟨rfl, ?_⟩
  exact below_put4 HB2.out (by omega)
theorem OwnDev.row {base : Nat} {w : World} {s c : Value} {A : Option Addr} {n cap : Nat} {f : Int} {d : Dev} (h : OwnDev base w (.agg #[s, c, .slice A n cap, .int .i64 f]) d) (hn : 0 < d.vols.length) :
    ∃ g cur, A = some ⟨g, 0, none⟩ ∧ base ≤ g ∧ Blk w g 104 cur ∧ cur.size = cap * 3 ∧ n = d.vols.length ∧ n ≤ cap := by
  obtain ⟨s', c', v, V, css, e, hs, hc, hk, hb, he, ho, hp⟩ := h
  cases e
  rcases ho.2 with ⟨_, hz⟩ | ⟨g, cap', cur, e, hbase, hg, hnc, hcm, hcs, htake⟩
  · omega
  · cases e
    exact ⟨g, cur, rfl, hbase, hg, hcs, rfl, hnc⟩
theorem OwnDev.dropVol {base g n cap k : Nat} {w w' : World} {s c : Value} {f : Int} {d : Dev} {cur cur' : Array Value} (h : OwnDev base w (.agg #[s, c, .slice (some ⟨g, 0, none⟩) n cap, .int .i64 f]) d) (hk : k < d.vols.length)
    (hb : Blk w g 104 cur) (hb' : Blk w' g 104 cur') (hsz : cur'.size = cur.size) (hin : ∀ j, j < 3 → cur'[k * 3 + j]? = [Value.slice none 0 0, .int .i64 0, .bool true][j]?)
    (hout : ∀ i, (i < k * 3 ∨ k * 3 + 3 ≤ i) → cur'[i]? = cur[i]?) (hkeep : KeepX diskX w w') :
    OwnDev base w' (.agg #[s, c, .slice (some ⟨g, 0, none⟩) n cap, .int .i64 f]) { d with vols := d.vols.set k ⟨[], 0, true⟩ } := by
  obtain ⟨s', c', v, V, css, e, hs, hc, hkk, hbb, he, ho, hp⟩ := h
  cases e
  have hkc : k < css.length := by rw [he.1]; exact hk
  have hn : n = d.vols.length := by
    rcases ho.2 with ⟨e, _⟩ | ⟨g, cap', cur, e, _⟩
    · cases e
    · cases e; rfl
  subst hn
  refine ⟨_, _, _, V, css.set k [.slice none 0 0, .int .i64 0, .bool true], rfl, hs, hc, hkk.trans hkeep, hbb, ⟨by simp [he.1], ?_, ?_⟩, ?_, ?_⟩
  · intro cs hcs
    rcases List.mem_or_eq_of_mem_set hcs with h1 | h1
    · exact he.2.1 cs h1
    · rw [h1]; rfl
  · intro i cs x hci hxi
    by_cases e : i = k
    · subst e
      rw [List.getElem?_set_self hkc] at hci
      rw [List.getElem?_set_self hk] at hxi
      cases hci; cases hxi
      exact ⟨_, rfl, World.ownsRow_nil _ _ _ _⟩
    · rw [List.getElem?_set_ne (fun q => e q.symm)] at hci hxi
      exact volO_stays (X := diskX) rfl _ _ _ _ hkeep (he.2.2 i cs x hci hxi)
  · show World.ownsRow _ _ _ _ _ (d.vols.set k _).length _
    rw [List.length_set]
    exact ownsRow_put ho (by omega) he.2.1 rfl hkc hb hb' hsz hin hout
  · intro i j ci cj q hij hi hj hb1 hb2
    by_cases e1 : i = k
    · subst e1
      rw [List.getElem?_set_self hkc] at hi
      cases hi; simp [dataBlock, Value.ownBlock] at hb1
    · by_cases e2 : j = k
      · subst e2
        rw [List.getElem?_set_self hkc] at hj
        cases hj; simp [dataBlock, Value.ownBlock] at hb2
      · rw [List.getElem?_set_ne (fun q => e1 q.symm)] at hi
        rw [List.getElem?_set_ne (fun q => e2 q.symm)] at hj
        exact hp i j ci cj q hij hi hj hb1 hb2
set_option maxRecDepth 100000 in
set_option maxHeartbeats 400000 in
theorem take_ok (g : Geo) (hg : GoodGeo g) (d : Dev) (hd : GoodDev g d) (hf : d.fuel ≠ 0) (dv : Value) (k : Nat) (x : Vol) (hx : d.vols[k]? = some x) (hxg : x.gone = false) (w : World) (h : DevR w dv d) :
    Calls Try.prog 30 #[geoV g, dv, .int .i64 k] w fun e w' => ∃ dv', e = .returned (.tuple #[dv', .int .i64 0]) ∧ DevR w' dv' { spent d with vols := (spent d).vols.set k ⟨[], 0, true⟩ } ∧ Below w.heap.size w w' := by
  have hchk := fun W (hb : Below w.heap.size w W) => check_good g hg d hd dv W (h.below hb)
  have hvol := fun W (hb : Below w.heap.size w W) => volume_in dv d k x W (h.below hb) hx
  have hspe := fun W (hb : Below w.heap.size w W) => spend_ok g hg d hd hf dv W (h.below hb)
  rw [hxg] at hvol
  have hkl : k < d.vols.length := (List.getElem?_eq_some_iff.1 hx).1
  obtain ⟨l1, l2, l3, _, _, _⟩ := hd.lens hg
  obtain ⟨s, c, vv, rfl, hs, hc, hvv⟩ := h
  obtain ⟨A1, c1, rfl, hs1, hs2⟩ := SeqR.form hs
  obtain ⟨A2, c2, rfl, hc1, hc2⟩ := SeqR.form hc
  obtain ⟨A3, c3, rfl, hv1, hv2⟩ := SeqR.form hvv
  have Hchk := Lib.hid hchk
  have Hvol := Lib.hid hvol
  have Hspe := Lib.hid hspe
  obtain ⟨a, b, c, e, f⟩ := g
  unfold geoV at *
  simp only at *
  have hsv : (spent d).vols = d.vols := rfl
  have hss : (spent d).safe = d.safe := rfl
  have hsc : (spent d).cache = d.cache := rfl
  generalize hsd : spent d = d' at *
  rw [← hsv] at hkl
  generalize hn1 : d.safe.length = n1 at *
  generalize hn2 : d.cache.length = n2 at *
  generalize hn3 : d.vols.length = n3 at *
  generalize d.fuel = fuel at *
  have h1 : d'.safe.length = n1 := by rw [hss, hn1]
  have h2 : d'.cache.length = n2 := by rw [hsc, hn2]
  have h3 : d'.vols.length = n3 := by rw [hsv, hn3]
  have H1 := Lib.hid h1
  have H2 := Lib.hid h2
  have H3 := Lib.hid h3
  clear hchk hvol hspe hs hc hvv hd hg hs1 hs2 hc1 hc2 hv1 hv2 hx hxg hsv hss hsc hsd hn1 hn2 hn3 h1 h2 h3 hf
  have Hkl := Lib.hid hkl
  clear hkl
  generalize hfu : d'.fuel = fuel' at *
  have H4 := Lib.hid hfu
  clear hfu
  go_enter Try.func30, Try.ntmps30
  go_wp2_with fail
  refine (Hchk.out _ (below_al (below_al (below_al (Below.refl _ _) _) _) _)).mono ?_
  rintro e w1 ⟨rfl, hb1⟩
  have hres : Blk w1 (w.heap.size + 1 + 1) 37 #[.slice none 0 0, .slice none 0 0, .slice none 0 0, .int .i64 0] := (Blk.new_at (by simp) _ _).below hb1
  have hd1 : Blk w1 (w.heap.size + 1) 37 #[.slice A1 n1 c1, .slice A2 n2 c2, .slice A3 n3 c3, .int .i64 fuel] := ((Blk.new_at (by simp) _ _).alloc _).below hb1
  have hg1 : Blk w1 w.heap.size 32 #[.int .i64 a, .int .i64 b, .int .i64 c, .int .i64 e, .int .i64 f] := (((Blk.new_at rfl _ _).alloc _).alloc _).below hb1
  have hb1' := below_tr (below_al (below_al (below_al (Below.refl _ _) _) _) _) hb1
  clear hb1
  have e0 := hd1.cell 0
  have e1 := hd1.cell 1
  have e2 := hd1.cell 2
  have e3 := hd1.cell 3
  have Hb1 := Lib.hid hb1'
  have Hres := Lib.hid hres
  have Hd1 := Lib.hid hd1
  have Hg1 := Lib.hid hg1
  clear hres hd1 hg1 hb1'
  go_wp2_with fail
  refine (Hvol.out _ Hb1.out).mono ?_
  rintro e w2 ⟨rfl, hb2⟩
  have hres2 := Hres.out.below hb2
  have hd2 := Hd1.out.below hb2
  have hg2 := Hg1.out.below hb2
  have e0 := hd2.cell 0
  have e1 := hd2.cell 1
  have e2 := hd2.cell 2
  have e3 := hd2.cell 3
  have i0 := hg2.cell 0
  have i1 := hg2.cell 1
  have i2 := hg2.cell 2
  have i3 := hg2.cell 3
  have i4 := hg2.cell 4
  have Hb2 := Lib.hid (below_tr Hb1.out hb2)
  have Hres2 := Lib.hid hres2
  clear hres2 hd2 hg2 hb2
  go_wp2_with fail
  refine (Hspe.out _ Hb2.out).mono ?_
  rintro e w3 ⟨dv', rfl, ho, hb3⟩
  have hres3 := Hres2.out.below hb3
  obtain ⟨B1, d1, B2, d2, B3, d3, rfl⟩ := ho.form
  rw [H1.out, H2.out, H3.out, H4.out] at ho
  rw [H1.out, H2.out, H3.out, H4.out]
  have z0 := hres3.cell 0
  have z1 := hres3.cell 1
  have z2 := hres3.cell 2
  have z3 := hres3.cell 3
  have y0 := hres3.frozen 0
  have y1 := hres3.frozen 1
  have y2 := hres3.frozen 2
  have y3 := hres3.frozen 3
  obtain ⟨gv, cur, rfl, hgv, hrow, hcs, hn, hnc⟩ := ho.row (by have := Hkl.out; omega)
  have hkn : k < n3 := by have := Hkl.out; omega
  have hk3 : k * 3 + 2 < cur.size := by omega
  obtain ⟨u0, hu0⟩ : ∃ u, cur[k * 3]? = some u := ⟨_, Array.getElem?_eq_getElem (by omega)⟩
  obtain ⟨u1, hu1⟩ : ∃ u, cur[k * 3 + 1]? = some u := ⟨_, Array.getElem?_eq_getElem (by omega)⟩
  obtain ⟨u2, hu2⟩ : ∃ u, cur[k * 3 + 2]? = some u := ⟨_, Array.getElem?_eq_getElem (by omega)⟩
  have q0 := (hrow.cell (k * 3)).trans hu0
  have q1 := (hrow.cell (k * 3 + 1)).trans hu1
  have q2 := (hrow.cell (k * 3 + 2)).trans hu2
  have p0 := hrow.frozen (k * 3)
  have p1 := hrow.frozen (k * 3 + 1)
  have p2 := hrow.frozen (k * 3 + 2)
  have hlg := hrow.lt
  have hlr := hres3.lt
  have hne : gv ≠ w.heap.size + 1 + 1 := by have := Hb2.out.size; have := Hres2.out.lt; omega
  have Hrow := Lib.hid hrow
  have Hres3 := Lib.hid hres3
  have Ho := Lib.hid ho
  have Hn := Lib.hid hn
  have Hcs := Lib.hid hcs
  have Hu := Lib.hid (And.intro hu0 (And.intro hu1 hu2))
  have Hb3 := Lib.hid (below_tr Hb2.out hb3)
  have hgw : w.heap.size ≤ gv := by have := Hb2.out.size; omega
  clear hrow hres3 ho hn hcs hu0 hu1 hu2 hb3 hnc e0 e1 e2 e3 i0 i1 i2 i3 i4 hgv
  go_wp2
  have hB : Blk (((w3.setCell ⟨gv, k * 3, none⟩ (.slice none 0 0)).setCell ⟨gv, k * 3 + 1, none⟩ (.int .i64 0)).setCell ⟨gv, k * 3 + 2, none⟩ (.bool true)) gv 104 _ := ((Hrow.out.set_ (k * 3) (.slice none 0 0)).set_ (k * 3 + 1) (.int .i64 0)).set_ (k * 3 + 2) (.bool true)
  have hK : KeepX diskX w3 (((w3.setCell ⟨gv, k * 3, none⟩ (.slice none 0 0)).setCell ⟨gv, k * 3 + 1, none⟩ (.int .i64 0)).setCell ⟨gv, k * 3 + 2, none⟩ (.bool true)) :=
    (((KeepX.refl _ w3).setCell (p := ⟨gv, k * 3, none⟩) Hrow.out rfl _).setCell (p := ⟨gv, k * 3 + 1, none⟩) (Hrow.out.set_ _ _) rfl _).setCell (p := ⟨gv, k * 3 + 2, none⟩) ((Hrow.out.set_ _ _).set_ _ _) rfl _
  have hO := Ho.out.dropVol (k := k) (by have := Hkl.out; exact this) Hrow.out hB (by simp) (fun j hj => by
    have hs3 : k * 3 + 2 < cur.size := hk3
    simp only [Array.getElem?_setIfInBounds, Array.size_setIfInBounds]
    match j, hj with
    | 0, _ => simp; omega
    | 1, _ => simp; omega
    | 2, _ => simp; omega) (fun i hi => by
    simp only [Array.getElem?_setIfInBounds, Array.size_setIfInBounds]
    rw [if_neg (by omega), if_neg (by omega), if_neg (by omega)]) hK
  rw [H4.out] at hO
  have hR : Blk (((w3.setCell ⟨gv, k * 3, none⟩ (.slice none 0 0)).setCell ⟨gv, k * 3 + 1, none⟩ (.int .i64 0)).setCell ⟨gv, k * 3 + 2, none⟩ (.bool true)) (w.heap.size + 1 + 1) 37 _ := ((Hres3.out.far (p := ⟨gv, k * 3, none⟩) (fun e => hne e.symm) (.slice none 0 0)).far (p := ⟨gv, k * 3 + 1, none⟩) (fun e => hne e.symm) (.int .i64 0)).far (p := ⟨gv, k * 3 + 2, none⟩) (fun e => hne e.symm) (.bool true)
  have hW : Below w.heap.size w (((w3.setCell ⟨gv, k * 3, none⟩ (.slice none 0 0)).setCell ⟨gv, k * 3 + 1, none⟩ (.int .i64 0)).setCell ⟨gv, k * 3 + 2, none⟩ (.bool true)) := ((Hb3.out.setCell (p := ⟨gv, k * 3, none⟩) (by simp; omega) _).setCell (p := ⟨gv, k * 3 + 1, none⟩) (by simp; omega) _).setCell (p := ⟨gv, k * 3 + 2, none⟩) (by simp; omega) _
  refine bodyPost_ret (v := .tuple #[.agg #[.slice B1 n1 d1, .slice B2 n2 d2, .slice (some ⟨gv, 0, none⟩) n3 d3, .int .i64 fuel'], .int .i64 0]) (by simp [results, Try.results30, go_sem, z0, z1, z2, z3, hlr]) rfl ⟨_, rfl, ?_, ?_⟩
  · exact DevR.keep (X := devX) rfl rfl rfl rfl ((keep_put4 (KeepX.refl _ _) hR rfl).alloc _) hO.devR
  · exact below_al (below_put4 hW (by omega)) _
end Go.Proofs.Ytomfladifefomaa
