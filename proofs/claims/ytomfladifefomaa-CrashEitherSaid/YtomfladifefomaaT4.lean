import Derived.Test.YtomfladifefomaaRows
import Derived.Test.YtomfladifefomaaMem
import Derived.Test.YtomfladifefomaaT3
namespace Go.Proofs.Ytomfladifefomaa
open Go.RowKit
structure Wr where
  at_ : Int
  data : List UInt8
structure Vol where
  data : List UInt8
  synced : Int
  gone : Bool
structure Dev where
  safe : List (List UInt8)
  cache : List Wr
  vols : List Vol
  fuel : Int
def WrR (w : World) (x : Wr) (cs : List Value) : Prop := ∃ u, cs = [.int .i64 x.at_, u] ∧ BytesR w u x.data
def VolR (w : World) (x : Vol) (cs : List Value) : Prop := ∃ u, cs = [u, .int .i64 x.synced, .bool x.gone] ∧ BytesR w u x.data
def WrsR (w : World) (v : Value) (l : List Wr) : Prop := SeqR WrR 61 2 w v l
def VolsR (w : World) (v : Value) (l : List Vol) : Prop := SeqR VolR 104 3 w v l
theorem BytesR.keep {X : TypeId → Bool} (hx : X 5 = true) {w w' : World} {v : Value} {bs : List UInt8} (hk : KeepX X w w') (h : BytesR w v bs) : BytesR w' v bs := TSl.keep h hk hx
theorem rowR_stays {X : TypeId → Bool} (hx : X 5 = true) : Stays RowR X := fun _ _ _ _ hk ⟨u, e, h⟩ => ⟨u, e, h.keep hx hk⟩
theorem wrR_stays {X : TypeId → Bool} (hx : X 5 = true) : Stays WrR X := fun _ _ _ _ hk ⟨u, e, h⟩ => ⟨u, e, h.keep hx hk⟩
theorem volR_stays {X : TypeId → Bool} (hx : X 5 = true) : Stays VolR X := fun _ _ _ _ hk ⟨u, e, h⟩ => ⟨u, e, h.keep hx hk⟩
set_option maxRecDepth 100000 in
set_option maxHeartbeats 400000 in
theorem idx_wrs (v : Value) (l : List Wr) (B : Option Addr) (m d b : Nat) (w : World) (h : WrsR w v l) (hn : l.length ≤ 100000) (hc : w.cell? ⟨b, 0, none⟩ = some (.slice B m d)) (hb : b < w.heap.size) :
    Calls Try.prog 85 #[v, .func (.func 66) #[] #[.pointer (some ⟨b, 0, none⟩)]] w fun e w' => ∃ i : Int, e = .returned (.int .i64 i) ∧ Below w.heap.size w w' ∧ (decide (0 ≤ i) = l.any fun x => wBad x.at_ m x.data.length) := by
  obtain ⟨A, c, rfl, hc1, hc2⟩ := h.form
  generalize hn' : l.length = n at *
  have Hn := Lib.hid hn'
  clear hn'
  go_enter Try.func85, Try.ntmps85
  go_wp2
  go_loopw [8] (fun i wr => ∃ k : Nat, k ≤ n ∧ i = .int .i64 k ∧ Below w.heap.size w wr ∧ ∀ j, j < k → ∀ x, l[j]? = some x → wBad x.at_ m x.data.length = false) (fun i _ => n - (intOf i).toNat)
  case atStart => exact ⟨0, Nat.zero_le _, rfl, Below.refl _ _, fun j hj => absurd hj (by omega)⟩
  case round =>
    obtain ⟨k, hk, rfl, hbw, hall⟩ := hrel
    have Hall := Lib.hid hall
    clear hall
    have hcr := (hbw.cell (p := ⟨b, 0, none⟩) hb).trans hc
    have hbr : b < wr.heap.size := Nat.lt_of_lt_of_le hb hbw.size
    clear hc hb
    by_cases hlt : k < n
    · obtain ⟨x, hx⟩ : ∃ x, l[k]? = some x := ⟨_, List.getElem?_eq_getElem (by rw [Hn.out]; exact hlt)⟩
      have h' : WrsR wr (.slice A n c) l := SeqR.keep h (wrR_stays (X := fun _ => true) rfl) rfl (KeepX.of_below hbw)
      obtain ⟨g, o, cs, rfl, hg, hl, ⟨u, rfl, hu⟩, hcell⟩ := h'.at_ hx
      obtain ⟨A1, c1, rfl, hd1, hd2⟩ := bytesR_len hu
      have hcell0 : wr.cell? ⟨g, o + k * 2, none⟩ = some (.int .i64 x.at_) := by simpa only [Nat.add_zero] using hcell 0 _ rfl
      have hcell1 := hcell 1 _ rfl
      clear hcell h' h hl
      have Hx := Lib.hid hx
      clear hx
      have Hu := Lib.hid hu
      clear hu
      by_cases hb : wBad x.at_ m x.data.length = false
      · have hbb : wBad x.at_ m x.data.length = false := hb
        go_wp2_with (go_at_call 66; refine (check2_any _ _ _ _ _ _ _ _ _ hcr hbr).mono ?_; rintro e w1 ⟨rfl, hb1⟩; have HB1 := Lib.hid hb1; clear hb1)
        go_roundw
        case rel =>
          refine ⟨k + 1, by omega, by go_num, below_tr hbw HB1.out, fun j hj y hy => ?_⟩
          by_cases e : j = k
          · subst e; rw [Hx.out] at hy; cases hy; exact hb
          · exact Hall.out j (by omega) y hy
        case measure => simp [intOf]; omega
      · have hbb : wBad x.at_ m x.data.length = true := by simpa using hb
        clear hb
        go_wp2_with (go_at_call 66; refine (check2_any _ _ _ _ _ _ _ _ _ hcr hbr).mono ?_; rintro e w1 ⟨rfl, hb1⟩; have HB1 := Lib.hid hb1; clear hb1)
        go_ret
        refine ⟨_, rfl, below_tr hbw HB1.out, ?_⟩
        have : (l.any fun x => wBad x.at_ m x.data.length) = true := by
          rw [List.any_eq_true]; exact ⟨_, List.mem_of_getElem? Hx.out, hbb⟩
        rw [this]; simp
    · go_wp2
      go_ret
      refine ⟨_, rfl, hbw, ?_⟩
      have : (l.any fun x => wBad x.at_ m x.data.length) = false := by
        rw [List.any_eq_false]
        intro y hy
        obtain ⟨j, hj⟩ := List.getElem?_of_mem hy
        have hjl : j < l.length := (List.getElem?_eq_some_iff.1 hj).1
        have := Hall.out j (by rw [Hn.out] at hjl; omega) y hj
        simp [this]
      rw [this]; rfl
set_option maxRecDepth 100000 in
set_option maxHeartbeats 400000 in
theorem idx_vols (v : Value) (l : List Vol) (most : Int) (b : Nat) (w : World) (h : VolsR w v l) (hn : l.length ≤ 100000) (hc : w.cell? ⟨b, 3, none⟩ = some (.int .i64 most)) (hb : b < w.heap.size) :
    Calls Try.prog 86 #[v, .func (.func 68) #[] #[.pointer (some ⟨b, 0, none⟩)]] w fun e w' => ∃ i : Int, e = .returned (.int .i64 i) ∧ Below w.heap.size w w' ∧ (decide (0 ≤ i) = l.any fun x => vBad x.data.length x.synced x.gone most) := by
  obtain ⟨A, c, rfl, hc1, hc2⟩ := h.form
  generalize hn' : l.length = n at *
  have Hn := Lib.hid hn'
  clear hn'
  go_enter Try.func86, Try.ntmps86
  go_wp2
  go_loopw [8] (fun i wr => ∃ k : Nat, k ≤ n ∧ i = .int .i64 k ∧ Below w.heap.size w wr ∧ ∀ j, j < k → ∀ x, l[j]? = some x → vBad x.data.length x.synced x.gone most = false) (fun i _ => n - (intOf i).toNat)
  case atStart => exact ⟨0, Nat.zero_le _, rfl, Below.refl _ _, fun j hj => absurd hj (by omega)⟩
  case round =>
    obtain ⟨k, hk, rfl, hbw, hall⟩ := hrel
    have Hall := Lib.hid hall
    clear hall
    have hcr := (hbw.cell (p := ⟨b, 3, none⟩) hb).trans hc
    have hbr : b < wr.heap.size := Nat.lt_of_lt_of_le hb hbw.size
    clear hc hb
    by_cases hlt : k < n
    · obtain ⟨x, hx⟩ : ∃ x, l[k]? = some x := ⟨_, List.getElem?_eq_getElem (by rw [Hn.out]; exact hlt)⟩
      have h' : VolsR wr (.slice A n c) l := SeqR.keep h (volR_stays (X := fun _ => true) rfl) rfl (KeepX.of_below hbw)
      obtain ⟨g, o, cs, rfl, hg, hl, ⟨u, rfl, hu⟩, hcell⟩ := h'.at_ hx
      obtain ⟨A1, c1, rfl, hd1, hd2⟩ := bytesR_len hu
      have hcell0 : wr.cell? ⟨g, o + k * 3, none⟩ = some (.slice A1 x.data.length c1) := by simpa only [Nat.add_zero] using hcell 0 _ rfl
      have hcell1 := hcell 1 _ rfl
      have hcell2 := hcell 2 _ rfl
      clear hcell h' h hl
      have Hx := Lib.hid hx
      clear hx
      have Hu := Lib.hid hu
      clear hu
      by_cases hb : vBad x.data.length x.synced x.gone most = false
      · have hbb : vBad x.data.length x.synced x.gone most = false := hb
        go_wp2_with (go_at_call 68; refine (check3_any _ _ _ _ _ _ _ _ hcr hbr).mono ?_; rintro e w1 ⟨rfl, hb1⟩; have HB1 := Lib.hid hb1; clear hb1)
        go_roundw
        case rel =>
          refine ⟨k + 1, by omega, by go_num, below_tr hbw HB1.out, fun j hj y hy => ?_⟩
          by_cases e : j = k
          · subst e; rw [Hx.out] at hy; cases hy; exact hb
          · exact Hall.out j (by omega) y hy
        case measure => simp [intOf]; omega
      · have hbb : vBad x.data.length x.synced x.gone most = true := by simpa using hb
        clear hb
        go_wp2_with (go_at_call 68; refine (check3_any _ _ _ _ _ _ _ _ hcr hbr).mono ?_; rintro e w1 ⟨rfl, hb1⟩; have HB1 := Lib.hid hb1; clear hb1)
        go_ret
        refine ⟨_, rfl, below_tr hbw HB1.out, ?_⟩
        have : (l.any fun x => vBad x.data.length x.synced x.gone most) = true := by
          rw [List.any_eq_true]; exact ⟨_, List.mem_of_getElem? Hx.out, hbb⟩
        rw [this]; simp
    · go_wp2
      go_ret
      refine ⟨_, rfl, hbw, ?_⟩
      have : (l.any fun x => vBad x.data.length x.synced x.gone most) = false := by
        rw [List.any_eq_false]
        intro y hy
        obtain ⟨j, hj⟩ := List.getElem?_of_mem hy
        have hjl : j < l.length := (List.getElem?_eq_some_iff.1 hj).1
        have := Hall.out j (by rw [Hn.out] at hjl; omega) y hj
        simp [this]
      rw [this]; rfl
set_option maxHeartbeats 400000 in
theorem has_wrs (v : Value) (l : List Wr) (B : Option Addr) (m d b : Nat) (w : World) (h : WrsR w v l) (hn : l.length ≤ 100000) (hc : w.cell? ⟨b, 0, none⟩ = some (.slice B m d)) (hb : b < w.heap.size) :
    Calls Try.prog 65 #[v, .func (.func 66) #[] #[.pointer (some ⟨b, 0, none⟩)]] w fun e w' => e = .returned (.bool (l.any fun x => wBad x.at_ m x.data.length)) ∧ Below w.heap.size w w' := by
  go_enter Try.func65, Try.ntmps65
  go_wp2_with (go_at_call 85; refine (idx_wrs _ _ _ _ _ _ _ h hn hc hb).mono ?_; rintro e w1 ⟨i, rfl, hb1, hi⟩; have Hi := Lib.hid hi; clear hi)
  go_ret
  exact ⟨by rw [← Hi.out]; rfl, hb1⟩
set_option maxHeartbeats 400000 in
theorem has_vols (v : Value) (l : List Vol) (most : Int) (b : Nat) (w : World) (h : VolsR w v l) (hn : l.length ≤ 100000) (hc : w.cell? ⟨b, 3, none⟩ = some (.int .i64 most)) (hb : b < w.heap.size) :
    Calls Try.prog 67 #[v, .func (.func 68) #[] #[.pointer (some ⟨b, 0, none⟩)]] w fun e w' => e = .returned (.bool (l.any fun x => vBad x.data.length x.synced x.gone most)) ∧ Below w.heap.size w w' := by
  go_enter Try.func67, Try.ntmps67
  go_wp2_with (go_at_call 86; refine (idx_vols _ _ _ _ _ h hn hc hb).mono ?_; rintro e w1 ⟨i, rfl, hb1, hi⟩; have Hi := Lib.hid hi; clear hi)
  go_ret
  exact ⟨by rw [← Hi.out]; rfl, hb1⟩
end Go.Proofs.Ytomfladifefomaa
