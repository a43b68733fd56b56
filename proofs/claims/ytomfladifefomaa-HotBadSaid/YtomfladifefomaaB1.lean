/- PackBad; Clone; the devices' checks. Conditions: as each law states them. -/
import Derived.Test.YtomfladifefomaaRows
import Derived.Test.YtomfladifefomaaA1
import Derived.Deep.RegionHeld3
-- PackBad: 'icehousekeep.PackBad' returns true for every int and changes nothing that was there. Conditions: none.
namespace Go.Proofs.Ytomfladifefomaa
open Go.RowKit
set_option maxHeartbeats 400000 in
theorem picked_any (n m : Int) (w : World) (hn : -9223372036854775808 ≤ n) (hn2 : n ≤ 9223372036854775807) (hm : 0 < m) (hm2 : m ≤ 1000000000) :
    Calls Try.prog 25 #[.int .i64 n, .int .i64 m] w fun e w' => e = .returned (.int .i64 (pick n m)) ∧ w = w' := by
  by_cases h : n < 0
  · go_enter Try.func25, Try.ntmps25
    go_wp2
    go_ret
    exact ⟨ret_i64 (pick_neg n m h), rfl⟩
  · go_enter Try.func25, Try.ntmps25
    go_wp2
    go_ret
    exact ⟨ret_i64 (pick_pos n m (by omega)), rfl⟩
theorem pack_form (at_ : Int) (A B : Option Addr) (n m c d : Nat) (w : World) (h0 : 0 ≤ at_) (h1 : at_ ≤ 4000) (hnm : n ≠ m) :
    Calls Try.prog 26 #[.int .i64 at_, .slice A n c, .slice B m d] w fun e w' => e = .returned (.tuple #[.slice none 0 0, .slice none 0 0, .int .i64 4]) ∧ w = w' := by
  have hd : ((n : Int) == (m : Int)) = false := by simp; omega
  go_enter Try.func26, Try.ntmps26
  go_wp2
  go_ret3
  exact ⟨rfl, rfl⟩
theorem pack_low (at_ : Int) (A B : Option Addr) (n m c d : Nat) (w : World) (h0 : at_ < 0)  :
    Calls Try.prog 26 #[.int .i64 at_, .slice A n c, .slice B m d] w fun e w' => e = .returned (.tuple #[.slice none 0 0, .slice none 0 0, .int .i64 2]) ∧ w = w' := by
  go_enter Try.func26, Try.ntmps26
  go_wp2
  go_ret3
  exact ⟨rfl, rfl⟩
theorem pack_nil (at_ : Int) (w : World) (h0 : 0 ≤ at_) (h1 : at_ ≤ 4000) :
    Calls Try.prog 26 #[.int .i64 at_, .slice none 0 0, .slice none 0 0] w fun e w' => e = .returned (.tuple #[.slice none 0 0, .slice none 0 0, .int .i64 0]) ∧ w = w' := by
  go_enter Try.func26, Try.ntmps26
  go_wp2
  refine wp_loop_rounds 1 ?_
  rw [rounds_succ]
  go_wp2
  go_ret3
  exact ⟨rfl, rfl⟩
theorem pack_id (at_ : Int) (a b : Addr) (k : Int) (w : World) (h0 : 0 ≤ at_) (h1 : at_ ≤ 4000) (hk : k < 1) (ha : w.cell? a = some (.int .i64 k)) :
    Calls Try.prog 26 #[.int .i64 at_, .slice (some a) 1 1, .slice (some b) 1 1] w fun e w' => e = .returned (.tuple #[.slice none 0 0, .slice none 0 0, .int .i64 2]) ∧ w = w' := by
  go_enter Try.func26, Try.ntmps26
  go_wp2
  refine wp_loop_rounds 1 ?_
  rw [rounds_succ]
  go_wp2
  go_ret3
  exact ⟨rfl, rfl⟩
theorem pack_size (at_ : Int) (a b : Addr) (k : Int) (A : Option Addr) (n c : Nat) (w : World) (h0 : 0 ≤ at_) (h1 : at_ ≤ 4000) (hk : 1 ≤ k) (hk2 : k ≤ 1000) (ha : w.cell? a = some (.int .i64 k)) (hb : w.cell? b = some (.slice A n c)) (hn : 600 < n) :
    Calls Try.prog 26 #[.int .i64 at_, .slice (some a) 1 1, .slice (some b) 1 1] w fun e w' => e = .returned (.tuple #[.slice none 0 0, .slice none 0 0, .int .i64 1]) ∧ w = w' := by
  go_enter Try.func26, Try.ntmps26
  go_wp2
  refine wp_loop_rounds 1 ?_
  rw [rounds_succ]
  go_wp2
  go_ret3
  exact ⟨rfl, rfl⟩
theorem infoU8 : (Try.prog.info? 5).map (fun i => (i.zero, i.size, i.bytes)) = some (some (.int .u8 0), 1, 1) := by kernel_rfl
theorem make_bytes (n : Int) (h0 : 0 ≤ n) (h1 : n ≤ 100000) (W : World) :
    (Instr.makeSlice 23 (.int .i64 n) (.int .i64 n)).run Try.prog W = .ok (.slice (some ⟨W.heap.size, 0, none⟩) n.toNat n.toNat) (W.alloc (.cells (madeCells (Value.int .u8 0).cells n.toNat) 5)) := by
  obtain ⟨i0, hi, hz0, hz1, hz2⟩ := info_parts infoU8
  have h := run_make_rowN (P := Try.prog) 23 5 i0 _ Try.underlying23 hi hz0 .i64 .i64 n.toNat n.toNat (Nat.le_refl _) (by rw [hz2]; omega) (by omega) W
  rw [hz1, Nat.mul_one, Int.toNat_of_nonneg h0] at h
  exact h
set_option maxHeartbeats 1000000 in
theorem packBad_walk (a0 : Int) (w0 : (Lit.int .i64 a0).wf = true) (w : World) :
    Calls Try.prog 3 #[.int .i64 a0] w fun e w' => e = .returned (.bool true) ∧ Below w.heap.size w w' := by
  obtain ⟨h1, h2⟩ := i64_bd w0
  obtain ⟨hp1, hp2⟩ := pick_bd a0 9 (by omega)
  clear w0
  go_enter Try.func3, Try.ntmps3
  go_wp2_with fail
  refine (picked_any _ _ _ h1 h2 (by omega) (by omega)).mono ?_
  rintro e w' ⟨rfl, rfl⟩
  go_wp2_with fail
  refine (pack_form _ _ _ _ _ _ _ _ (by omega) (by omega) (by omega)).mono ?_
  rintro e w' ⟨rfl, rfl⟩
  go_wp2_with fail
  refine (pack_id _ _ _ (-pick a0 9) _ (by omega) (by omega) (by omega) (by go_simp)).mono ?_
  rintro e w' ⟨rfl, rfl⟩
  have hmk := make_bytes (601 + pick a0 9) (by omega) (by omega)
  go_wp2_with fail
  refine (pack_size _ _ _ 1 (some ⟨w.heap.size + 1 + 1 + 1 + 1, 0, none⟩) (601 + pick a0 9).toNat (601 + pick a0 9).toNat _ (by omega) (by omega) (by omega) (by omega) (by go_simp) (by go_simp) (by omega)).mono ?_
  rintro e w' ⟨rfl, rfl⟩
  go_wp2_with fail
  refine (pack_low _ _ _ _ _ _ _ _ (by omega)).mono ?_
  rintro e w' ⟨rfl, rfl⟩
  go_wp2_with fail
  refine (pack_nil _ _ (by omega) (by omega)).mono ?_
  rintro e w' ⟨rfl, rfl⟩
  go_wp2
  go_ret
  refine ⟨rfl, ?_⟩
  repeat (first | exact Below.refl _ _ | refine below_al ?_ _)
end Go.Proofs.Ytomfladifefomaa
-- T1: 
namespace Go.Proofs.Ytomfladifefomaa
open Go.RowKit
/-- bytes in memory -/
def BytesR (w : World) (v : Value) (bs : List UInt8) : Prop := TSl w 5 1 bs.length v (bs.map enc8)

set_option maxRecDepth 100000 in
set_option maxHeartbeats 400000 in
theorem clone_nil (c : Nat) (w : World) : Calls Try.prog 61 #[.slice none 0 c] w fun e w' => e = .returned (.slice none 0 0) ∧ w = w' := by
  have hnil := fun (w : World) (a : Option Addr) (n c n' c' : Nat) => Lib.run_eql_slice_nil (P := Try.prog) w 23 5 a n c n' c' Try.underlying23
  go_enter Try.func61, Try.ntmps61
  go_wp2
  go_ret
  exact ⟨rfl, rfl⟩
set_option maxRecDepth 100000 in
set_option maxHeartbeats 400000 in
theorem clone_some (a : Addr) (n c : Nat) (xs : List Value) (w : World) (h : TSl w 5 1 n (.slice (some a) n c) xs) (h1 : ∀ u ∈ xs, u.oneCell' = true) (hn : n ≤ 1000000000) :
    Calls Try.prog 61 #[.slice (some a) n c] w fun e w' => ∃ v', e = .returned v' ∧ w'.ownsRow w.heap.size 5 1 v' n xs ∧ Below w.heap.size w w' := by
  obtain ⟨i0, hi, hz0, hz1, hz2⟩ := info_parts infoU8
  have hl : xs.length = n * 1 := by obtain ⟨_, _, _, _, _, h3, _⟩ := h; exact h3
  have hnews := h.news
  have hlt : 0 < n → a.block < w.heap.size := by
    intro h0; obtain ⟨g, o, e, hg, _⟩ := h.at_ h0; cases e; exact hg
  have hnews' : ∀ j u, xs[j]? = some u → (w.alloc (.cells #[] 5)).cell? (a.add j) = some u := by
    intro j u hu
    by_cases h0 : 0 < n
    · rw [World.cell?_alloc_lt w _ _ (by have := hlt h0; rw [show (a.add j).block = a.block by unfold Addr.add; split <;> rfl]; exact this)]; exact hnews j u hu
    · have : xs = [] := List.eq_nil_of_length_eq_zero (by rw [hl]; omega)
      subst this; simp at hu
  have H := Lib.hid hnews'
  clear hnews' hnews hlt h
  have H1 := Lib.hid hl
  have H2 := Lib.hid h1
  clear hl h1
  have hnil := fun (w : World) (a : Option Addr) (n c n' c' : Nat) => Lib.run_eql_slice_nil (P := Try.prog) w 23 5 a n c n' c' Try.underlying23
  go_enter Try.func61, Try.ntmps61
  go_wp2_with (at_builtin; refine wpList_append_own _ rfl (.tmp 5) (.tmp 6) _ rfl w.heap.size 5 i0 _ 1 1 Try.underlying23 hi hz0 hz1 hz2 rfl (by omega) (.slice (some ⟨w.heap.size, 0, none⟩) 0 0) 0 [] rfl (World.ownsRow_made w #[] 0 (Nat.le_refl _) (by omega) rfl) a n c xs rfl H1.out H.out H2.out (by unfold maxLen; omega) (by omega) (by simp) ?_; intro v' w1 hown hg _; clear hi hz0 hz1 hz2)
  go_ret
  refine ⟨v', rfl, by simpa using hown, ?_⟩
  exact (below_al (Below.refl _ _) _).grown hg (by simp) (by simp [Value.ownBlock])
end Go.Proofs.Ytomfladifefomaa
-- T2: 
namespace Go.Proofs.Ytomfladifefomaa
open Go.RowKit
/-- a slice of byte slices -/
def RowR (w : World) (x : List UInt8) (cs : List Value) : Prop := ∃ u, cs = [u] ∧ BytesR w u x
def RowsR (w : World) (v : Value) (l : List (List UInt8)) : Prop := SeqR RowR 23 1 w v l
theorem bytesR_len {w : World} {v : Value} {bs : List UInt8} (h : BytesR w v bs) : ∃ A c, v = .slice A bs.length c ∧ bs.length ≤ c ∧ c ≤ maxLen := by
  obtain ⟨A, c, rfl, h1, h2, _⟩ := h; exact ⟨A, c, rfl, h1, h2⟩
set_option maxHeartbeats 400000 in
theorem check1_any (A : Option Addr) (n c : Nat) (w : World) : Calls Try.prog 64 #[.slice A n c] w fun e w' => e = .returned (.bool (!((n : Int) == 64))) ∧ w = w' := by
  go_enter Try.func64, Try.ntmps64
  go_wp2
  go_ret
  exact ⟨by rfl, rfl⟩
set_option maxRecDepth 100000 in
set_option maxHeartbeats 400000 in
theorem idx_rows (v : Value) (l : List (List UInt8)) (w : World) (h : RowsR w v l) (hn : l.length ≤ 100000) :
    Calls Try.prog 84 #[v, .func (.func 64) #[] #[]] w fun e w' => ∃ i : Int, e = .returned (.int .i64 i) ∧ w = w' ∧ (decide (0 ≤ i) = l.any fun s => s.length != 64) := by
  obtain ⟨A, c, rfl, hc1, hc2⟩ := h.form
  generalize hn' : l.length = n at *
  have Hn := Lib.hid hn'
  clear hn'
  go_enter Try.func84, Try.ntmps84
  go_wp2
  go_loop [8] (fun i => ∃ k : Nat, k ≤ n ∧ i = .int .i64 k ∧ ∀ j, j < k → ∀ s, l[j]? = some s → s.length = 64) (fun i => n - (intOf i).toNat)
  case atStart => exact ⟨0, Nat.zero_le _, rfl, fun j hj => absurd hj (by omega)⟩
  case round =>
    obtain ⟨k, hk, rfl, hall⟩ := hrel
    have Hall := Lib.hid hall
    clear hall
    by_cases hlt : k < n
    · have hx : l[k]? = some (l[k]'(by rw [Hn.out]; exact hlt)) := List.getElem?_eq_getElem _
      obtain ⟨g, o, cs, rfl, hg, hl, ⟨u, rfl, hu⟩, hcell⟩ := h.at_ hx
      obtain ⟨A1, c1, rfl, hd1, hd2⟩ := bytesR_len hu
      have hcell0 : w.cell? ⟨g, o + k, none⟩ = some (.slice A1 (l[k]'(by rw [Hn.out]; exact hlt)).length c1) := by simpa using hcell 0 _ rfl
      clear hcell
      have Hx := Lib.hid hx
      clear hx hl
      have Hu := Lib.hid hu
      clear hu
      generalize hm : (l[k]'(by rw [Hn.out]; exact hlt)).length = m at *
      have Hm := Lib.hid hm
      clear hm h
      by_cases hb : m = 64
      · have hbb : ((m : Int) == 64) = true := by simp; omega
        go_wp2_with (go_at_call 64; refine (check1_any _ _ _ _).mono ?_; rintro e w' ⟨rfl, rfl⟩)
        go_round
        case rel =>
          refine ⟨k + 1, by omega, by go_num, fun j hj s hs => ?_⟩
          by_cases e : j = k
          · subst e; rw [Hx.out] at hs; cases hs; exact Hm.out.trans hb
          · exact Hall.out j (by omega) s hs
        case measure => simp [intOf]; omega
      · have hbb : ((m : Int) == 64) = false := by simp; omega
        go_wp2_with (go_at_call 64; refine (check1_any _ _ _ _).mono ?_; rintro e w' ⟨rfl, rfl⟩)
        go_ret
        refine ⟨_, rfl, rfl, ?_⟩
        have : (l.any fun s => s.length != 64) = true := by
          rw [List.any_eq_true]; exact ⟨_, List.mem_of_getElem? Hx.out, by rw [Hm.out]; simpa using hb⟩
        rw [this]; simp
    · go_wp2
      go_ret
      refine ⟨_, rfl, rfl, ?_⟩
      have : (l.any fun s => s.length != 64) = false := by
        rw [List.any_eq_false]
        intro s hs
        obtain ⟨j, hj⟩ := List.getElem?_of_mem hs
        have hjl : j < l.length := (List.getElem?_eq_some_iff.1 hj).1
        have := Hall.out j (by rw [Hn.out] at hjl; omega) s hj
        simp [this]
      rw [this]; rfl
set_option maxHeartbeats 400000 in
theorem has_rows (v : Value) (l : List (List UInt8)) (w : World) (h : RowsR w v l) (hn : l.length ≤ 100000) :
    Calls Try.prog 63 #[v, .func (.func 64) #[] #[]] w fun e w' => e = .returned (.bool (l.any fun s => s.length != 64)) ∧ w = w' := by
  go_enter Try.func63, Try.ntmps63
  go_wp2_with (go_at_call 84; refine (idx_rows _ _ _ h hn).mono ?_; rintro e w' ⟨i, rfl, rfl, hi⟩; have Hi := Lib.hid hi; clear hi)
  go_ret
  exact ⟨by rw [← Hi.out]; rfl, rfl⟩
end Go.Proofs.Ytomfladifefomaa
-- T3: 
namespace Go.Proofs.Ytomfladifefomaa
open Go.RowKit
def wBad (at_ : Int) (n m : Nat) : Bool := decide (at_ < 0) || decide ((n : Int) ≤ at_) || m != 64
theorem ret_bool {a b : Bool} (h : a = b) : Ending.returned (.bool a) = .returned (.bool b) := by rw [h]
set_option maxHeartbeats 400000 in
theorem check2_any (at_ : Int) (A B : Option Addr) (n m c d b : Nat) (w : World) (hc : w.cell? ⟨b, 0, none⟩ = some (.slice B n d)) (hb : b < w.heap.size) :
    Calls Try.prog 66 #[.agg #[.int .i64 at_, .slice A m c], .pointer (some ⟨b, 0, none⟩)] w fun e w' => e = .returned (.bool (wBad at_ n m)) ∧ Below w.heap.size w w' := by
  by_cases h1 : at_ < 0
  · go_enter Try.func66, Try.ntmps66
    go_wp2
    go_ret
    exact ⟨ret_bool (by simp [wBad, h1]), below_al (Below.refl _ _) _⟩
  · by_cases h2 : (n : Int) ≤ at_
    · go_enter Try.func66, Try.ntmps66
      go_wp2
      go_ret
      exact ⟨ret_bool (by simp [wBad, h2]), below_al (Below.refl _ _) _⟩
    · by_cases h3 : m = 64
      · have hbb : ((m : Int) == 64) = true := by simp; omega
        have H3 := Lib.hid h3
        clear h3
        go_enter Try.func66, Try.ntmps66
        go_wp2
        go_ret
        exact ⟨ret_bool (by simp [wBad, H3.out]; omega), below_al (Below.refl _ _) _⟩
      · have hbb : ((m : Int) == 64) = false := by simp; omega
        have H3 := Lib.hid h3
        clear h3
        go_enter Try.func66, Try.ntmps66
        go_wp2
        go_ret
        exact ⟨ret_bool (by rw [show ((m : Int) != 64) = true from by rw [bne_iff_ne]; have := H3.out; omega]; unfold wBad; rw [show (m != 64) = true from by rw [bne_iff_ne]; exact H3.out]; simp), below_al (Below.refl _ _) _⟩
def vBad (n : Nat) (s : Int) (g : Bool) (most : Int) : Bool := decide (most < n) || decide (s < 0) || decide ((n : Int) < s) || (g && decide (0 < n))
set_option maxHeartbeats 800000 in
theorem check3_any (A : Option Addr) (n c : Nat) (s : Int) (g : Bool) (most : Int) (b : Nat) (w : World) (hc : w.cell? ⟨b, 3, none⟩ = some (.int .i64 most)) (hb : b < w.heap.size) :
    Calls Try.prog 68 #[.agg #[.slice A n c, .int .i64 s, .bool g], .pointer (some ⟨b, 0, none⟩)] w fun e w' => e = .returned (.bool (vBad n s g most)) ∧ Below w.heap.size w w' := by
  by_cases h1 : most < n
  · go_enter Try.func68, Try.ntmps68
    go_wp2
    go_ret
    exact ⟨ret_bool (by simp [vBad, h1]), below_al (Below.refl _ _) _⟩
  · by_cases h2 : s < 0
    · go_enter Try.func68, Try.ntmps68
      go_wp2
      go_ret
      exact ⟨ret_bool (by simp [vBad, h2]), below_al (Below.refl _ _) _⟩
    · by_cases h3 : (n : Int) < s
      · go_enter Try.func68, Try.ntmps68
        go_wp2
        go_ret
        exact ⟨ret_bool (by simp [vBad, h3]), below_al (Below.refl _ _) _⟩
      · cases g with
        | false =>
          go_enter Try.func68, Try.ntmps68
          go_wp2
          go_ret
          exact ⟨ret_bool (by simp [vBad]; omega), below_al (Below.refl _ _) _⟩
        | true =>
          by_cases h4 : (0 : Int) < (n : Int)
          · go_enter Try.func68, Try.ntmps68
            go_wp2
            go_ret
            exact ⟨ret_bool (by simp [vBad]; omega), below_al (Below.refl _ _) _⟩
          · go_enter Try.func68, Try.ntmps68
            go_wp2
            go_ret
            exact ⟨ret_bool (by simp [vBad]; omega), below_al (Below.refl _ _) _⟩
end Go.Proofs.Ytomfladifefomaa
-- T4: 
namespace Go.Proofs.Ytomfladifefomaa
open Go.RowKit
structure Wr where
  at_ : Int
  data : List UInt8
structure Vol where
  data : List UInt8
  synced : Int
  gone : Bool
structure Dev where
  safe : List (List UInt8)
  cache : List Wr
  vols : List Vol
  fuel : Int
def WrR (w : World) (x : Wr) (cs : List Value) : Prop := ∃ u, cs = [.int .i64 x.at_, u] ∧ BytesR w u x.data
def VolR (w : World) (x : Vol) (cs : List Value) : Prop := ∃ u, cs = [u, .int .i64 x.synced, .bool x.gone] ∧ BytesR w u x.data
def WrsR (w : World) (v : Value) (l : List Wr) : Prop := SeqR WrR 61 2 w v l
def VolsR (w : World) (v : Value) (l : List Vol) : Prop := SeqR VolR 104 3 w v l
theorem BytesR.keep {X : TypeId → Bool} (hx : X 5 = true) {w w' : World} {v : Value} {bs : List UInt8} (hk : KeepX X w w') (h : BytesR w v bs) : BytesR w' v bs := TSl.keep h hk hx
theorem rowR_stays {X : TypeId → Bool} (hx : X 5 = true) : Stays RowR X := fun _ _ _ _ hk ⟨u, e, h⟩ => ⟨u, e, h.keep hx hk⟩
theorem wrR_stays {X : TypeId → Bool} (hx : X 5 = true) : Stays WrR X := fun _ _ _ _ hk ⟨u, e, h⟩ => ⟨u, e, h.keep hx hk⟩
theorem volR_stays {X : TypeId → Bool} (hx : X 5 = true) : Stays VolR X := fun _ _ _ _ hk ⟨u, e, h⟩ => ⟨u, e, h.keep hx hk⟩
set_option maxRecDepth 100000 in
set_option maxHeartbeats 400000 in
theorem idx_wrs (v : Value) (l : List Wr) (B : Option Addr) (m d b : Nat) (w : World) (h : WrsR w v l) (hn : l.length ≤ 100000) (hc : w.cell? ⟨b, 0, none⟩ = some (.slice B m d)) (hb : b < w.heap.size) :
    Calls Try.prog 85 #[v, .func (.func 66) #[] #[.pointer (some ⟨b, 0, none⟩)]] w fun e w' => ∃ i : Int, e = .returned (.int .i64 i) ∧ Below w.heap.size w w' ∧ (decide (0 ≤ i) = l.any fun x => wBad x.at_ m x.data.length) := by
  obtain ⟨A, c, rfl, hc1, hc2⟩ := h.form
  generalize hn' : l.length = n at *
  have Hn := Lib.hid hn'
  clear hn'
  go_enter Try.func85, Try.ntmps85
  go_wp2
  go_loopw [8] (fun i wr => ∃ k : Nat, k ≤ n ∧ i = .int .i64 k ∧ Below w.heap.size w wr ∧ ∀ j, j < k → ∀ x, l[j]? = some x → wBad x.at_ m x.data.length = false) (fun i _ => n - (intOf i).toNat)
  case atStart => exact ⟨0, Nat.zero_le _, rfl, Below.refl _ _, fun j hj => absurd hj (by omega)⟩
  case round =>
    obtain ⟨k, hk, rfl, hbw, hall⟩ := hrel
    have Hall := Lib.hid hall
    clear hall
    have hcr := (hbw.cell (p := ⟨b, 0, none⟩) hb).trans hc
    have hbr : b < wr.heap.size := Nat.lt_of_lt_of_le hb hbw.size
    clear hc hb
    by_cases hlt : k < n
    · obtain ⟨x, hx⟩ : ∃ x, l[k]? = some x := ⟨_, List.getElem?_eq_getElem (by rw [Hn.out]; exact hlt)⟩
      have h' : WrsR wr (.slice A n c) l := SeqR.keep h (wrR_stays (X := fun _ => true) rfl) rfl (KeepX.of_below hbw)
      obtain ⟨g, o, cs, rfl, hg, hl, ⟨u, rfl, hu⟩, hcell⟩ := h'.at_ hx
      obtain ⟨A1, c1, rfl, hd1, hd2⟩ := bytesR_len hu
      have hcell0 : wr.cell? ⟨g, o + k * 2, none⟩ = some (.int .i64 x.at_) := by simpa only [Nat.add_zero] using hcell 0 _ rfl
      have hcell1 := hcell 1 _ rfl
      clear hcell h' h hl
      have Hx := Lib.hid hx
      clear hx
      have Hu := Lib.hid hu
      clear hu
      by_cases hb : wBad x.at_ m x.data.length = false
      · have hbb : wBad x.at_ m x.data.length = false := hb
        go_wp2_with (go_at_call 66; refine (check2_any _ _ _ _ _ _ _ _ _ hcr hbr).mono ?_; rintro e w1 ⟨rfl, hb1⟩; have HB1 := Lib.hid hb1; clear hb1)
        go_roundw
        case rel =>
          refine ⟨k + 1, by omega, by go_num, below_tr hbw HB1.out, fun j hj y hy => ?_⟩
          by_cases e : j = k
          · subst e; rw [Hx.out] at hy; cases hy; exact hb
          · exact Hall.out j (by omega) y hy
        case measure => simp [intOf]; omega
      · have hbb : wBad x.at_ m x.data.length = true := by simpa using hb
        clear hb
        go_wp2_with (go_at_call 66; refine (check2_any _ _ _ _ _ _ _ _ _ hcr hbr).mono ?_; rintro e w1 ⟨rfl, hb1⟩; have HB1 := Lib.hid hb1; clear hb1)
        go_ret
        refine ⟨_, rfl, below_tr hbw HB1.out, ?_⟩
        have : (l.any fun x => wBad x.at_ m x.data.length) = true := by
          rw [List.any_eq_true]; exact ⟨_, List.mem_of_getElem? Hx.out, hbb⟩
        rw [this]; simp
    · go_wp2
      go_ret
      refine ⟨_, rfl, hbw, ?_⟩
      have : (l.any fun x => wBad x.at_ m x.data.length) = false := by
        rw [List.any_eq_false]
        intro y hy
        obtain ⟨j, hj⟩ := List.getElem?_of_mem hy
        have hjl : j < l.length := (List.getElem?_eq_some_iff.1 hj).1
        have := Hall.out j (by rw [Hn.out] at hjl; omega) y hj
        simp [this]
      rw [this]; rfl
set_option maxRecDepth 100000 in
set_option maxHeartbeats 400000 in
theorem idx_vols (v : Value) (l : List Vol) (most : Int) (b : Nat) (w : World) (h : VolsR w v l) (hn : l.length ≤ 100000) (hc : w.cell? ⟨b, 3, none⟩ = some (.int .i64 most)) (hb : b < w.heap.size) :
    Calls Try.prog 86 #[v, .func (.func 68) #[] #[.pointer (some ⟨b, 0, none⟩)]] w fun e w' => ∃ i : Int, e = .returned (.int .i64 i) ∧ Below w.heap.size w w' ∧ (decide (0 ≤ i) = l.any fun x => vBad x.data.length x.synced x.gone most) := by
  obtain ⟨A, c, rfl, hc1, hc2⟩ := h.form
  generalize hn' : l.length = n at *
  have Hn := Lib.hid hn'
  clear hn'
  go_enter Try.func86, Try.ntmps86
  go_wp2
  go_loopw [8] (fun i wr => ∃ k : Nat, k ≤ n ∧ i = .int .i64 k ∧ Below w.heap.size w wr ∧ ∀ j, j < k → ∀ x, l[j]? = some x → vBad x.data.length x.synced x.gone most = false) (fun i _ => n - (intOf i).toNat)
  case atStart => exact ⟨0, Nat.zero_le _, rfl, Below.refl _ _, fun j hj => absurd hj (by omega)⟩
  case round =>
    obtain ⟨k, hk, rfl, hbw, hall⟩ := hrel
    have Hall := Lib.hid hall
    clear hall
    have hcr := (hbw.cell (p := ⟨b, 3, none⟩) hb).trans hc
    have hbr : b < wr.heap.size := Nat.lt_of_lt_of_le hb hbw.size
    clear hc hb
    by_cases hlt : k < n
    · obtain ⟨x, hx⟩ : ∃ x, l[k]? = some x := ⟨_, List.getElem?_eq_getElem (by rw [Hn.out]; exact hlt)⟩
      have h' : VolsR wr (.slice A n c) l := SeqR.keep h (volR_stays (X := fun _ => true) rfl) rfl (KeepX.of_below hbw)
      obtain ⟨g, o, cs, rfl, hg, hl, ⟨u, rfl, hu⟩, hcell⟩ := h'.at_ hx
      obtain ⟨A1, c1, rfl, hd1, hd2⟩ := bytesR_len hu
      have hcell0 : wr.cell? ⟨g, o + k * 3, none⟩ = some (.slice A1 x.data.length c1) := by simpa only [Nat.add_zero] using hcell 0 _ rfl
      have hcell1 := hcell 1 _ rfl
      have hcell2 := hcell 2 _ rfl
      clear hcell h' h hl
      have Hx := Lib.hid hx
      clear hx
      have Hu := Lib.hid hu
      clear hu
      by_cases hb : vBad x.data.length x.synced x.gone most = false
      · have hbb : vBad x.data.length x.synced x.gone most = false := hb
        go_wp2_with (go_at_call 68; refine (check3_any _ _ _ _ _ _ _ _ hcr hbr).mono ?_; rintro e w1 ⟨rfl, hb1⟩; have HB1 := Lib.hid hb1; clear hb1)
        go_roundw
        case rel =>
          refine ⟨k + 1, by omega, by go_num, below_tr hbw HB1.out, fun j hj y hy => ?_⟩
          by_cases e : j = k
          · subst e; rw [Hx.out] at hy; cases hy; exact hb
          · exact Hall.out j (by omega) y hy
        case measure => simp [intOf]; omega
      · have hbb : vBad x.data.length x.synced x.gone most = true := by simpa using hb
        clear hb
        go_wp2_with (go_at_call 68; refine (check3_any _ _ _ _ _ _ _ _ hcr hbr).mono ?_; rintro e w1 ⟨rfl, hb1⟩; have HB1 := Lib.hid hb1; clear hb1)
        go_ret
        refine ⟨_, rfl, below_tr hbw HB1.out, ?_⟩
        have : (l.any fun x => vBad x.data.length x.synced x.gone most) = true := by
          rw [List.any_eq_true]; exact ⟨_, List.mem_of_getElem? Hx.out, hbb⟩
        rw [this]; simp
    · go_wp2
      go_ret
      refine ⟨_, rfl, hbw, ?_⟩
      have : (l.any fun x => vBad x.data.length x.synced x.gone most) = false := by
        rw [List.any_eq_false]
        intro y hy
        obtain ⟨j, hj⟩ := List.getElem?_of_mem hy
        have hjl : j < l.length := (List.getElem?_eq_some_iff.1 hj).1
        have := Hall.out j (by rw [Hn.out] at hjl; omega) y hj
        simp [this]
      rw [this]; rfl
set_option maxHeartbeats 400000 in
theorem has_wrs (v : Value) (l : List Wr) (B : Option Addr) (m d b : Nat) (w : World) (h : WrsR w v l) (hn : l.length ≤ 100000) (hc : w.cell? ⟨b, 0, none⟩ = some (.slice B m d)) (hb : b < w.heap.size) :
    Calls Try.prog 65 #[v, .func (.func 66) #[] #[.pointer (some ⟨b, 0, none⟩)]] w fun e w' => e = .returned (.bool (l.any fun x => wBad x.at_ m x.data.length)) ∧ Below w.heap.size w w' := by
  go_enter Try.func65, Try.ntmps65
  go_wp2_with (go_at_call 85; refine (idx_wrs _ _ _ _ _ _ _ h hn hc hb).mono ?_; rintro e w1 ⟨i, rfl, hb1, hi⟩; have Hi := Lib.hid hi; clear hi)
  go_ret
  exact ⟨by rw [← Hi.out]; rfl, hb1⟩
set_option maxHeartbeats 400000 in
theorem has_vols (v : Value) (l : List Vol) (most : Int) (b : Nat) (w : World) (h : VolsR w v l) (hn : l.length ≤ 100000) (hc : w.cell? ⟨b, 3, none⟩ = some (.int .i64 most)) (hb : b < w.heap.size) :
    Calls Try.prog 67 #[v, .func (.func 68) #[] #[.pointer (some ⟨b, 0, none⟩)]] w fun e w' => e = .returned (.bool (l.any fun x => vBad x.data.length x.synced x.gone most)) ∧ Below w.heap.size w w' := by
  go_enter Try.func67, Try.ntmps67
  go_wp2_with (go_at_call 86; refine (idx_vols _ _ _ _ _ h hn hc hb).mono ?_; rintro e w1 ⟨i, rfl, hb1, hi⟩; have Hi := Lib.hid hi; clear hi)
  go_ret
  exact ⟨by rw [← Hi.out]; rfl, hb1⟩
end Go.Proofs.Ytomfladifefomaa
-- T5: 
namespace Go.Proofs.Ytomfladifefomaa
open Go.RowKit
structure Geo where
  ring : Int
  area : Int
  hot : Int
  volume : Int
  volumes : Int
structure GoodGeo (g : Geo) : Prop where
  r1 : 4 ≤ g.ring
  r2 : g.ring ≤ 60
  a1 : 2 ≤ g.area
  a2 : g.area ≤ 80
  h1 : 2 ≤ g.hot
  h2 : g.hot ≤ 200
  v1 : 100 ≤ g.volume
  v2 : g.volume ≤ 4000
  n1 : 1 ≤ g.volumes
  n2 : g.volumes ≤ 8
def geoV (g : Geo) : Value := .agg #[.int .i64 g.ring, .int .i64 g.area, .int .i64 g.hot, .int .i64 g.volume, .int .i64 g.volumes]
def sectorsOf (g : Geo) : Int := 2 + g.ring + 2 * g.area + g.hot
structure GoodDev (g : Geo) (d : Dev) : Prop where
  safe : (d.safe.length : Int) = sectorsOf g
  rows : ∀ s ∈ d.safe, s.length = 64
  most : d.cache.length ≤ 2000
  cache : ∀ x ∈ d.cache, wBad x.at_ d.safe.length x.data.length = false
  many : (d.vols.length : Int) ≤ g.volumes
  vols : ∀ x ∈ d.vols, vBad x.data.length x.synced x.gone g.volume = false
  f1 : -1 ≤ d.fuel
  f2 : d.fuel ≤ 1048576
/-- devices in memory -/
def DevR (w : World) (dv : Value) (d : Dev) : Prop := ∃ s c v, dv = .agg #[s, c, v, .int .i64 d.fuel] ∧ RowsR w s d.safe ∧ WrsR w c d.cache ∧ VolsR w v d.vols
/-- the types of blocks that devices lie in -/
def devX (t : TypeId) : Bool := t == 5 || t == 23 || t == 61 || t == 104
theorem DevR.keep {X : TypeId → Bool} (h5 : X 5 = true) (h23 : X 23 = true) (h61 : X 61 = true) (h104 : X 104 = true) {w w' : World} {dv : Value} {d : Dev} (hk : KeepX X w w') (h : DevR w dv d) : DevR w' dv d := by
  obtain ⟨s, c, v, rfl, h1, h2, h3⟩ := h
  exact ⟨s, c, v, rfl, SeqR.keep h1 (rowR_stays h5) h23 hk, SeqR.keep h2 (wrR_stays h5) h61 hk, SeqR.keep h3 (volR_stays h5) h104 hk⟩
theorem DevR.below {w w' : World} {dv : Value} {d : Dev} (h : DevR w dv d) (hb : Below w.heap.size w w') : DevR w' dv d :=
  h.keep (X := fun _ => true) rfl rfl rfl rfl (KeepX.of_below hb)

set_option maxHeartbeats 1000000 in
theorem geo_good (g : Geo) (hg : GoodGeo g) (w : World) : Calls Try.prog 36 #[geoV g] w fun e w' => e = .returned (.int .i64 0) ∧ Below w.heap.size w w' := by
  obtain ⟨a, b, c, d, e⟩ := g
  obtain ⟨h1, h2, h3, h4, h5, h6, h7, h8, h9, h10⟩ := hg
  simp only at h1 h2 h3 h4 h5 h6 h7 h8 h9 h10
  unfold geoV
  simp only
  go_enter Try.func36, Try.ntmps36
  go_wp2
  refine wp_loop_rounds 6 ?_
  iterate 6 (rw [rounds_succ]; go_wp2)
  go_ret
  refine ⟨rfl, ?_⟩
  repeat (first | exact Below.refl _ _ | refine below_al ?_ _)
theorem sectors_any (g : Geo) (hg : GoodGeo g) (w : World) : Calls Try.prog 58 #[geoV g] w fun e w' => e = .returned (.int .i64 (sectorsOf g)) ∧ Below w.heap.size w w' := by
  obtain ⟨a, b, c, d, e⟩ := g
  obtain ⟨h1, h2, h3, h4, h5, h6, h7, h8, h9, h10⟩ := hg
  simp only at h1 h2 h3 h4 h5 h6 h7 h8 h9 h10
  unfold geoV sectorsOf
  simp only
  go_enter Try.func58, Try.ntmps58
  go_wp2
  go_ret
  exact ⟨rfl, below_al (Below.refl _ _) _⟩
end Go.Proofs.Ytomfladifefomaa
-- T6: 
namespace Go.Proofs.Ytomfladifefomaa
open Go.RowKit
set_option maxRecDepth 100000 in
set_option maxHeartbeats 2000000 in
theorem check_good (g : Geo) (hg : GoodGeo g) (d : Dev) (hd : GoodDev g d) (dv : Value) (w : World) (h : DevR w dv d) :
    Calls Try.prog 35 #[geoV g, dv] w fun e w' => e = .returned (.int .i64 0) ∧ Below w.heap.size w w' := by
  obtain ⟨s, c, v, rfl, hs, hc, hv⟩ := h
  obtain ⟨A1, c1, rfl, hs1, hs2⟩ := SeqR.form hs
  obtain ⟨A2, c2, rfl, hc1, hc2⟩ := SeqR.form hc
  obtain ⟨A3, c3, rfl, hv1, hv2⟩ := SeqR.form hv
  have Hs := Lib.hid hs
  have Hc := Lib.hid hc
  have Hv := Lib.hid hv
  clear hs hc hv
  have hsec := sectors_any g hg
  obtain ⟨safe, cache, vols, fuel⟩ := d
  obtain ⟨d1, d2, d3, d4, d5, d6, d7, d8⟩ := hd
  simp only at *
  have hsa : (safe.any fun s => s.length != 64) = false := by
    rw [List.any_eq_false]; intro s hs; simp [d2 s hs]
  have hca : (cache.any fun x => wBad x.at_ safe.length x.data.length) = false := by
    rw [List.any_eq_false]; intro s hs; simp [d4 s hs]
  have hva : (vols.any fun x => vBad x.data.length x.synced x.gone g.volume) = false := by
    rw [List.any_eq_false]; intro s hs; simp [d6 s hs]
  have hgg := hg
  obtain ⟨a, b, c, e, f⟩ := g
  obtain ⟨h1, h2, h3, h4, h5, h6, h7, h8, h9, h10⟩ := hg
  have hsz : sectorsOf ⟨a, b, c, e, f⟩ ≤ 1000 := by unfold sectorsOf; simp only at *; omega
  generalize hS : sectorsOf ⟨a, b, c, e, f⟩ = S at *
  simp only at *
  generalize hn1 : safe.length = n1 at *
  generalize hn2 : cache.length = n2 at *
  generalize hn3 : vols.length = n3 at *
  have hq1 : ((n1 : Int) != S) = false := by simp; omega
  have hq1' : ((n1 : Int) == S) = true := by simp; omega
  have hq2 : decide ((2000 : Int) < (n2 : Int)) = false := by simp; omega
  have hq3 : decide (f < (n3 : Int)) = false := by simp; omega
  have hq4 : decide (fuel < -1) = false := by simp; omega
  have hq5 : decide (1048576 < fuel) = false := by simp; omega
  have Hn1 := Lib.hid hn1
  have Hn2 := Lib.hid hn2
  have Hn3 := Lib.hid hn3
  have HS := Lib.hid hS
  have Hd1 := Lib.hid d1
  have Hsa := Lib.hid hsa
  have Hca := Lib.hid hca
  have Hva := Lib.hid hva
  clear hn1 hn2 hn3 hS d1 d2 d4 d6 hsa hca hva
  have Hsec := Lib.hid hsec
  clear hsec
  unfold geoV
  simp only
  go_enter Try.func35, Try.ntmps35
  go_wp2_with (go_at_call 36; refine (geo_good ⟨a, b, c, e, f⟩ hgg _).mono ?_; rintro e w1 ⟨rfl, hb1⟩; obtain ⟨hx1, hy1, hz1, HB1⟩ := bcell hb1; clear hb1; simp at hz1)
  have q0 : w1.cell? ⟨w.heap.size, 0, none⟩ = some (.int .i64 a) := by go_simp
  have q1 : w1.cell? ⟨w.heap.size, 1, none⟩ = some (.int .i64 b) := by go_simp
  have q2 : w1.cell? ⟨w.heap.size, 2, none⟩ = some (.int .i64 c) := by go_simp
  have q3 : w1.cell? ⟨w.heap.size, 3, none⟩ = some (.int .i64 e) := by go_simp
  have q4 : w1.cell? ⟨w.heap.size, 4, none⟩ = some (.int .i64 f) := by go_simp
  have q5 : w1.cell? ⟨w.heap.size + 1, 0, none⟩ = some (.slice A1 n1 c1) := by go_simp
  have q6 : w1.cell? ⟨w.heap.size + 1, 1, none⟩ = some (.slice A2 n2 c2) := by go_simp
  have q7 : w1.cell? ⟨w.heap.size + 1, 2, none⟩ = some (.slice A3 n3 c3) := by go_simp
  have q8 : w1.cell? ⟨w.heap.size + 1, 3, none⟩ = some (.int .i64 fuel) := by go_simp
  clear hx1 hy1
  go_region_held3 (fun W => W.cell? ⟨w.heap.size, 0, none⟩ = some (.int .i64 a) ∧ W.cell? ⟨w.heap.size, 1, none⟩ = some (.int .i64 b) ∧ W.cell? ⟨w.heap.size, 2, none⟩ = some (.int .i64 c) ∧ W.cell? ⟨w.heap.size, 3, none⟩ = some (.int .i64 e) ∧ W.cell? ⟨w.heap.size, 4, none⟩ = some (.int .i64 f) ∧
      W.cell? ⟨w.heap.size + 1, 0, none⟩ = some (.slice A1 n1 c1) ∧ W.cell? ⟨w.heap.size + 1, 1, none⟩ = some (.slice A2 n2 c2) ∧ W.cell? ⟨w.heap.size + 1, 2, none⟩ = some (.slice A3 n3 c3) ∧ W.cell? ⟨w.heap.size + 1, 3, none⟩ = some (.int .i64 fuel) ∧ w.heap.size + 1 + 1 ≤ W.heap.size)
    (first | go_keep | ((try dsimp only); refine ⟨?_, ?_, ?_, ?_, ?_, ?_, ?_, ?_, ?_, ?_⟩ <;> first | go_keep | ((first | rw [hx2 _ _ (by go_simp <;> omega)]); first | exact q0 | exact q1 | exact q2 | exact q3 | exact q4 | exact q5 | exact q6 | exact q7 | exact q8) | (simp at hz2; omega)))
    ((go_at_call 58; refine (Hsec.out _).mono ?_; rintro e w2 ⟨rfl, hb2⟩; obtain ⟨hx2, hy2, hz2, HB2⟩ := bcell hb2; clear hb2))
  have p0 : w2.cell? ⟨w.heap.size, 3, none⟩ = some (.int .i64 e) := by rw [hx2 _ _ (by go_simp <;> omega)]; exact q3
  have p1 : w2.cell? ⟨w.heap.size + 1, 0, none⟩ = some (.slice A1 n1 c1) := by rw [hx2 _ _ (by go_simp <;> omega)]; exact q5
  have p2 : w2.cell? ⟨w.heap.size + 1, 1, none⟩ = some (.slice A2 n2 c2) := by rw [hx2 _ _ (by go_simp <;> omega)]; exact q6
  have p3 : w2.cell? ⟨w.heap.size + 1, 2, none⟩ = some (.slice A3 n3 c3) := by rw [hx2 _ _ (by go_simp <;> omega)]; exact q7
  have hbw : Below w.heap.size w w2 := below_tr (below_al (below_al (Below.refl _ _) _) _ |> fun h => below_tr h HB1.out |>.drew) HB2.out
  have hz : w.heap.size + 1 + 1 ≤ w2.heap.size := by simp at hz2; omega
  clear hx2 hy2 q0 q1 q2 q3 q4 q5 q6 q7 q8 hz2
  have Hbw := Lib.hid hbw
  clear hbw
  go_wp2_with fail
  refine (has_rows _ _ _ (SeqR.keep Hs.out (rowR_stays (X := fun _ => true) rfl) rfl (KeepX.of_below Hbw.out)) (by have := Hd1.out; rw [Hn1.out]; omega)).mono ?_
  rintro e' w' ⟨rfl, rfl⟩
  rw [Hsa.out]
  go_wp2_with fail
  refine (has_wrs _ cache _ _ _ _ _ (SeqR.keep Hc.out (wrR_stays (X := fun _ => true) rfl) rfl (KeepX.of_below Hbw.out)) (by rw [Hn2.out]; omega) p1 (by omega)).mono ?_
  rintro e' w3 ⟨rfl, hb3⟩
  rw [Hca.out]
  have p4 := (hb3.cell (p := ⟨w.heap.size, 3, none⟩) (by show w.heap.size < w2.heap.size; omega)).trans p0
  have p5 := (hb3.cell (p := ⟨w.heap.size + 1, 2, none⟩) (by show w.heap.size + 1 < w2.heap.size; omega)).trans p3
  have hz3 := hb3.size
  have HB3 := Lib.hid (below_tr Hbw.out hb3)
  clear hb3 p0 p1 p2 p3
  go_wp2_with fail
  refine (has_vols _ vols _ _ _ (SeqR.keep Hv.out (volR_stays (X := fun _ => true) rfl) rfl (KeepX.of_below HB3.out)) (by rw [Hn3.out]; omega) p4 (by omega)).mono ?_
  rintro e' w4 ⟨rfl, hb4⟩
  rw [Hva.out]
  have HB4 := Lib.hid (below_tr HB3.out hb4)
  clear hb4
  go_wp2
  go_ret
  exact ⟨rfl, HB4.out⟩
end Go.Proofs.Ytomfladifefomaa
