import Derived.Test.YtomfladifefomaaRows
import Derived.Test.YtomfladifefomaaMem
import Derived.Test.YtomfladifefomaaT1
namespace Go.Proofs.Ytomfladifefomaa
open Go.RowKit
/-- a slice of byte slices -/
def RowR (w : World) (x : List UInt8) (cs : List Value) : Prop := ∃ u, cs = [u] ∧ BytesR w u x
def RowsR (w : World) (v : Value) (l : List (List UInt8)) : Prop := SeqR RowR 23 1 w v l
theorem bytesR_len {w : World} {v : Value} {bs : List UInt8} (h : BytesR w v bs) : ∃ A c, v = .slice A bs.length c ∧ bs.length ≤ c ∧ c ≤ maxLen := by
  obtain ⟨A, c, rfl, h1, h2, _⟩ := h; exact ⟨A, c, rfl, h1, h2⟩
set_option maxHeartbeats 400000 in
theorem check1_any (A : Option Addr) (n c : Nat) (w : World) : Calls Try.prog 64 #[.slice A n c] w fun e w' => e = .returned (.bool (!((n : Int) == 64))) ∧ w = w' := by
  go_enter Try.func64, Try.ntmps64
  go_wp2
  go_ret
  exact ⟨by rfl, rfl⟩
set_option maxRecDepth 100000 in
set_option maxHeartbeats 400000 in
theorem idx_rows (v : Value) (l : List (List UInt8)) (w : World) (h : RowsR w v l) (hn : l.length ≤ 100000) :
    Calls Try.prog 84 #[v, .func (.func 64) #[] #[]] w fun e w' => ∃ i : Int, e = .returned (.int .i64 i) ∧ w = w' ∧ (decide (0 ≤ i) = l.any fun s => s.length != 64) := by
  obtain ⟨A, c, rfl, hc1, hc2⟩ := h.form
  generalize hn' : l.length = n at *
  have Hn := Lib.hid hn'
  clear hn'
  go_enter Try.func84, Try.ntmps84
  go_wp2
  go_loop [8] (fun i => ∃ k : Nat, k ≤ n ∧ i = .int .i64 k ∧ ∀ j, j < k → ∀ s, l[j]? = some s → s.length = 64) (fun i => n - (intOf i).toNat)
  case atStart => exact ⟨0, Nat.zero_le _, rfl, fun j hj => absurd hj (by omega)⟩
  case round =>
    obtain ⟨k, hk, rfl, hall⟩ := hrel
    have Hall := Lib.hid hall
    clear hall
    by_cases hlt : k < n
    · have hx : l[k]? = some (l[k]'(by rw [Hn.out]; exact hlt)) := List.getElem?_eq_getElem _
      obtain ⟨g, o, cs, rfl, hg, hl, ⟨u, rfl, hu⟩, hcell⟩ := h.at_ hx
      obtain ⟨A1, c1, rfl, hd1, hd2⟩ := bytesR_len hu
      have hcell0 : w.cell? ⟨g, o + k, none⟩ = some (.slice A1 (l[k]'(by rw [Hn.out]; exact hlt)).length c1) := by simpa using hcell 0 _ rfl
      clear hcell
      have Hx := Lib.hid hx
      clear hx hl
      have Hu := Lib.hid hu
      clear hu
      generalize hm : (l[k]'(by rw [Hn.out]; exact hlt)).length = m at *
      have Hm := Lib.hid hm
      clear hm h
      by_cases hb : m = 64
      · have hbb : ((m : Int) == 64) = true := by simp; omega
        go_wp2_with (go_at_call 64; refine (check1_any _ _ _ _).mono ?_; rintro e w' ⟨rfl, rfl⟩)
        go_round
        case rel =>
          refine ⟨k + 1, by omega, by go_num, fun j hj s hs => ?_⟩
          by_cases e : j = k
          · subst e; rw [Hx.out] at hs; cases hs; exact Hm.out.trans hb
          · exact Hall.out j (by omega) s hs
        case measure => simp [intOf]; omega
      · have hbb : ((m : Int) == 64) = false := by simp; omega
        go_wp2_with (go_at_call 64; refine (check1_any _ _ _ _).mono ?_; rintro e w' ⟨rfl, rfl⟩)
        go_ret
        refine ⟨_, rfl, rfl, ?_⟩
        have : (l.any fun s => s.length != 64) = true := by
          rw [List.any_eq_true]; exact ⟨_, List.mem_of_getElem? Hx.out, by rw [Hm.out]; simpa using hb⟩
        rw [this]; simp
    · go_wp2
      go_ret
      refine ⟨_, rfl, rfl, ?_⟩
      have : (l.any fun s => s.length != 64) = false := by
        rw [List.any_eq_false]
        intro s hs
        obtain ⟨j, hj⟩ := List.getElem?_of_mem hs
        have hjl : j < l.length := (List.getElem?_eq_some_iff.1 hj).1
        have := Hall.out j (by rw [Hn.out] at hjl; omega) s hj
        simp [this]
      rw [this]; rfl
set_option maxHeartbeats 400000 in
theorem has_rows (v : Value) (l : List (List UInt8)) (w : World) (h : RowsR w v l) (hn : l.length ≤ 100000) :
    Calls Try.prog 63 #[v, .func (.func 64) #[] #[]] w fun e w' => e = .returned (.bool (l.any fun s => s.length != 64)) ∧ w = w' := by
  go_enter Try.func63, Try.ntmps63
  go_wp2_with (go_at_call 84; refine (idx_rows _ _ _ h hn).mono ?_; rintro e w' ⟨i, rfl, rfl, hi⟩; have Hi := Lib.hid hi; clear hi)
  go_ret
  exact ⟨by rw [← Hi.out]; rfl, rfl⟩
end Go.Proofs.Ytomfladifefomaa
