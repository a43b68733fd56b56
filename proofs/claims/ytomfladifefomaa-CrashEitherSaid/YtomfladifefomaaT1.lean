import Derived.Test.YtomfladifefomaaRows
import Derived.Test.YtomfladifefomaaMem
import Derived.Deep.RegionHeld3
namespace Go.Proofs.Ytomfladifefomaa
open Go.RowKit
theorem infoU8 : (Try.prog.info? 5).map (fun i => (i.zero, i.size, i.bytes)) = some (some (.int .u8 0), 1, 1) := by kernel_rfl
/-- bytes in memory -/
def BytesR (w : World) (v : Value) (bs : List UInt8) : Prop := TSl w 5 1 bs.length v (bs.map enc8)

set_option maxRecDepth 100000 in
set_option maxHeartbeats 400000 in
theorem clone_nil (c : Nat) (w : World) : Calls Try.prog 61 #[.slice none 0 c] w fun e w' => e = .returned (.slice none 0 0) ∧ w = w' := by
  have hnil := fun (w : World) (a : Option Addr) (n c n' c' : Nat) => Lib.run_eql_slice_nil (P := Try.prog) w 23 5 a n c n' c' Try.underlying23
  go_enter Try.func61, Try.ntmps61
  go_wp2
  go_ret
  exact ⟨rfl, rfl⟩
set_option maxRecDepth 100000 in
set_option maxHeartbeats 400000 in
theorem clone_some (a : Addr) (n c : Nat) (xs : List Value) (w : World) (h : TSl w 5 1 n (.slice (some a) n c) xs) (h1 : ∀ u ∈ xs, u.oneCell' = true) (hn : n ≤ 1000000000) :
    Calls Try.prog 61 #[.slice (some a) n c] w fun e w' => ∃ v', e = .returned v' ∧ w'.ownsRow w.heap.size 5 1 v' n xs ∧ Below w.heap.size w w' := by
  obtain ⟨i0, hi, hz0, hz1, hz2⟩ := info_parts infoU8
  have hl : xs.length = n * 1 := by obtain ⟨_, _, _, _, _, h3, _⟩ := h; exact h3
  have hnews := h.news
  have hlt : 0 < n → a.block < w.heap.size := by
    intro h0; obtain ⟨g, o, e, hg, _⟩ := h.at_ h0; cases e; exact hg
  have hnews' : ∀ j u, xs[j]? = some u → (w.alloc (.cells #[] 5)).cell? (a.add j) = some u := by
    intro j u hu
    by_cases h0 : 0 < n
    · rw [World.cell?_alloc_lt w _ _ (by have := hlt h0; rw [show (a.add j).block = a.block by unfold Addr.add; split <;> rfl]; exact this)]; exact hnews j u hu
    · have : xs = [] := List.eq_nil_of_length_eq_zero (by rw [hl]; omega)
      subst this; simp at hu
  have H := Lib.hid hnews'
  clear hnews' hnews hlt h
  have H1 := Lib.hid hl
  have H2 := Lib.hid h1
  clear hl h1
  have hnil := fun (w : World) (a : Option Addr) (n c n' c' : Nat) => Lib.run_eql_slice_nil (P := Try.prog) w 23 5 a n c n' c' Try.underlying23
  go_enter Try.func61, Try.ntmps61
  go_wp2_with (at_builtin; refine wpList_append_own _ rfl (.tmp 5) (.tmp 6) _ rfl w.heap.size 5 i0 _ 1 1 Try.underlying23 hi hz0 hz1 hz2 rfl (by omega) (.slice (some ⟨w.heap.size, 0, none⟩) 0 0) 0 [] rfl (World.ownsRow_made w #[] 0 (Nat.le_refl _) (by omega) rfl) a n c xs rfl H1.out H.out H2.out (by unfold maxLen; omega) (by omega) (by simp) ?_; intro v' w1 hown hg _; clear hi hz0 hz1 hz2)
  go_ret
  refine ⟨v', rfl, by simpa using hown, ?_⟩
  exact (below_al (Below.refl _ _) _).grown hg (by simp) (by simp [Value.ownBlock])
end Go.Proofs.Ytomfladifefomaa
