/- A slice of bytes, cloned. Conditions: as each law states them. -/
import Derived.Test.YtohdfcnjcpjdcaaDoorW3q
namespace Go.Proofs.YtohdfcnjcpjdcaaDoor
open Go.RowKit
set_option linter.unusedSimpArgs false
def bytC (x : UInt8) : List Value := [enc8 x]
def bytRow (v : Value) (l : List UInt8) : Rw := ⟨v, 5, 1, l.length, l.flatMap bytC⟩
theorem bytC_one (l : List UInt8) : ∀ u ∈ l.flatMap bytC, u.oneCell' = true := by
  intro u hu
  obtain ⟨x, _, hu⟩ := List.mem_flatMap.1 hu
  simp only [bytC, List.mem_singleton] at hu
  rw [hu]; rfl
theorem bytC_flat (l : List UInt8) : l.flatMap bytC = l.map enc8 := by
  induction l with
  | nil => rfl
  | cons a r ih => simp [bytC, ih]
set_option maxRecDepth 100000 in
set_option maxHeartbeats 8000000 in
theorem cloneByte_does {l : List UInt8} {lv : Value} {G0 : GW} (hW : G0.Wf) (h : Sq ByteG 5 1 G0 lv l) (hn : l.length ≤ 2000000) :
    Calls Tryd.prog 14 #[lv] G0.w (RetH G0 ⟨[], []⟩ fun v _ R _ => ∃ A c, v = .slice A l.length c ∧ R = [bytRow (.slice A l.length c) l]) := by
  obtain ⟨A, c, rfl, hc1, hc2⟩ := Sq.form h
  have hml := max_le
  have hh : HandsOk G0.w ⟨[], []⟩ := ⟨fun b hb => (by cases hb), List.Pairwise.nil, fun r hr => (by cases hr), fun r hr => (by cases hr), List.Pairwise.nil⟩
  have hM : ∀ k, Hands.A ⟨[], []⟩ k → G0.M k := fun k hk => by rcases hk with ⟨b, hb, _⟩ | ⟨r, hr, _⟩ <;> contradiction
  refine enterH (n := 8) 3000 ([.c (.v (.slice A l.length c))]) ([]) rfl hW hh hM Tryd.func14 rfl Tryd.ntmps14 (by simp) ?_
  simp only [go_sem, simprocAttr]
  refine plain_ok (N := 3000) (nilcmp_does rfl tySlice37 rfl rfl (dk rfl) (fun w => by kernel_rfl)) (QOk_body _ _ _) (by first | exact .inl rfl | exact .inr ⟨_, _, rfl, rfl⟩) ?_
  rintro _ rfl
  cases A with
  | none =>
    have hl : l = [] := by
      obtain ⟨css, he, A', c', e, q1, q2, q3, q4⟩ := h
      cases l with
      | nil => rfl
      | cons x l =>
        obtain ⟨g, o, _, _, e2, _⟩ := q4 (by simp)
        cases e
        cases e2
    subst hl
    simp only [go_sem, simprocAttr, Option.isNone]
    refine row_ok 5 1 ?_
    refine fin_retH (G := G0) Tryd.results14 ?_
    simp only [go_sem, simprocAttr]
    intro aa w' _ _
    exact ⟨none, 0, rfl, rfl⟩
  | some a =>
    simp only [go_sem, simprocAttr, Option.isNone]
    intro g
    refine plain_ok (N := 3000) (litRow_append_does (B1 := []) (news := l.flatMap bytC) rfl tySlice37 tyApp5 rfl rfl rfl rfl rfl rfl (dk rfl) (bytC_one l) (by unfold maxLen; omega) (by omega) (fun G hG => (sq_flat (fun _ _ _ q => q) (Sq.mono h byteG_mono (hG G0 (by simp)))).tsl)) (QOk_body _ _ _) (by first | exact .inl rfl | exact .inr ⟨_, _, rfl, rfl⟩) ?_
    rintro _ ⟨A', c', rfl⟩
    simp only [go_sem, simprocAttr]
    refine fin_retH (G := G0) Tryd.results14 ?_
    simp only [go_sem, simprocAttr]
    intro aa w' _ _
    exact ⟨A', c', rfl, rfl⟩
end Go.Proofs.YtohdfcnjcpjdcaaDoor
