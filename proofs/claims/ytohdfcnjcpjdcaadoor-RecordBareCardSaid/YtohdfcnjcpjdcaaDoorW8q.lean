/- The writer of bytes: put. Conditions: as each law states them. -/
import Derived.Test.YtohdfcnjcpjdcaaDoorW7q
namespace Go.Proofs.YtohdfcnjcpjdcaaDoor
open Go.RowKit
set_option linter.unusedSimpArgs false
theorem byteOf_enc (n : Int) : Value.int .u8 (HMod.hMod n 256) = enc8 (byteOf n) := by
  have h0 := Int.emod_nonneg n (b := 256) (by omega)
  have h1 := Int.emod_lt_of_pos n (b := 256) (by omega)
  have e2 : ((byteOf n).toNat : Int) = HMod.hMod n 256 := by
    unfold byteOf
    rw [UInt8.toNat_ofNat']
    omega
  unfold enc8
  rw [e2]
set_option maxRecDepth 100000 in
set_option maxHeartbeats 8000000 in
theorem put_does {g : Nat} {n : Int} {k : Nat} {wv : Value} {l : List UInt8} {G0 : GW} (hW : G0.Wf) (hh : HandsOk G0.w ⟨[⟨g, 47, [wv]⟩], [bytRow wv l]⟩) (hM : ∀ k, Hands.A ⟨[⟨g, 47, [wv]⟩], [bytRow wv l]⟩ k → G0.M k) (hk : k ≤ 4) (hl : l.length ≤ 8000000) :
    Calls Tryd.prog 9 #[.pointer (some ⟨g, 0, none⟩), .int .i64 n, .int .i64 (k : Int)] G0.w (RetH G0 ⟨[⟨g, 47, [wv]⟩], [bytRow wv l]⟩ fun _ css R G => ∃ wv', css = [[wv']] ∧ R = [bytRow wv' (l ++ numB n k)]) := by
  have hml := max_le
  refine enterH (n := 27) 3000 ([.c (.p 0 g 0), .c (.v (.int .i64 n)), .c (.v (.int .i64 (k : Int)))]) ([⟨0, g, 47, [.v wv]⟩]) rfl hW hh hM Tryd.func9 rfl Tryd.ntmps9 (by simp) ?_
  simp only [go_sem, simprocAttr]
  refine ⟨by omega, ?_⟩
  refine loop_ok (N := 3000) (ι := Nat × Value × List UInt8)
    (fun i => match i with | (r, v, a) => ⟨[(0, .c (.p 0 g 0)), (1, .c (.v (.int .i64 n))), (6, .c (.v (.int .i64 ((r : Int) - 1))))], [⟨0, g, 47, [.v v]⟩], [bytRow v a], [], [G0], 1⟩)
    (fun i => match i with | (r, _, a) => r ≤ k ∧ a ++ numB n r = l ++ numB n k ∧ a.length + r = l.length + k) (fun i => i.1) (QOk_body _ _ _) (k, wv, l) ⟨Nat.le_refl _, rfl, rfl⟩ (by simp only [go_sem, simprocAttr]; simp) ?_
  rintro ⟨r, v, a⟩ ⟨hr, ha, hla⟩
  simp only
  cases r with
  | zero =>
    have q1 : decide (0 ≤ ((0 : Nat) : Int) - 1) = false := decide_eq_false (by omega)
    have ha : a = l ++ numB n k := by rw [← ha]; simp [numB]
    simp only [go_sem, simprocAttr, q1]
    refine fin_retH (G := G0) Tryd.results9 ?_
    simp only [go_sem, simprocAttr]
    intro aa w' _ _
    exact ⟨_, rfl, by rw [ha]⟩
  | succ r =>
    have q1 : decide (0 ≤ ((r + 1 : Nat) : Int) - 1) = true := decide_eq_true (by omega)
    have e0 : ((r + 1 : Nat) : Int) - 1 = (r : Int) := by omega
    rw [e0] at q1 ⊢
    simp only [go_sem, simprocAttr, q1]
    refine draw_ok (N := 3000) ((.take 0 (.take 1 (.take 2 (.take 3 (.take 5 (.take 6 (.take 7 (.take 8 (.take 9 (.alt 4 (.alt 10 (.alt 11 (.take 12 (.take 13 (.alt 14 .done .last))) .last) .last) (.alt 10 (.alt 4 (.alt 11 (.take 12 (.take 13 (.alt 14 .done .last))) .last) .last) .last)))))))))))) [0] (QOk_body _ _ _) follows_mixed (by kernel_rfl) (by kernel_rfl) ?_
    simp only [go_sem, simprocAttr]
    refine ⟨by omega, ⟨by omega, by omega⟩, ?_, ?_⟩
    · intro g2
      simp only [pow8, byteOf_enc]
      refine any_ok2 (N := 3000) (append_does (R1 := []) (R2 := []) (n := a.length) (v := v) (xs := a.flatMap bytC) (m := 1) (news := [enc8 (byteOf (n / 256 ^ r))]) rfl tySlice37 tyApp5 rfl rfl rfl rfl (dk rfl) (by intro u hu; rw [List.mem_singleton.1 hu]; rfl) (by unfold maxLen; omega) (by omega) (fun G hG => tsl_blk hG (b := ⟨1, g2, 5, [.v (enc8 (byteOf (n / 256 ^ r)))]⟩) (by simp) rfl (by unfold maxLen; omega))) (QOk_body _ _ _) rfl (by first | exact .inl rfl | exact .inr ⟨_, _, rfl, rfl⟩) (by intro _ hK; first | (obtain ⟨_, _, _, _, rfl⟩ := hK; exact ⟨rfl, fun _ h => h⟩) | (obtain ⟨_, _, rfl⟩ := hK; exact ⟨rfl, fun _ h => h⟩) | (obtain ⟨_, _, _, _, _, _, rfl⟩ := hK; exact ⟨rfl, fun _ h => List.mem_cons_of_mem _ h⟩) | (obtain ⟨_, _, _, _, _, _, _, rfl⟩ := hK; exact ⟨rfl, fun _ h => List.mem_cons_of_mem _ h⟩) | (obtain rfl := hK; exact ⟨rfl, fun _ h => h⟩)) ?_
      rintro _ ⟨A', c', rfl⟩
      simp only [go_sem, simprocAttr]
      refine ⟨by omega, ?_⟩
      have e3 : a.length + 1 = (a ++ [byteOf (n / 256 ^ r)]).length := by simp
      exact again_ok (r, .slice A' (a.length + 1) c', a ++ [byteOf (n / 256 ^ r)]) ⟨by omega, by rw [← ha, numB]; simp, by rw [← e3]; omega⟩ (by show r < r + 1; omega) (by simp only [go_sem, simprocAttr]; simp [bytRow, bytC])
    · intro g2
      simp only [pow8, byteOf_enc]
      refine any_ok2 (N := 3000) (append_does (R1 := []) (R2 := []) (n := a.length) (v := v) (xs := a.flatMap bytC) (m := 1) (news := [enc8 (byteOf (n / 256 ^ r))]) rfl tySlice37 tyApp5 rfl rfl rfl rfl (dk rfl) (by intro u hu; rw [List.mem_singleton.1 hu]; rfl) (by unfold maxLen; omega) (by omega) (fun G hG => tsl_blk hG (b := ⟨1, g2, 5, [.v (enc8 (byteOf (n / 256 ^ r)))]⟩) (by simp) rfl (by unfold maxLen; omega))) (QOk_body _ _ _) rfl (by first | exact .inl rfl | exact .inr ⟨_, _, rfl, rfl⟩) (by intro _ hK; first | (obtain ⟨_, _, _, _, rfl⟩ := hK; exact ⟨rfl, fun _ h => h⟩) | (obtain ⟨_, _, rfl⟩ := hK; exact ⟨rfl, fun _ h => h⟩) | (obtain ⟨_, _, _, _, _, _, rfl⟩ := hK; exact ⟨rfl, fun _ h => List.mem_cons_of_mem _ h⟩) | (obtain ⟨_, _, _, _, _, _, _, rfl⟩ := hK; exact ⟨rfl, fun _ h => List.mem_cons_of_mem _ h⟩) | (obtain rfl := hK; exact ⟨rfl, fun _ h => h⟩)) ?_
      rintro _ ⟨A', c', rfl⟩
      simp only [go_sem, simprocAttr]
      refine ⟨by omega, ?_⟩
      have e3 : a.length + 1 = (a ++ [byteOf (n / 256 ^ r)]).length := by simp
      exact again_ok (r, .slice A' (a.length + 1) c', a ++ [byteOf (n / 256 ^ r)]) ⟨by omega, by rw [← ha, numB]; simp, by rw [← e3]; omega⟩ (by show r < r + 1; omega) (by simp only [go_sem, simprocAttr]; simp [bytRow, bytC])
end Go.Proofs.YtohdfcnjcpjdcaaDoor
