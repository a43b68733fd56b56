/- A slice of bytes, cloned. Conditions: as each law states them. -/
import Derived.Test.YtohdfcnjcpjdcaaGreatDoorWAq
namespace Go.Proofs.YtohdfcnjcpjdcaaGreatDoor
open Go.RowKit
set_option linter.unusedSimpArgs false
def bytC (x : UInt8) : List Value := [enc8 x]
def bytRow (v : Value) (l : List UInt8) : Rw := ⟨v, 5, 1, l.length, l.flatMap bytC⟩
theorem bytC_one (l : List UInt8) : ∀ u ∈ l.flatMap bytC, u.oneCell' = true := by
 intro u hu
 obtain ⟨x, _, hu⟩ := List.mem_flatMap.1 hu
 simp only [bytC, List.mem_singleton] at hu
 rw [hu]; rfl
theorem bytC_flat (l : List UInt8) : l.flatMap bytC = l.map enc8 := by
 induction l with
 | nil => rfl
 | cons a r ih => simp [bytC, ih]
set_option maxRecDepth 100000 in
set_option maxHeartbeats 8000000 in
theorem cloneByte_does {l : List UInt8} {lv : Value} {G0 : GW} (hW : G0.Wf) (h : Sq ByteG 5 1 G0 lv l) (hn : l.length ≤ 2000000) :
  Calls Tryz.prog 16 #[lv] G0.w (RetH G0 ⟨[], []⟩ fun v _ R _ => ∃ A c, v = .slice A l.length c ∧ R = [bytRow (.slice A l.length c) l]) := by
 obtain ⟨A, c, rfl, hc1, hc2⟩ := Sq.form h
 have hml := max_le
 have hh : HandsOk G0.w ⟨[], []⟩ := ⟨fun b hb => (by cases hb), List.Pairwise.nil, fun r hr => (by cases hr), fun r hr => (by cases hr), List.Pairwise.nil⟩
 have hM : ∀ k, Hands.A ⟨[], []⟩ k → G0.M k := fun k hk => by rcases hk with ⟨b, hb, _⟩ | ⟨r, hr, _⟩ <;> contradiction
 refine enterH (n := 8) 3000 ([.c (.v (.slice A l.length c))]) ([]) rfl hW hh hM Tryz.func16 rfl Tryz.ntmps16 (by simp) ?_
 simp only [go_sem, simprocAttr]
 refine pk (nilcmp_does rfl tySlice33 rfl rfl (dk rfl) (fun w => by kernel_rfl)) ?_
 rintro _ rfl
 cases A with
 | none =>
  have hl : l = [] := by
   obtain ⟨css, he, A', c', e, q1, q2, q3, q4⟩ := h
   cases l with
   | nil => rfl
   | cons x l =>
    obtain ⟨g, o, _, _, e2, _⟩ := q4 (by simp)
    cases e
    cases e2
  subst hl
  simp only [go_sem, simprocAttr, Option.isNone]
  refine row_ok 5 1 ?_
  refine fin_retH (G := G0) Tryz.results16 ?_
  simp only [go_sem, simprocAttr]
  intro aa w' _ _
  exact ⟨none, 0, rfl, rfl⟩
 | some a =>
  simp only [go_sem, simprocAttr, Option.isNone]
  intro g
  refine pk (litRow_append_does (B1 := []) (news := l.flatMap bytC) rfl tySlice33 tyApp5 rfl rfl rfl rfl rfl rfl (dk rfl) (bytC_one l) (by unfold maxLen; omega) (by omega) (fun G hG => (sq_flat (fun _ _ _ q => q) (Sq.mono h byteG_mono (hG G0 (by simp)))).tsl)) ?_
  rintro _ ⟨A', c', rfl⟩
  simp only [go_sem, simprocAttr]
  refine fin_retH (G := G0) Tryz.results16 ?_
  simp only [go_sem, simprocAttr]
  intro aa w' _ _
  exact ⟨A', c', rfl, rfl⟩
end Go.Proofs.YtohdfcnjcpjdcaaGreatDoor
/- The writer of bytes: put. Conditions: as each law states them. -/
namespace Go.Proofs.YtohdfcnjcpjdcaaGreatDoor
open Go.RowKit
set_option linter.unusedSimpArgs false
theorem byteOf_enc (n : Int) : Value.int .u8 (HMod.hMod n 256) = enc8 (byteOf n) := by
 have h0 := Int.emod_nonneg n (b := 256) (by omega)
 have h1 := Int.emod_lt_of_pos n (b := 256) (by omega)
 have e2 : ((byteOf n).toNat : Int) = HMod.hMod n 256 := by
  unfold byteOf
  rw [UInt8.toNat_ofNat']
  omega
 unfold enc8
 rw [e2]
set_option maxRecDepth 100000 in
set_option maxHeartbeats 8000000 in
theorem put_does {g : Nat} {n : Int} {k : Nat} {wv : Value} {l : List UInt8} {G0 : GW} (hW : G0.Wf) (hh : HandsOk G0.w ⟨[⟨g, 62, [wv]⟩], [bytRow wv l]⟩) (hM : ∀ k, Hands.A ⟨[⟨g, 62, [wv]⟩], [bytRow wv l]⟩ k → G0.M k) (hk : k ≤ 4) (hl : l.length ≤ 8000000) :
  Calls Tryz.prog 14 #[.pointer (some ⟨g, 0, none⟩), .int .i64 n, .int .i64 (k : Int)] G0.w (RetH G0 ⟨[⟨g, 62, [wv]⟩], [bytRow wv l]⟩ fun _ css R G => ∃ wv', css = [[wv']] ∧ R = [bytRow wv' (l ++ numB n k)]) := by
 have hml := max_le
 refine enterH (n := 27) 3000 ([.c (.p 0 g 0), .c (.v (.int .i64 n)), .c (.v (.int .i64 (k : Int)))]) ([⟨0, g, 62, [.v wv]⟩]) rfl hW hh hM Tryz.func14 rfl Tryz.ntmps14 (by simp) ?_
 simp only [go_sem, simprocAttr]
 refine ⟨by omega, ?_⟩
 refine loop_ok (N := 3000) (ι := Nat × Value × List UInt8)
  (fun i => match i with | (r, v, a) => ⟨[(0, .c (.p 0 g 0)), (1, .c (.v (.int .i64 n))), (6, .c (.v (.int .i64 ((r : Int) - 1))))], [⟨0, g, 62, [.v v]⟩], [bytRow v a], [], [G0], 1⟩)
  (fun i => match i with | (r, _, a) => r ≤ k ∧ a ++ numB n r = l ++ numB n k ∧ a.length + r = l.length + k) (fun i => i.1) (QOk_body _ _ _) (k, wv, l) ⟨Nat.le_refl _, rfl, rfl⟩ (by simp only [go_sem, simprocAttr]; simp) ?_
 rintro ⟨r, v, a⟩ ⟨hr, ha, hla⟩
 simp only
 cases r with
 | zero =>
  have q1 : decide (0 ≤ ((0 : Nat) : Int) - 1) = false := decide_eq_false (by omega)
  have ha : a = l ++ numB n k := by rw [← ha]; simp [numB]
  simp only [go_sem, simprocAttr, q1]
  refine fin_retH (G := G0) Tryz.results14 ?_
  simp only [go_sem, simprocAttr]
  intro aa w' _ _
  exact ⟨_, rfl, by rw [ha]⟩
 | succ r =>
  have q1 : decide (0 ≤ ((r + 1 : Nat) : Int) - 1) = true := decide_eq_true (by omega)
  have e0 : ((r + 1 : Nat) : Int) - 1 = (r : Int) := by omega
  rw [e0] at q1 ⊢
  simp only [go_sem, simprocAttr, q1]
  refine draw_ok (N := 3000) ((.take 0 (.take 1 (.take 2 (.take 3 (.take 5 (.take 6 (.take 7 (.take 8 (.take 9 (.alt 4 (.alt 10 (.alt 11 (.take 12 (.take 13 (.alt 14 .done .last))) .last) .last) (.alt 10 (.alt 4 (.alt 11 (.take 12 (.take 13 (.alt 14 .done .last))) .last) .last) .last)))))))))))) [0] (QOk_body _ _ _) follows_mixed (by kernel_rfl) (by kernel_rfl) ?_
  simp only [go_sem, simprocAttr]
  refine ⟨by omega, ⟨by omega, by omega⟩, ?_, ?_⟩
  ·intro g2
   simp only [pow8, byteOf_enc]
   refine any_ok2 (N := 3000) (append_does (R1 := []) (R2 := []) (n := a.length) (v := v) (xs := a.flatMap bytC) (m := 1) (news := [enc8 (byteOf (n / 256 ^ r))]) rfl tySlice33 tyApp5 rfl rfl rfl rfl (dk rfl) (by intro u hu; rw [List.mem_singleton.1 hu]; rfl) (by unfold maxLen; omega) (by omega) (fun G hG => tsl_blk hG (b := ⟨1, g2, 5, [.v (enc8 (byteOf (n / 256 ^ r)))]⟩) (by simp) rfl (by unfold maxLen; omega))) (QOk_body _ _ _) rfl (by first | exact .inl rfl | exact .inr ⟨_, _, rfl, rfl⟩) (by intro _ hK; first | (obtain ⟨_, _, _, _, rfl⟩ := hK; exact ⟨rfl, fun _ h => h⟩) | (obtain ⟨_, _, rfl⟩ := hK; exact ⟨rfl, fun _ h => h⟩) | (obtain ⟨_, _, _, _, _, _, rfl⟩ := hK; exact ⟨rfl, fun _ h => List.mem_cons_of_mem _ h⟩) | (obtain ⟨_, _, _, _, _, _, _, rfl⟩ := hK; exact ⟨rfl, fun _ h => List.mem_cons_of_mem _ h⟩) | (obtain rfl := hK; exact ⟨rfl, fun _ h => h⟩)) ?_
   rintro _ ⟨A', c', rfl⟩
   simp only [go_sem, simprocAttr]
   refine ⟨by omega, ?_⟩
   have e3 : a.length + 1 = (a ++ [byteOf (n / 256 ^ r)]).length := by simp
   exact again_ok (r, .slice A' (a.length + 1) c', a ++ [byteOf (n / 256 ^ r)]) ⟨by omega, by rw [← ha, numB]; simp, by rw [← e3]; omega⟩ (by show r < r + 1; omega) (by simp only [go_sem, simprocAttr]; simp [bytRow, bytC])
  ·intro g2
   simp only [pow8, byteOf_enc]
   refine any_ok2 (N := 3000) (append_does (R1 := []) (R2 := []) (n := a.length) (v := v) (xs := a.flatMap bytC) (m := 1) (news := [enc8 (byteOf (n / 256 ^ r))]) rfl tySlice33 tyApp5 rfl rfl rfl rfl (dk rfl) (by intro u hu; rw [List.mem_singleton.1 hu]; rfl) (by unfold maxLen; omega) (by omega) (fun G hG => tsl_blk hG (b := ⟨1, g2, 5, [.v (enc8 (byteOf (n / 256 ^ r)))]⟩) (by simp) rfl (by unfold maxLen; omega))) (QOk_body _ _ _) rfl (by first | exact .inl rfl | exact .inr ⟨_, _, rfl, rfl⟩) (by intro _ hK; first | (obtain ⟨_, _, _, _, rfl⟩ := hK; exact ⟨rfl, fun _ h => h⟩) | (obtain ⟨_, _, rfl⟩ := hK; exact ⟨rfl, fun _ h => h⟩) | (obtain ⟨_, _, _, _, _, _, rfl⟩ := hK; exact ⟨rfl, fun _ h => List.mem_cons_of_mem _ h⟩) | (obtain ⟨_, _, _, _, _, _, _, rfl⟩ := hK; exact ⟨rfl, fun _ h => List.mem_cons_of_mem _ h⟩) | (obtain rfl := hK; exact ⟨rfl, fun _ h => h⟩)) ?_
   rintro _ ⟨A', c', rfl⟩
   simp only [go_sem, simprocAttr]
   refine ⟨by omega, ?_⟩
   have e3 : a.length + 1 = (a ++ [byteOf (n / 256 ^ r)]).length := by simp
   exact again_ok (r, .slice A' (a.length + 1) c', a ++ [byteOf (n / 256 ^ r)]) ⟨by omega, by rw [← ha, numB]; simp, by rw [← e3]; omega⟩ (by show r < r + 1; omega) (by simp only [go_sem, simprocAttr]; simp [bytRow, bytC])
end Go.Proofs.YtohdfcnjcpjdcaaGreatDoor
/- The writer of bytes: text, bit, ints. Conditions: as each law states them. -/
namespace Go.Proofs.YtohdfcnjcpjdcaaGreatDoor
open Go.RowKit
set_option linter.unusedSimpArgs false
/-- a text as bytes, its length ahead -/
def txB (t : ByteArray) : List UInt8 := numB (t.size : Int) 1 ++ t.data.toList
def btB (b : Bool) : List UInt8 := numB (if b then 1 else 0) 1
def itB (l : List Int) : List UInt8 := numB (l.length : Int) 1 ++ l.flatMap fun x => numB x 1
theorem txB_len (t : ByteArray) : (txB t).length = 1 + t.size := by rw [txB, List.length_append, numB_len, Array.length_toList]; rfl
theorem btB_len (b : Bool) : (btB b).length = 1 := numB_len _ _
theorem flatB_len : ∀ l : List Int, (l.flatMap fun x => numB x 1).length = l.length
 | [] => rfl
 | x :: l => by rw [List.flatMap_cons, List.length_append, numB_len, flatB_len l, List.length_cons]; omega
theorem itB_len (l : List Int) : (itB l).length = 1 + l.length := by rw [itB, List.length_append, numB_len, flatB_len]
theorem strC_byt (t : ByteArray) : Lib.strCells t = t.data.toList.flatMap bytC := by
 unfold Lib.strCells
 induction t.data.toList with
 | nil => rfl
 | cons a r ih => rw [List.map_cons, ih]; rfl
theorem bytRow_snoc (v : Value) (l : List UInt8) (t : ByteArray) : (⟨v, 5, 1, l.length + t.size, l.flatMap bytC ++ Lib.strCells t⟩ : Rw) = bytRow v (l ++ t.data.toList) := by
 rw [strC_byt, bytRow, List.length_append, List.flatMap_append, Array.length_toList]
 rfl
set_option maxRecDepth 100000 in
set_option maxHeartbeats 8000000 in
theorem wtext_does {g : Nat} {t : ByteArray} {wv : Value} {l : List UInt8} {G0 : GW} (hW : G0.Wf) (hh : HandsOk G0.w ⟨[⟨g, 62, [wv]⟩], [bytRow wv l]⟩) (hM : ∀ k, Hands.A ⟨[⟨g, 62, [wv]⟩], [bytRow wv l]⟩ k → G0.M k) (ht : t.size ≤ 1000) (hl : l.length ≤ 7900000) :
  Calls Tryz.prog 34 #[.pointer (some ⟨g, 0, none⟩), .string t] G0.w (RetH G0 ⟨[⟨g, 62, [wv]⟩], [bytRow wv l]⟩ fun _ css R G => ∃ wv', css = [[wv']] ∧ R = [bytRow wv' (l ++ txB t)]) := by
 have hml := max_le
 refine enterH (n := 17) 3000 ([.c (.p 0 g 0), .c (.v (.string t))]) ([⟨0, g, 62, [.v wv]⟩]) rfl hW hh hM Tryz.func34 rfl Tryz.ntmps34 (by simp) ?_
 simp only [go_sem, simprocAttr]
 refine pk (callH_does ([0]) ([]) ([bytRow wv l]) ([]) (fun _ css R G => ∃ wv', css = [[wv']] ∧ R = [bytRow wv' (l ++ numB (t.size : Int) 1)]) upV rfl rfl (by kernel_rfl) rfl (dk rfl) rfl rfl (by simp [ids, Diff]) (by simp) (fun G hG hh hM => put_does (n := (t.size : Int)) (k := 1) hG.wf hh hM (by omega) (by omega)) (fun v css R G _ _ => upV_den css)) ?_
 rintro _ ⟨_, css, _, G1, ⟨w1, rfl, rfl⟩, hcs, hle, rfl⟩
 clear hcs hle
 obtain ⟨l1, hl1⟩ : ∃ X, X = l ++ numB (t.size : Int) 1 := ⟨_, rfl⟩
 rw [← hl1]
 have hn1 : l1.length = l.length + (numB (t.size : Int) 1).length := by rw [hl1, List.length_append]
 rw [numB_len] at hn1
 simp only [go_sem, simprocAttr]
 refine pk (appendStr_does (R1 := []) (R2 := []) (n := l1.length) (v := w1) (xs := l1.flatMap bytC) (bs := t) rfl tySlice33 (by kernel_rfl) tyApp5 rfl rfl rfl (dk rfl) (by unfold maxLen; omega) (by omega)) ?_
 rintro _ ⟨A', c', rfl⟩
 simp only [go_sem, simprocAttr]
 refine fin_retH (G := G0) Tryz.results34 ?_
 simp only [go_sem, simprocAttr]
 intro aa w' _ _
 exact ⟨_, rfl, by rw [bytRow_snoc, hl1, List.append_assoc]; rfl⟩
set_option maxRecDepth 100000 in
set_option maxHeartbeats 8000000 in
theorem wbit_does {g : Nat} {b : Bool} {wv : Value} {l : List UInt8} {G0 : GW} (hW : G0.Wf) (hh : HandsOk G0.w ⟨[⟨g, 62, [wv]⟩], [bytRow wv l]⟩) (hM : ∀ k, Hands.A ⟨[⟨g, 62, [wv]⟩], [bytRow wv l]⟩ k → G0.M k) (hl : l.length ≤ 8000000) :
  Calls Tryz.prog 72 #[.pointer (some ⟨g, 0, none⟩), .bool b] G0.w (RetH G0 ⟨[⟨g, 62, [wv]⟩], [bytRow wv l]⟩ fun _ css R G => ∃ wv', css = [[wv']] ∧ R = [bytRow wv' (l ++ btB b)]) := by
 have hml := max_le
 refine enterH (n := 9) 3000 ([.c (.p 0 g 0), .c (.v (.bool b))]) ([⟨0, g, 62, [.v wv]⟩]) rfl hW hh hM Tryz.func72 rfl Tryz.ntmps72 (by simp) ?_
 cases b with
 | false =>
  simp only [go_sem, simprocAttr]
  refine pk (callH_does ([0]) ([]) ([bytRow wv l]) ([]) (fun _ css R G => ∃ wv', css = [[wv']] ∧ R = [bytRow wv' (l ++ numB 0 1)]) upV rfl rfl (by kernel_rfl) rfl (dk rfl) rfl rfl (by simp [ids, Diff]) (by simp) (fun G hG hh hM => put_does (n := 0) (k := 1) hG.wf hh hM (by omega) (by omega)) (fun v css R G _ _ => upV_den css)) ?_
  rintro _ ⟨_, css, _, G1, ⟨w1, rfl, rfl⟩, hcs, hle, rfl⟩
  clear hcs hle
  obtain ⟨l1, hl1⟩ : ∃ X, X = l ++ numB 0 1 := ⟨_, rfl⟩
  rw [← hl1]
  have hn1 : l1.length = l.length + (numB 0 1).length := by rw [hl1, List.length_append]
  simp only [go_sem, simprocAttr]
  refine fin_retH (G := G0) Tryz.results72 ?_
  simp only [go_sem, simprocAttr]
  intro aa w' _ _
  exact ⟨_, rfl, by rw [hl1]; rfl⟩
 | true =>
  simp only [go_sem, simprocAttr]
  refine pk (callH_does ([0]) ([]) ([bytRow wv l]) ([]) (fun _ css R G => ∃ wv', css = [[wv']] ∧ R = [bytRow wv' (l ++ numB 1 1)]) upV rfl rfl (by kernel_rfl) rfl (dk rfl) rfl rfl (by simp [ids, Diff]) (by simp) (fun G hG hh hM => put_does (n := 1) (k := 1) hG.wf hh hM (by omega) (by omega)) (fun v css R G _ _ => upV_den css)) ?_
  rintro _ ⟨_, css, _, G1, ⟨w1, rfl, rfl⟩, hcs, hle, rfl⟩
  clear hcs hle
  obtain ⟨l1, hl1⟩ : ∃ X, X = l ++ numB 1 1 := ⟨_, rfl⟩
  rw [← hl1]
  have hn1 : l1.length = l.length + (numB 1 1).length := by rw [hl1, List.length_append]
  simp only [go_sem, simprocAttr]
  refine fin_retH (G := G0) Tryz.results72 ?_
  simp only [go_sem, simprocAttr]
  intro aa w' _ _
  exact ⟨_, rfl, by rw [hl1]; rfl⟩
set_option maxRecDepth 100000 in
set_option maxHeartbeats 8000000 in
theorem wints_does {g : Nat} {lv : Value} {il : List Int} {wv : Value} {l : List UInt8} {G0 : GW} (hW : G0.Wf) (hh : HandsOk G0.w ⟨[⟨g, 62, [wv]⟩], [bytRow wv l]⟩) (hM : ∀ k, Hands.A ⟨[⟨g, 62, [wv]⟩], [bytRow wv l]⟩ k → G0.M k) (hi : IntsG G0 lv il) (hil : il.length ≤ 1000) (hl : l.length ≤ 7900000) :
  Calls Tryz.prog 39 #[.pointer (some ⟨g, 0, none⟩), lv] G0.w (RetH G0 ⟨[⟨g, 62, [wv]⟩], [bytRow wv l]⟩ fun _ css R G => ∃ wv', css = [[wv']] ∧ R = [bytRow wv' (l ++ itB il)]) := by
 obtain ⟨A, c, rfl, hc1, hc2⟩ := Sq.form hi
 have hml := max_le
 refine enterH (n := 20) 3000 ([.c (.p 0 g 0), .c (.v (.slice A il.length c))]) ([⟨0, g, 62, [.v wv]⟩]) rfl hW hh hM Tryz.func39 rfl Tryz.ntmps39 (by simp) ?_
 simp only [go_sem, simprocAttr]
 refine pk (callH_does ([0]) ([]) ([bytRow wv l]) ([]) (fun _ css R G => ∃ wv', css = [[wv']] ∧ R = [bytRow wv' (l ++ numB (il.length : Int) 1)]) upV rfl rfl (by kernel_rfl) rfl (dk rfl) rfl rfl (by simp [ids, Diff]) (by simp) (fun G hG hh hM => put_does (n := (il.length : Int)) (k := 1) hG.wf hh hM (by omega) (by omega)) (fun v css R G _ _ => upV_den css)) ?_
 rintro _ ⟨_, css, _, G1, ⟨w1, rfl, rfl⟩, hcs, hle, rfl⟩
 clear hcs hle
 obtain ⟨l1, hl1⟩ : ∃ X, X = l ++ numB (il.length : Int) 1 := ⟨_, rfl⟩
 rw [← hl1]
 have hn1 : l1.length = l.length + (numB (il.length : Int) 1).length := by rw [hl1, List.length_append]
 rw [numB_len] at hn1
 simp only [go_sem, simprocAttr]
 refine loop_ok (N := 3000) (ι := Nat × Value × List UInt8)
  (fun i => match i with | (i, v, a) => ⟨[(0, .c (.p 0 g 0)), (10, .c (.v (.slice A il.length c))), (11, .c (.v (.int .i64 (il.length : Int)))), (12, .c (.v (.int .i64 (i : Int))))], [⟨0, g, 62, [.v v]⟩], [bytRow v a], [], [G0], 1⟩)
  (fun i => match i with | (i, _, a) => i ≤ il.length ∧ a ++ (il.drop i).flatMap (fun x => numB x 1) = l ++ itB il ∧ a.length + (il.length - i) = l1.length + il.length) (fun i => il.length - i.1) (QOk_body _ _ _) (0, w1, l1) ⟨Nat.zero_le _, by rw [hl1, List.append_assoc]; rfl, rfl⟩ (by simp only [go_sem, simprocAttr]; simp) ?_
 rintro ⟨i, v, a⟩ ⟨hr, ha, hla⟩
 simp only
 by_cases hlt : i < il.length
 ·have q : decide ((i : Int) < (il.length : Int)) = true := decide_eq_true (by omega)
  obtain ⟨x, hx⟩ : ∃ x, il[i]? = some x := ⟨_, List.getElem?_eq_getElem hlt⟩
  have hdrop : il.drop i = x :: il.drop (i + 1) := by
   rw [List.drop_eq_getElem_cons hlt]
   congr 1
   rw [List.getElem?_eq_getElem hlt] at hx
   exact Option.some.inj hx
  simp only [go_sem, simprocAttr, q]
  refine pk (elem_does (R := IntG) (l := il) (m := i) rfl tySlice27 tySize3 rfl rfl (dk rfl) rfl hx (fun G hG => Sq.mono hi intG_mono (hG.le G0 (by simp)))) ?_
  rintro _ ⟨gw, ow, cs, G9, hcl, hcs, rfl⟩
  obtain rfl := hcs
  simp only [go_sem, simprocAttr]
  refine pk (callH_does ([0]) ([]) ([bytRow v a]) ([]) (fun _ css R G => ∃ wv', css = [[wv']] ∧ R = [bytRow wv' (a ++ numB x 1)]) upV rfl rfl (by kernel_rfl) rfl (dk rfl) rfl rfl (by simp [ids, Diff]) (by simp) (fun G hG hh hM => put_does (n := x) (k := 1) hG.wf hh hM (by omega) (by omega)) (fun v css R G _ _ => upV_den css)) ?_
  rintro _ ⟨_, css, _, G2, ⟨w2, rfl, rfl⟩, hcs, hle, rfl⟩
  clear hcs hle
  obtain ⟨l2, hl2⟩ : ∃ X, X = a ++ numB x 1 := ⟨_, rfl⟩
  rw [← hl2]
  have hn2 : l2.length = a.length + (numB x 1).length := by rw [hl2, List.length_append]
  rw [numB_len] at hn2
  simp only [go_sem, simprocAttr]
  refine ⟨by omega, ?_⟩
  exact again_ok (i + 1, w2, l2) ⟨hlt, by rw [hl2, List.append_assoc, ← ha, hdrop]; rfl, by show l2.length + (il.length - (i + 1)) = _; omega⟩ (by show il.length - (i + 1) < il.length - i; omega) (by simp only [go_sem, simprocAttr]; simp)
 ·have q : decide ((i : Int) < (il.length : Int)) = false := decide_eq_false (by omega)
  simp only [go_sem, simprocAttr, q]
  refine fin_retH (G := G0) Tryz.results39 ?_
  simp only [go_sem, simprocAttr]
  intro aa w' _ _
  exact ⟨_, rfl, by rw [← ha, List.drop_eq_nil_of_le (by omega)]; simp⟩
end Go.Proofs.YtohdfcnjcpjdcaaGreatDoor
/- The writer of bytes: rule, part, ask, version. Conditions: as each law states them. -/
namespace Go.Proofs.YtohdfcnjcpjdcaaGreatDoor
open Go.RowKit
set_option linter.unusedSimpArgs false
def ruB (x : Rul) : List UInt8 := txB x.pre ++ (numB (x.freeze + 1) 4 ++ (numB (x.drop + 1) 4))
def ptB (x : Prt) : List UInt8 := numB (x.n) 1 ++ (numB (x.size) 2 ++ (itB x.secs))
def akB (x : Ask) : List UInt8 := numB (x.ver) 3 ++ (numB (x.days) 2 ++ (numB (x.cls) 1))
def vrB (x : Ver) : List UInt8 := numB (x.id) 3 ++ (txB x.bucket ++ (txB x.key ++ (btB x.null ++ (btB x.marker ++ (numB (x.size) 2 ++ (numB (x.time) 4 ++ (numB (x.tier) 1 ++ (itB x.secs ++ (numB (x.vol) 1 ++ (numB (x.at_) 2 ++ (numB (x.till) 4)))))))))))
set_option maxRecDepth 100000 in
set_option maxHeartbeats 8000000 in
theorem wrule_does {g : Nat} {x : Rul} {wv : Value} {l : List UInt8} {G0 : GW} (hW : G0.Wf) (hh : HandsOk G0.w ⟨[⟨g, 62, [wv]⟩], [bytRow wv l]⟩) (hM : ∀ k, Hands.A ⟨[⟨g, 62, [wv]⟩], [bytRow wv l]⟩ k → G0.M k) (ht : x.pre.size ≤ 1000) (hf : -1 ≤ x.freeze ∧ x.freeze < 4294967296) (hd : -1 ≤ x.drop ∧ x.drop < 4294967296) (hl : l.length ≤ 7000000) :
  Calls Tryz.prog 35 #[.pointer (some ⟨g, 0, none⟩), .agg #[.string x.pre, .int .i64 x.freeze, .int .i64 x.drop]] G0.w (RetH G0 ⟨[⟨g, 62, [wv]⟩], [bytRow wv l]⟩ fun _ css R G => ∃ wv', css = [[wv']] ∧ R = [bytRow wv' (l ++ ruB x)]) := by
 have hml := max_le
 refine enterH (n := 18) 3000 ([.c (.p 0 g 0), .c (.v (.agg #[.string x.pre, .int .i64 x.freeze, .int .i64 x.drop]))]) ([⟨0, g, 62, [.v wv]⟩]) rfl hW hh hM Tryz.func35 rfl Tryz.ntmps35 (by simp) ?_
 simp only [go_sem, simprocAttr]
 intro gb
 refine pk (callH_does ([0]) ([]) ([bytRow wv l]) ([]) (fun _ css R G => ∃ wv', css = [[wv']] ∧ R = [bytRow wv' (l ++ txB x.pre)]) upV rfl rfl (by kernel_rfl) rfl (dk rfl) rfl rfl (by simp [ids, Diff]) (by simp) (fun G hG hh hM => wtext_does (t := x.pre) hG.wf hh hM (ht) (by omega)) (fun v css R G _ _ => upV_den css)) ?_
 rintro _ ⟨_, css, _, G1, ⟨w1, rfl, rfl⟩, hcs, hle, rfl⟩
 clear hcs hle
 obtain ⟨l1, hl1⟩ : ∃ X, X = l ++ txB x.pre := ⟨_, rfl⟩
 rw [← hl1]
 have hn1 : l1.length = l.length + (txB x.pre).length := by rw [hl1, List.length_append]
 rw [txB_len] at hn1
 simp only [go_sem, simprocAttr]
 refine ⟨by omega, ?_⟩
 refine pk (callH_does ([0]) ([]) ([bytRow w1 l1]) ([]) (fun _ css R G => ∃ wv', css = [[wv']] ∧ R = [bytRow wv' (l1 ++ numB (x.freeze + 1) 4)]) upV rfl rfl (by kernel_rfl) rfl (dk rfl) rfl rfl (by simp [ids, Diff]) (by simp) (fun G hG hh hM => put_does (n := x.freeze + 1) (k := 4) hG.wf hh hM (by omega) (by omega)) (fun v css R G _ _ => upV_den css)) ?_
 rintro _ ⟨_, css, _, G2, ⟨w2, rfl, rfl⟩, hcs, hle, rfl⟩
 clear hcs hle
 obtain ⟨l2, hl2⟩ : ∃ X, X = l1 ++ numB (x.freeze + 1) 4 := ⟨_, rfl⟩
 rw [← hl2]
 have hn2 : l2.length = l1.length + (numB (x.freeze + 1) 4).length := by rw [hl2, List.length_append]
 rw [numB_len] at hn2
 simp only [go_sem, simprocAttr]
 refine ⟨by omega, ?_⟩
 refine pk (callH_does ([0]) ([]) ([bytRow w2 l2]) ([]) (fun _ css R G => ∃ wv', css = [[wv']] ∧ R = [bytRow wv' (l2 ++ numB (x.drop + 1) 4)]) upV rfl rfl (by kernel_rfl) rfl (dk rfl) rfl rfl (by simp [ids, Diff]) (by simp) (fun G hG hh hM => put_does (n := x.drop + 1) (k := 4) hG.wf hh hM (by omega) (by omega)) (fun v css R G _ _ => upV_den css)) ?_
 rintro _ ⟨_, css, _, G3, ⟨w3, rfl, rfl⟩, hcs, hle, rfl⟩
 clear hcs hle
 obtain ⟨l3, hl3⟩ : ∃ X, X = l2 ++ numB (x.drop + 1) 4 := ⟨_, rfl⟩
 rw [← hl3]
 have hn3 : l3.length = l2.length + (numB (x.drop + 1) 4).length := by rw [hl3, List.length_append]
 rw [numB_len] at hn3
 simp only [go_sem, simprocAttr]
 refine fin_retH (G := G0) Tryz.results35 ?_
 simp only [go_sem, simprocAttr]
 intro aa w' _ _
 exact ⟨_, rfl, by rw [hl3, hl2, hl1]; simp only [List.append_assoc]; rfl⟩
set_option maxRecDepth 100000 in
set_option maxHeartbeats 8000000 in
theorem wpart_does {g : Nat} {x : Prt} {sv : Value} {wv : Value} {l : List UInt8} {G0 : GW} (hW : G0.Wf) (hh : HandsOk G0.w ⟨[⟨g, 62, [wv]⟩], [bytRow wv l]⟩) (hM : ∀ k, Hands.A ⟨[⟨g, 62, [wv]⟩], [bytRow wv l]⟩ k → G0.M k) (hi : IntsG G0 sv x.secs) (hs : x.secs.length ≤ 1000) (hl : l.length ≤ 7000000) :
  Calls Tryz.prog 38 #[.pointer (some ⟨g, 0, none⟩), .agg #[.int .i64 x.n, .int .i64 x.size, sv]] G0.w (RetH G0 ⟨[⟨g, 62, [wv]⟩], [bytRow wv l]⟩ fun _ css R G => ∃ wv', css = [[wv']] ∧ R = [bytRow wv' (l ++ ptB x)]) := by
 obtain ⟨A, c, rfl, hc1, hc2⟩ := Sq.form hi
 have hml := max_le
 refine enterH (n := 16) 3000 ([.c (.p 0 g 0), .c (.v (.agg #[.int .i64 x.n, .int .i64 x.size, .slice A x.secs.length c]))]) ([⟨0, g, 62, [.v wv]⟩]) rfl hW hh hM Tryz.func38 rfl Tryz.ntmps38 (by simp) ?_
 simp only [go_sem, simprocAttr]
 intro gb
 refine pk (callH_does ([0]) ([]) ([bytRow wv l]) ([]) (fun _ css R G => ∃ wv', css = [[wv']] ∧ R = [bytRow wv' (l ++ numB (x.n) 1)]) upV rfl rfl (by kernel_rfl) rfl (dk rfl) rfl rfl (by simp [ids, Diff]) (by simp) (fun G hG hh hM => put_does (n := x.n) (k := 1) hG.wf hh hM (by omega) (by omega)) (fun v css R G _ _ => upV_den css)) ?_
 rintro _ ⟨_, css, _, G1, ⟨w1, rfl, rfl⟩, hcs, hle, rfl⟩
 clear hcs hle
 obtain ⟨l1, hl1⟩ : ∃ X, X = l ++ numB (x.n) 1 := ⟨_, rfl⟩
 rw [← hl1]
 have hn1 : l1.length = l.length + (numB (x.n) 1).length := by rw [hl1, List.length_append]
 rw [numB_len] at hn1
 simp only [go_sem, simprocAttr]
 refine pk (callH_does ([0]) ([]) ([bytRow w1 l1]) ([]) (fun _ css R G => ∃ wv', css = [[wv']] ∧ R = [bytRow wv' (l1 ++ numB (x.size) 2)]) upV rfl rfl (by kernel_rfl) rfl (dk rfl) rfl rfl (by simp [ids, Diff]) (by simp) (fun G hG hh hM => put_does (n := x.size) (k := 2) hG.wf hh hM (by omega) (by omega)) (fun v css R G _ _ => upV_den css)) ?_
 rintro _ ⟨_, css, _, G2, ⟨w2, rfl, rfl⟩, hcs, hle, rfl⟩
 clear hcs hle
 obtain ⟨l2, hl2⟩ : ∃ X, X = l1 ++ numB (x.size) 2 := ⟨_, rfl⟩
 rw [← hl2]
 have hn2 : l2.length = l1.length + (numB (x.size) 2).length := by rw [hl2, List.length_append]
 rw [numB_len] at hn2
 simp only [go_sem, simprocAttr]
 refine pk (callH_does ([0]) ([]) ([bytRow w2 l2]) ([]) (fun _ css R G => ∃ wv', css = [[wv']] ∧ R = [bytRow wv' (l2 ++ itB x.secs)]) upV rfl rfl (by kernel_rfl) rfl (dk rfl) rfl rfl (by simp [ids, Diff]) (by simp) (fun G hG hh hM => wints_does (il := x.secs) hG.wf hh hM (hi.mono (hG.le G0 (by simp))) (hs) (by omega)) (fun v css R G _ _ => upV_den css)) ?_
 rintro _ ⟨_, css, _, G3, ⟨w3, rfl, rfl⟩, hcs, hle, rfl⟩
 clear hcs hle
 obtain ⟨l3, hl3⟩ : ∃ X, X = l2 ++ itB x.secs := ⟨_, rfl⟩
 rw [← hl3]
 have hn3 : l3.length = l2.length + (itB x.secs).length := by rw [hl3, List.length_append]
 rw [itB_len] at hn3
 simp only [go_sem, simprocAttr]
 refine fin_retH (G := G0) Tryz.results38 ?_
 simp only [go_sem, simprocAttr]
 intro aa w' _ _
 exact ⟨_, rfl, by rw [hl3, hl2, hl1]; simp only [List.append_assoc]; rfl⟩
set_option maxRecDepth 100000 in
set_option maxHeartbeats 8000000 in
theorem wask_does {g : Nat} {x : Ask} {wv : Value} {l : List UInt8} {G0 : GW} (hW : G0.Wf) (hh : HandsOk G0.w ⟨[⟨g, 62, [wv]⟩], [bytRow wv l]⟩) (hM : ∀ k, Hands.A ⟨[⟨g, 62, [wv]⟩], [bytRow wv l]⟩ k → G0.M k) (hl : l.length ≤ 7000000) :
  Calls Tryz.prog 37 #[.pointer (some ⟨g, 0, none⟩), .agg #[.int .i64 x.ver, .int .i64 x.days, .int .i64 x.cls]] G0.w (RetH G0 ⟨[⟨g, 62, [wv]⟩], [bytRow wv l]⟩ fun _ css R G => ∃ wv', css = [[wv']] ∧ R = [bytRow wv' (l ++ akB x)]) := by
 have hml := max_le
 refine enterH (n := 16) 3000 ([.c (.p 0 g 0), .c (.v (.agg #[.int .i64 x.ver, .int .i64 x.days, .int .i64 x.cls]))]) ([⟨0, g, 62, [.v wv]⟩]) rfl hW hh hM Tryz.func37 rfl Tryz.ntmps37 (by simp) ?_
 simp only [go_sem, simprocAttr]
 intro gb
 refine pk (callH_does ([0]) ([]) ([bytRow wv l]) ([]) (fun _ css R G => ∃ wv', css = [[wv']] ∧ R = [bytRow wv' (l ++ numB (x.ver) 3)]) upV rfl rfl (by kernel_rfl) rfl (dk rfl) rfl rfl (by simp [ids, Diff]) (by simp) (fun G hG hh hM => put_does (n := x.ver) (k := 3) hG.wf hh hM (by omega) (by omega)) (fun v css R G _ _ => upV_den css)) ?_
 rintro _ ⟨_, css, _, G1, ⟨w1, rfl, rfl⟩, hcs, hle, rfl⟩
 clear hcs hle
 obtain ⟨l1, hl1⟩ : ∃ X, X = l ++ numB (x.ver) 3 := ⟨_, rfl⟩
 rw [← hl1]
 have hn1 : l1.length = l.length + (numB (x.ver) 3).length := by rw [hl1, List.length_append]
 rw [numB_len] at hn1
 simp only [go_sem, simprocAttr]
 refine pk (callH_does ([0]) ([]) ([bytRow w1 l1]) ([]) (fun _ css R G => ∃ wv', css = [[wv']] ∧ R = [bytRow wv' (l1 ++ numB (x.days) 2)]) upV rfl rfl (by kernel_rfl) rfl (dk rfl) rfl rfl (by simp [ids, Diff]) (by simp) (fun G hG hh hM => put_does (n := x.days) (k := 2) hG.wf hh hM (by omega) (by omega)) (fun v css R G _ _ => upV_den css)) ?_
 rintro _ ⟨_, css, _, G2, ⟨w2, rfl, rfl⟩, hcs, hle, rfl⟩
 clear hcs hle
 obtain ⟨l2, hl2⟩ : ∃ X, X = l1 ++ numB (x.days) 2 := ⟨_, rfl⟩
 rw [← hl2]
 have hn2 : l2.length = l1.length + (numB (x.days) 2).length := by rw [hl2, List.length_append]
 rw [numB_len] at hn2
 simp only [go_sem, simprocAttr]
 refine pk (callH_does ([0]) ([]) ([bytRow w2 l2]) ([]) (fun _ css R G => ∃ wv', css = [[wv']] ∧ R = [bytRow wv' (l2 ++ numB (x.cls) 1)]) upV rfl rfl (by kernel_rfl) rfl (dk rfl) rfl rfl (by simp [ids, Diff]) (by simp) (fun G hG hh hM => put_does (n := x.cls) (k := 1) hG.wf hh hM (by omega) (by omega)) (fun v css R G _ _ => upV_den css)) ?_
 rintro _ ⟨_, css, _, G3, ⟨w3, rfl, rfl⟩, hcs, hle, rfl⟩
 clear hcs hle
 obtain ⟨l3, hl3⟩ : ∃ X, X = l2 ++ numB (x.cls) 1 := ⟨_, rfl⟩
 rw [← hl3]
 have hn3 : l3.length = l2.length + (numB (x.cls) 1).length := by rw [hl3, List.length_append]
 rw [numB_len] at hn3
 simp only [go_sem, simprocAttr]
 refine fin_retH (G := G0) Tryz.results37 ?_
 simp only [go_sem, simprocAttr]
 intro aa w' _ _
 exact ⟨_, rfl, by rw [hl3, hl2, hl1]; simp only [List.append_assoc]; rfl⟩
set_option maxRecDepth 100000 in
set_option maxHeartbeats 8000000 in
theorem wversion_does {g : Nat} {x : Ver} {sv : Value} {wv : Value} {l : List UInt8} {G0 : GW} (hW : G0.Wf) (hh : HandsOk G0.w ⟨[⟨g, 62, [wv]⟩], [bytRow wv l]⟩) (hM : ∀ k, Hands.A ⟨[⟨g, 62, [wv]⟩], [bytRow wv l]⟩ k → G0.M k) (hi : IntsG G0 sv x.secs) (hs : x.secs.length ≤ 1000) (hb : x.bucket.size ≤ 1000) (hk : x.key.size ≤ 1000) (hl : l.length ≤ 7000000) :
  Calls Tryz.prog 36 #[.pointer (some ⟨g, 0, none⟩), .agg (verV x sv).toArray] G0.w (RetH G0 ⟨[⟨g, 62, [wv]⟩], [bytRow wv l]⟩ fun _ css R G => ∃ wv', css = [[wv']] ∧ R = [bytRow wv' (l ++ vrB x)]) := by
 obtain ⟨A, c, rfl, hc1, hc2⟩ := Sq.form hi
 have hml := max_le
 refine enterH (n := 52) 3000 ([.c (.p 0 g 0), .c (.v (.agg (verV x (.slice A x.secs.length c)).toArray))]) ([⟨0, g, 62, [.v wv]⟩]) rfl hW hh hM Tryz.func36 rfl Tryz.ntmps36 (by simp) ?_
 simp only [go_sem, simprocAttr, verV]
 intro gb
 refine pk (callH_does ([0]) ([]) ([bytRow wv l]) ([]) (fun _ css R G => ∃ wv', css = [[wv']] ∧ R = [bytRow wv' (l ++ numB (x.id) 3)]) upV rfl rfl (by kernel_rfl) rfl (dk rfl) rfl rfl (by simp [ids, Diff]) (by simp) (fun G hG hh hM => put_does (n := x.id) (k := 3) hG.wf hh hM (by omega) (by omega)) (fun v css R G _ _ => upV_den css)) ?_
 rintro _ ⟨_, css, _, G1, ⟨w1, rfl, rfl⟩, hcs, hle, rfl⟩
 clear hcs hle
 obtain ⟨l1, hl1⟩ : ∃ X, X = l ++ numB (x.id) 3 := ⟨_, rfl⟩
 rw [← hl1]
 have hn1 : l1.length = l.length + (numB (x.id) 3).length := by rw [hl1, List.length_append]
 rw [numB_len] at hn1
 simp only [go_sem, simprocAttr]
 refine pk (callH_does ([0]) ([]) ([bytRow w1 l1]) ([]) (fun _ css R G => ∃ wv', css = [[wv']] ∧ R = [bytRow wv' (l1 ++ txB x.bucket)]) upV rfl rfl (by kernel_rfl) rfl (dk rfl) rfl rfl (by simp [ids, Diff]) (by simp) (fun G hG hh hM => wtext_does (t := x.bucket) hG.wf hh hM (hb) (by omega)) (fun v css R G _ _ => upV_den css)) ?_
 rintro _ ⟨_, css, _, G2, ⟨w2, rfl, rfl⟩, hcs, hle, rfl⟩
 clear hcs hle
 obtain ⟨l2, hl2⟩ : ∃ X, X = l1 ++ txB x.bucket := ⟨_, rfl⟩
 rw [← hl2]
 have hn2 : l2.length = l1.length + (txB x.bucket).length := by rw [hl2, List.length_append]
 rw [txB_len] at hn2
 simp only [go_sem, simprocAttr]
 refine pk (callH_does ([0]) ([]) ([bytRow w2 l2]) ([]) (fun _ css R G => ∃ wv', css = [[wv']] ∧ R = [bytRow wv' (l2 ++ txB x.key)]) upV rfl rfl (by kernel_rfl) rfl (dk rfl) rfl rfl (by simp [ids, Diff]) (by simp) (fun G hG hh hM => wtext_does (t := x.key) hG.wf hh hM (hk) (by omega)) (fun v css R G _ _ => upV_den css)) ?_
 rintro _ ⟨_, css, _, G3, ⟨w3, rfl, rfl⟩, hcs, hle, rfl⟩
 clear hcs hle
 obtain ⟨l3, hl3⟩ : ∃ X, X = l2 ++ txB x.key := ⟨_, rfl⟩
 rw [← hl3]
 have hn3 : l3.length = l2.length + (txB x.key).length := by rw [hl3, List.length_append]
 rw [txB_len] at hn3
 simp only [go_sem, simprocAttr]
 refine pk (callH_does ([0]) ([]) ([bytRow w3 l3]) ([]) (fun _ css R G => ∃ wv', css = [[wv']] ∧ R = [bytRow wv' (l3 ++ btB x.null)]) upV rfl rfl (by kernel_rfl) rfl (dk rfl) rfl rfl (by simp [ids, Diff]) (by simp) (fun G hG hh hM => wbit_does (b := x.null) hG.wf hh hM (by omega)) (fun v css R G _ _ => upV_den css)) ?_
 rintro _ ⟨_, css, _, G4, ⟨w4, rfl, rfl⟩, hcs, hle, rfl⟩
 clear hcs hle
 obtain ⟨l4, hl4⟩ : ∃ X, X = l3 ++ btB x.null := ⟨_, rfl⟩
 rw [← hl4]
 have hn4 : l4.length = l3.length + (btB x.null).length := by rw [hl4, List.length_append]
 rw [btB_len] at hn4
 simp only [go_sem, simprocAttr]
 refine pk (callH_does ([0]) ([]) ([bytRow w4 l4]) ([]) (fun _ css R G => ∃ wv', css = [[wv']] ∧ R = [bytRow wv' (l4 ++ btB x.marker)]) upV rfl rfl (by kernel_rfl) rfl (dk rfl) rfl rfl (by simp [ids, Diff]) (by simp) (fun G hG hh hM => wbit_does (b := x.marker) hG.wf hh hM (by omega)) (fun v css R G _ _ => upV_den css)) ?_
 rintro _ ⟨_, css, _, G5, ⟨w5, rfl, rfl⟩, hcs, hle, rfl⟩
 clear hcs hle
 obtain ⟨l5, hl5⟩ : ∃ X, X = l4 ++ btB x.marker := ⟨_, rfl⟩
 rw [← hl5]
 have hn5 : l5.length = l4.length + (btB x.marker).length := by rw [hl5, List.length_append]
 rw [btB_len] at hn5
 simp only [go_sem, simprocAttr]
 refine pk (callH_does ([0]) ([]) ([bytRow w5 l5]) ([]) (fun _ css R G => ∃ wv', css = [[wv']] ∧ R = [bytRow wv' (l5 ++ numB (x.size) 2)]) upV rfl rfl (by kernel_rfl) rfl (dk rfl) rfl rfl (by simp [ids, Diff]) (by simp) (fun G hG hh hM => put_does (n := x.size) (k := 2) hG.wf hh hM (by omega) (by omega)) (fun v css R G _ _ => upV_den css)) ?_
 rintro _ ⟨_, css, _, G6, ⟨w6, rfl, rfl⟩, hcs, hle, rfl⟩
 clear hcs hle
 obtain ⟨l6, hl6⟩ : ∃ X, X = l5 ++ numB (x.size) 2 := ⟨_, rfl⟩
 rw [← hl6]
 have hn6 : l6.length = l5.length + (numB (x.size) 2).length := by rw [hl6, List.length_append]
 rw [numB_len] at hn6
 simp only [go_sem, simprocAttr]
 refine pk (callH_does ([0]) ([]) ([bytRow w6 l6]) ([]) (fun _ css R G => ∃ wv', css = [[wv']] ∧ R = [bytRow wv' (l6 ++ numB (x.time) 4)]) upV rfl rfl (by kernel_rfl) rfl (dk rfl) rfl rfl (by simp [ids, Diff]) (by simp) (fun G hG hh hM => put_does (n := x.time) (k := 4) hG.wf hh hM (by omega) (by omega)) (fun v css R G _ _ => upV_den css)) ?_
 rintro _ ⟨_, css, _, G7, ⟨w7, rfl, rfl⟩, hcs, hle, rfl⟩
 clear hcs hle
 obtain ⟨l7, hl7⟩ : ∃ X, X = l6 ++ numB (x.time) 4 := ⟨_, rfl⟩
 rw [← hl7]
 have hn7 : l7.length = l6.length + (numB (x.time) 4).length := by rw [hl7, List.length_append]
 rw [numB_len] at hn7
 simp only [go_sem, simprocAttr]
 refine pk (callH_does ([0]) ([]) ([bytRow w7 l7]) ([]) (fun _ css R G => ∃ wv', css = [[wv']] ∧ R = [bytRow wv' (l7 ++ numB (x.tier) 1)]) upV rfl rfl (by kernel_rfl) rfl (dk rfl) rfl rfl (by simp [ids, Diff]) (by simp) (fun G hG hh hM => put_does (n := x.tier) (k := 1) hG.wf hh hM (by omega) (by omega)) (fun v css R G _ _ => upV_den css)) ?_
 rintro _ ⟨_, css, _, G8, ⟨w8, rfl, rfl⟩, hcs, hle, rfl⟩
 clear hcs hle
 obtain ⟨l8, hl8⟩ : ∃ X, X = l7 ++ numB (x.tier) 1 := ⟨_, rfl⟩
 rw [← hl8]
 have hn8 : l8.length = l7.length + (numB (x.tier) 1).length := by rw [hl8, List.length_append]
 rw [numB_len] at hn8
 simp only [go_sem, simprocAttr]
 refine pk (callH_does ([0]) ([]) ([bytRow w8 l8]) ([]) (fun _ css R G => ∃ wv', css = [[wv']] ∧ R = [bytRow wv' (l8 ++ itB x.secs)]) upV rfl rfl (by kernel_rfl) rfl (dk rfl) rfl rfl (by simp [ids, Diff]) (by simp) (fun G hG hh hM => wints_does (il := x.secs) hG.wf hh hM (hi.mono (hG.le G0 (by simp))) (hs) (by omega)) (fun v css R G _ _ => upV_den css)) ?_
 rintro _ ⟨_, css, _, G9, ⟨w9, rfl, rfl⟩, hcs, hle, rfl⟩
 clear hcs hle
 obtain ⟨l9, hl9⟩ : ∃ X, X = l8 ++ itB x.secs := ⟨_, rfl⟩
 rw [← hl9]
 have hn9 : l9.length = l8.length + (itB x.secs).length := by rw [hl9, List.length_append]
 rw [itB_len] at hn9
 simp only [go_sem, simprocAttr]
 refine pk (callH_does ([0]) ([]) ([bytRow w9 l9]) ([]) (fun _ css R G => ∃ wv', css = [[wv']] ∧ R = [bytRow wv' (l9 ++ numB (x.vol) 1)]) upV rfl rfl (by kernel_rfl) rfl (dk rfl) rfl rfl (by simp [ids, Diff]) (by simp) (fun G hG hh hM => put_does (n := x.vol) (k := 1) hG.wf hh hM (by omega) (by omega)) (fun v css R G _ _ => upV_den css)) ?_
 rintro _ ⟨_, css, _, G10, ⟨w10, rfl, rfl⟩, hcs, hle, rfl⟩
 clear hcs hle
 obtain ⟨l10, hl10⟩ : ∃ X, X = l9 ++ numB (x.vol) 1 := ⟨_, rfl⟩
 rw [← hl10]
 have hn10 : l10.length = l9.length + (numB (x.vol) 1).length := by rw [hl10, List.length_append]
 rw [numB_len] at hn10
 simp only [go_sem, simprocAttr]
 refine pk (callH_does ([0]) ([]) ([bytRow w10 l10]) ([]) (fun _ css R G => ∃ wv', css = [[wv']] ∧ R = [bytRow wv' (l10 ++ numB (x.at_) 2)]) upV rfl rfl (by kernel_rfl) rfl (dk rfl) rfl rfl (by simp [ids, Diff]) (by simp) (fun G hG hh hM => put_does (n := x.at_) (k := 2) hG.wf hh hM (by omega) (by omega)) (fun v css R G _ _ => upV_den css)) ?_
 rintro _ ⟨_, css, _, G11, ⟨w11, rfl, rfl⟩, hcs, hle, rfl⟩
 clear hcs hle
 obtain ⟨l11, hl11⟩ : ∃ X, X = l10 ++ numB (x.at_) 2 := ⟨_, rfl⟩
 rw [← hl11]
 have hn11 : l11.length = l10.length + (numB (x.at_) 2).length := by rw [hl11, List.length_append]
 rw [numB_len] at hn11
 simp only [go_sem, simprocAttr]
 refine pk (callH_does ([0]) ([]) ([bytRow w11 l11]) ([]) (fun _ css R G => ∃ wv', css = [[wv']] ∧ R = [bytRow wv' (l11 ++ numB (x.till) 4)]) upV rfl rfl (by kernel_rfl) rfl (dk rfl) rfl rfl (by simp [ids, Diff]) (by simp) (fun G hG hh hM => put_does (n := x.till) (k := 4) hG.wf hh hM (by omega) (by omega)) (fun v css R G _ _ => upV_den css)) ?_
 rintro _ ⟨_, css, _, G12, ⟨w12, rfl, rfl⟩, hcs, hle, rfl⟩
 clear hcs hle
 obtain ⟨l12, hl12⟩ : ∃ X, X = l11 ++ numB (x.till) 4 := ⟨_, rfl⟩
 rw [← hl12]
 have hn12 : l12.length = l11.length + (numB (x.till) 4).length := by rw [hl12, List.length_append]
 rw [numB_len] at hn12
 simp only [go_sem, simprocAttr]
 refine fin_retH (G := G0) Tryz.results36 ?_
 simp only [go_sem, simprocAttr]
 intro aa w' _ _
 exact ⟨_, rfl, by rw [hl12, hl11, hl10, hl9, hl8, hl7, hl6, hl5, hl4, hl3, hl2, hl1]; simp only [List.append_assoc]; rfl⟩
end Go.Proofs.YtohdfcnjcpjdcaaGreatDoor
