/- The writer of bytes: text, bit, ints. Conditions: as each law states them. -/
import Derived.Test.YtohdfcnjcpjdcaaDoorW8q
import Derived.Test.YtohdfcnjcpjdcaaDoorP13q
namespace Go.Proofs.YtohdfcnjcpjdcaaDoor
open Go.RowKit
set_option linter.unusedSimpArgs false
/-- a text as bytes, its length ahead -/
def txB (t : ByteArray) : List UInt8 := numB (t.size : Int) 1 ++ t.data.toList
def btB (b : Bool) : List UInt8 := numB (if b then 1 else 0) 1
def itB (l : List Int) : List UInt8 := numB (l.length : Int) 1 ++ l.flatMap fun x => numB x 1
theorem txB_len (t : ByteArray) : (txB t).length = 1 + t.size := by rw [txB, List.length_append, numB_len, Array.length_toList]; rfl
theorem btB_len (b : Bool) : (btB b).length = 1 := numB_len _ _
theorem flatB_len : ∀ l : List Int, (l.flatMap fun x => numB x 1).length = l.length
  | [] => rfl
  | x :: l => by rw [List.flatMap_cons, List.length_append, numB_len, flatB_len l, List.length_cons]; omega
theorem itB_len (l : List Int) : (itB l).length = 1 + l.length := by rw [itB, List.length_append, numB_len, flatB_len]
theorem strC_byt (t : ByteArray) : Lib.strCells t = t.data.toList.flatMap bytC := by
  unfold Lib.strCells
  induction t.data.toList with
  | nil => rfl
  | cons a r ih => rw [List.map_cons, ih]; rfl
theorem bytRow_snoc (v : Value) (l : List UInt8) (t : ByteArray) : (⟨v, 5, 1, l.length + t.size, l.flatMap bytC ++ Lib.strCells t⟩ : Rw) = bytRow v (l ++ t.data.toList) := by
  rw [strC_byt, bytRow, List.length_append, List.flatMap_append, Array.length_toList]
  rfl
set_option maxRecDepth 100000 in
set_option maxHeartbeats 8000000 in
theorem wtext_does {g : Nat} {t : ByteArray} {wv : Value} {l : List UInt8} {G0 : GW} (hW : G0.Wf) (hh : HandsOk G0.w ⟨[⟨g, 47, [wv]⟩], [bytRow wv l]⟩) (hM : ∀ k, Hands.A ⟨[⟨g, 47, [wv]⟩], [bytRow wv l]⟩ k → G0.M k) (ht : t.size ≤ 1000) (hl : l.length ≤ 7900000) :
    Calls Tryd.prog 18 #[.pointer (some ⟨g, 0, none⟩), .string t] G0.w (RetH G0 ⟨[⟨g, 47, [wv]⟩], [bytRow wv l]⟩ fun _ css R G => ∃ wv', css = [[wv']] ∧ R = [bytRow wv' (l ++ txB t)]) := by
  have hml := max_le
  refine enterH (n := 17) 3000 ([.c (.p 0 g 0), .c (.v (.string t))]) ([⟨0, g, 47, [.v wv]⟩]) rfl hW hh hM Tryd.func18 rfl Tryd.ntmps18 (by simp) ?_
  simp only [go_sem, simprocAttr]
  refine plain_ok (N := 3000) (callH_does ([0]) ([]) ([bytRow wv l]) ([]) (fun _ css R G => ∃ wv', css = [[wv']] ∧ R = [bytRow wv' (l ++ numB (t.size : Int) 1)]) upV rfl rfl (by kernel_rfl) rfl (dk rfl) rfl rfl (by simp [ids, Diff]) (by simp) (fun G hG hh hM => put_does (n := (t.size : Int)) (k := 1) hG.wf hh hM (by omega) (by omega)) (fun v css R G _ _ => upV_den css)) (QOk_body _ _ _) (by first | exact .inl rfl | exact .inr ⟨_, _, rfl, rfl⟩) ?_
  rintro _ ⟨_, css, _, G1, ⟨w1, rfl, rfl⟩, hcs, hle, rfl⟩
  clear hcs hle
  obtain ⟨l1, hl1⟩ : ∃ X, X = l ++ numB (t.size : Int) 1 := ⟨_, rfl⟩
  rw [← hl1]
  have hn1 : l1.length = l.length + (numB (t.size : Int) 1).length := by rw [hl1, List.length_append]
  rw [numB_len] at hn1
  simp only [go_sem, simprocAttr]
  refine plain_ok (N := 3000) (appendStr_does (R1 := []) (R2 := []) (n := l1.length) (v := w1) (xs := l1.flatMap bytC) (bs := t) rfl tySlice37 (by kernel_rfl) tyApp5 rfl rfl rfl (dk rfl) (by unfold maxLen; omega) (by omega)) (QOk_body _ _ _) (by first | exact .inl rfl | exact .inr ⟨_, _, rfl, rfl⟩) ?_
  rintro _ ⟨A', c', rfl⟩
  simp only [go_sem, simprocAttr]
  refine fin_retH (G := G0) Tryd.results18 ?_
  simp only [go_sem, simprocAttr]
  intro aa w' _ _
  exact ⟨_, rfl, by rw [bytRow_snoc, hl1, List.append_assoc]; rfl⟩
set_option maxRecDepth 100000 in
set_option maxHeartbeats 8000000 in
theorem wbit_does {g : Nat} {b : Bool} {wv : Value} {l : List UInt8} {G0 : GW} (hW : G0.Wf) (hh : HandsOk G0.w ⟨[⟨g, 47, [wv]⟩], [bytRow wv l]⟩) (hM : ∀ k, Hands.A ⟨[⟨g, 47, [wv]⟩], [bytRow wv l]⟩ k → G0.M k) (hl : l.length ≤ 8000000) :
    Calls Tryd.prog 36 #[.pointer (some ⟨g, 0, none⟩), .bool b] G0.w (RetH G0 ⟨[⟨g, 47, [wv]⟩], [bytRow wv l]⟩ fun _ css R G => ∃ wv', css = [[wv']] ∧ R = [bytRow wv' (l ++ btB b)]) := by
  have hml := max_le
  refine enterH (n := 9) 3000 ([.c (.p 0 g 0), .c (.v (.bool b))]) ([⟨0, g, 47, [.v wv]⟩]) rfl hW hh hM Tryd.func36 rfl Tryd.ntmps36 (by simp) ?_
  cases b with
  | false =>
    simp only [go_sem, simprocAttr]
    refine plain_ok (N := 3000) (callH_does ([0]) ([]) ([bytRow wv l]) ([]) (fun _ css R G => ∃ wv', css = [[wv']] ∧ R = [bytRow wv' (l ++ numB 0 1)]) upV rfl rfl (by kernel_rfl) rfl (dk rfl) rfl rfl (by simp [ids, Diff]) (by simp) (fun G hG hh hM => put_does (n := 0) (k := 1) hG.wf hh hM (by omega) (by omega)) (fun v css R G _ _ => upV_den css)) (QOk_body _ _ _) (by first | exact .inl rfl | exact .inr ⟨_, _, rfl, rfl⟩) ?_
    rintro _ ⟨_, css, _, G1, ⟨w1, rfl, rfl⟩, hcs, hle, rfl⟩
    clear hcs hle
    obtain ⟨l1, hl1⟩ : ∃ X, X = l ++ numB 0 1 := ⟨_, rfl⟩
    rw [← hl1]
    have hn1 : l1.length = l.length + (numB 0 1).length := by rw [hl1, List.length_append]
    simp only [go_sem, simprocAttr]
    refine fin_retH (G := G0) Tryd.results36 ?_
    simp only [go_sem, simprocAttr]
    intro aa w' _ _
    exact ⟨_, rfl, by rw [hl1]; rfl⟩
  | true =>
    simp only [go_sem, simprocAttr]
    refine plain_ok (N := 3000) (callH_does ([0]) ([]) ([bytRow wv l]) ([]) (fun _ css R G => ∃ wv', css = [[wv']] ∧ R = [bytRow wv' (l ++ numB 1 1)]) upV rfl rfl (by kernel_rfl) rfl (dk rfl) rfl rfl (by simp [ids, Diff]) (by simp) (fun G hG hh hM => put_does (n := 1) (k := 1) hG.wf hh hM (by omega) (by omega)) (fun v css R G _ _ => upV_den css)) (QOk_body _ _ _) (by first | exact .inl rfl | exact .inr ⟨_, _, rfl, rfl⟩) ?_
    rintro _ ⟨_, css, _, G1, ⟨w1, rfl, rfl⟩, hcs, hle, rfl⟩
    clear hcs hle
    obtain ⟨l1, hl1⟩ : ∃ X, X = l ++ numB 1 1 := ⟨_, rfl⟩
    rw [← hl1]
    have hn1 : l1.length = l.length + (numB 1 1).length := by rw [hl1, List.length_append]
    simp only [go_sem, simprocAttr]
    refine fin_retH (G := G0) Tryd.results36 ?_
    simp only [go_sem, simprocAttr]
    intro aa w' _ _
    exact ⟨_, rfl, by rw [hl1]; rfl⟩
set_option maxRecDepth 100000 in
set_option maxHeartbeats 8000000 in
theorem wints_does {g : Nat} {lv : Value} {il : List Int} {wv : Value} {l : List UInt8} {G0 : GW} (hW : G0.Wf) (hh : HandsOk G0.w ⟨[⟨g, 47, [wv]⟩], [bytRow wv l]⟩) (hM : ∀ k, Hands.A ⟨[⟨g, 47, [wv]⟩], [bytRow wv l]⟩ k → G0.M k) (hi : IntsG G0 lv il) (hil : il.length ≤ 1000) (hl : l.length ≤ 7900000) :
    Calls Tryd.prog 23 #[.pointer (some ⟨g, 0, none⟩), lv] G0.w (RetH G0 ⟨[⟨g, 47, [wv]⟩], [bytRow wv l]⟩ fun _ css R G => ∃ wv', css = [[wv']] ∧ R = [bytRow wv' (l ++ itB il)]) := by
  obtain ⟨A, c, rfl, hc1, hc2⟩ := Sq.form hi
  have hml := max_le
  refine enterH (n := 20) 3000 ([.c (.p 0 g 0), .c (.v (.slice A il.length c))]) ([⟨0, g, 47, [.v wv]⟩]) rfl hW hh hM Tryd.func23 rfl Tryd.ntmps23 (by simp) ?_
  simp only [go_sem, simprocAttr]
  refine plain_ok (N := 3000) (callH_does ([0]) ([]) ([bytRow wv l]) ([]) (fun _ css R G => ∃ wv', css = [[wv']] ∧ R = [bytRow wv' (l ++ numB (il.length : Int) 1)]) upV rfl rfl (by kernel_rfl) rfl (dk rfl) rfl rfl (by simp [ids, Diff]) (by simp) (fun G hG hh hM => put_does (n := (il.length : Int)) (k := 1) hG.wf hh hM (by omega) (by omega)) (fun v css R G _ _ => upV_den css)) (QOk_body _ _ _) (by first | exact .inl rfl | exact .inr ⟨_, _, rfl, rfl⟩) ?_
  rintro _ ⟨_, css, _, G1, ⟨w1, rfl, rfl⟩, hcs, hle, rfl⟩
  clear hcs hle
  obtain ⟨l1, hl1⟩ : ∃ X, X = l ++ numB (il.length : Int) 1 := ⟨_, rfl⟩
  rw [← hl1]
  have hn1 : l1.length = l.length + (numB (il.length : Int) 1).length := by rw [hl1, List.length_append]
  rw [numB_len] at hn1
  simp only [go_sem, simprocAttr]
  refine loop_ok (N := 3000) (ι := Nat × Value × List UInt8)
    (fun i => match i with | (i, v, a) => ⟨[(0, .c (.p 0 g 0)), (10, .c (.v (.slice A il.length c))), (11, .c (.v (.int .i64 (il.length : Int)))), (12, .c (.v (.int .i64 (i : Int))))], [⟨0, g, 47, [.v v]⟩], [bytRow v a], [], [G0], 1⟩)
    (fun i => match i with | (i, _, a) => i ≤ il.length ∧ a ++ (il.drop i).flatMap (fun x => numB x 1) = l ++ itB il ∧ a.length + (il.length - i) = l1.length + il.length) (fun i => il.length - i.1) (QOk_body _ _ _) (0, w1, l1) ⟨Nat.zero_le _, by rw [hl1, List.append_assoc]; rfl, rfl⟩ (by simp only [go_sem, simprocAttr]; simp) ?_
  rintro ⟨i, v, a⟩ ⟨hr, ha, hla⟩
  simp only
  by_cases hlt : i < il.length
  · have q : decide ((i : Int) < (il.length : Int)) = true := decide_eq_true (by omega)
    obtain ⟨x, hx⟩ : ∃ x, il[i]? = some x := ⟨_, List.getElem?_eq_getElem hlt⟩
    have hdrop : il.drop i = x :: il.drop (i + 1) := by
      rw [List.drop_eq_getElem_cons hlt]
      congr 1
      rw [List.getElem?_eq_getElem hlt] at hx
      exact Option.some.inj hx
    simp only [go_sem, simprocAttr, q]
    refine plain_ok (N := 3000) (elem_does (R := IntG) (l := il) (m := i) rfl tySlice25 tySize3 rfl rfl (dk rfl) rfl hx (fun G hG => Sq.mono hi intG_mono (hG.le G0 (by simp)))) (QOk_body _ _ _) (by first | exact .inl rfl | exact .inr ⟨_, _, rfl, rfl⟩) ?_
    rintro _ ⟨gw, ow, cs, G9, hcl, hcs, rfl⟩
    obtain rfl := hcs
    simp only [go_sem, simprocAttr]
    refine plain_ok (N := 3000) (callH_does ([0]) ([]) ([bytRow v a]) ([]) (fun _ css R G => ∃ wv', css = [[wv']] ∧ R = [bytRow wv' (a ++ numB x 1)]) upV rfl rfl (by kernel_rfl) rfl (dk rfl) rfl rfl (by simp [ids, Diff]) (by simp) (fun G hG hh hM => put_does (n := x) (k := 1) hG.wf hh hM (by omega) (by omega)) (fun v css R G _ _ => upV_den css)) (QOk_body _ _ _) (by first | exact .inl rfl | exact .inr ⟨_, _, rfl, rfl⟩) ?_
    rintro _ ⟨_, css, _, G2, ⟨w2, rfl, rfl⟩, hcs, hle, rfl⟩
    clear hcs hle
    obtain ⟨l2, hl2⟩ : ∃ X, X = a ++ numB x 1 := ⟨_, rfl⟩
    rw [← hl2]
    have hn2 : l2.length = a.length + (numB x 1).length := by rw [hl2, List.length_append]
    rw [numB_len] at hn2
    simp only [go_sem, simprocAttr]
    refine ⟨by omega, ?_⟩
    exact again_ok (i + 1, w2, l2) ⟨hlt, by rw [hl2, List.append_assoc, ← ha, hdrop]; rfl, by show l2.length + (il.length - (i + 1)) = _; omega⟩ (by show il.length - (i + 1) < il.length - i; omega) (by simp only [go_sem, simprocAttr]; simp)
  · have q : decide ((i : Int) < (il.length : Int)) = false := decide_eq_false (by omega)
    simp only [go_sem, simprocAttr, q]
    refine fin_retH (G := G0) Tryd.results23 ?_
    simp only [go_sem, simprocAttr]
    intro aa w' _ _
    exact ⟨_, rfl, by rw [← ha, List.drop_eq_nil_of_le (by omega)]; simp⟩
end Go.Proofs.YtohdfcnjcpjdcaaDoor
