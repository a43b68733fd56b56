/- The writer of bytes: rule, part, ask, version. Conditions: as each law states them. -/
import Derived.Test.YtohdfcnjcpjdcaaDoorW9q
namespace Go.Proofs.YtohdfcnjcpjdcaaDoor
open Go.RowKit
set_option linter.unusedSimpArgs false
def ruB (x : Rul) : List UInt8 := txB x.pre ++ (numB (x.freeze + 1) 4 ++ (numB (x.drop + 1) 4))
def ptB (x : Prt) : List UInt8 := numB (x.n) 1 ++ (numB (x.size) 2 ++ (itB x.secs))
def akB (x : Ask) : List UInt8 := numB (x.ver) 3 ++ (numB (x.days) 2 ++ (numB (x.cls) 1))
def vrB (x : Ver) : List UInt8 := numB (x.id) 3 ++ (txB x.bucket ++ (txB x.key ++ (btB x.null ++ (btB x.marker ++ (numB (x.size) 2 ++ (numB (x.time) 4 ++ (numB (x.tier) 1 ++ (itB x.secs ++ (numB (x.vol) 1 ++ (numB (x.at_) 2 ++ (numB (x.till) 4)))))))))))
set_option maxRecDepth 100000 in
set_option maxHeartbeats 8000000 in
theorem wrule_does {g : Nat} {x : Rul} {wv : Value} {l : List UInt8} {G0 : GW} (hW : G0.Wf) (hh : HandsOk G0.w ⟨[⟨g, 47, [wv]⟩], [bytRow wv l]⟩) (hM : ∀ k, Hands.A ⟨[⟨g, 47, [wv]⟩], [bytRow wv l]⟩ k → G0.M k) (ht : x.pre.size ≤ 1000) (hf : -1 ≤ x.freeze ∧ x.freeze < 4294967296) (hd : -1 ≤ x.drop ∧ x.drop < 4294967296) (hl : l.length ≤ 7000000) :
    Calls Tryd.prog 19 #[.pointer (some ⟨g, 0, none⟩), .agg #[.string x.pre, .int .i64 x.freeze, .int .i64 x.drop]] G0.w (RetH G0 ⟨[⟨g, 47, [wv]⟩], [bytRow wv l]⟩ fun _ css R G => ∃ wv', css = [[wv']] ∧ R = [bytRow wv' (l ++ ruB x)]) := by
  have hml := max_le
  refine enterH (n := 18) 3000 ([.c (.p 0 g 0), .c (.v (.agg #[.string x.pre, .int .i64 x.freeze, .int .i64 x.drop]))]) ([⟨0, g, 47, [.v wv]⟩]) rfl hW hh hM Tryd.func19 rfl Tryd.ntmps19 (by simp) ?_
  simp only [go_sem, simprocAttr]
  intro gb
  refine plain_ok (N := 3000) (callH_does ([0]) ([]) ([bytRow wv l]) ([]) (fun _ css R G => ∃ wv', css = [[wv']] ∧ R = [bytRow wv' (l ++ txB x.pre)]) upV rfl rfl (by kernel_rfl) rfl (dk rfl) rfl rfl (by simp [ids, Diff]) (by simp) (fun G hG hh hM => wtext_does (t := x.pre) hG.wf hh hM (ht) (by omega)) (fun v css R G _ _ => upV_den css)) (QOk_body _ _ _) (by first | exact .inl rfl | exact .inr ⟨_, _, rfl, rfl⟩) ?_
  rintro _ ⟨_, css, _, G1, ⟨w1, rfl, rfl⟩, hcs, hle, rfl⟩
  clear hcs hle
  obtain ⟨l1, hl1⟩ : ∃ X, X = l ++ txB x.pre := ⟨_, rfl⟩
  rw [← hl1]
  have hn1 : l1.length = l.length + (txB x.pre).length := by rw [hl1, List.length_append]
  rw [txB_len] at hn1
  simp only [go_sem, simprocAttr]
  refine ⟨by omega, ?_⟩
  refine plain_ok (N := 3000) (callH_does ([0]) ([]) ([bytRow w1 l1]) ([]) (fun _ css R G => ∃ wv', css = [[wv']] ∧ R = [bytRow wv' (l1 ++ numB (x.freeze + 1) 4)]) upV rfl rfl (by kernel_rfl) rfl (dk rfl) rfl rfl (by simp [ids, Diff]) (by simp) (fun G hG hh hM => put_does (n := x.freeze + 1) (k := 4) hG.wf hh hM (by omega) (by omega)) (fun v css R G _ _ => upV_den css)) (QOk_body _ _ _) (by first | exact .inl rfl | exact .inr ⟨_, _, rfl, rfl⟩) ?_
  rintro _ ⟨_, css, _, G2, ⟨w2, rfl, rfl⟩, hcs, hle, rfl⟩
  clear hcs hle
  obtain ⟨l2, hl2⟩ : ∃ X, X = l1 ++ numB (x.freeze + 1) 4 := ⟨_, rfl⟩
  rw [← hl2]
  have hn2 : l2.length = l1.length + (numB (x.freeze + 1) 4).length := by rw [hl2, List.length_append]
  rw [numB_len] at hn2
  simp only [go_sem, simprocAttr]
  refine ⟨by omega, ?_⟩
  refine plain_ok (N := 3000) (callH_does ([0]) ([]) ([bytRow w2 l2]) ([]) (fun _ css R G => ∃ wv', css = [[wv']] ∧ R = [bytRow wv' (l2 ++ numB (x.drop + 1) 4)]) upV rfl rfl (by kernel_rfl) rfl (dk rfl) rfl rfl (by simp [ids, Diff]) (by simp) (fun G hG hh hM => put_does (n := x.drop + 1) (k := 4) hG.wf hh hM (by omega) (by omega)) (fun v css R G _ _ => upV_den css)) (QOk_body _ _ _) (by first | exact .inl rfl | exact .inr ⟨_, _, rfl, rfl⟩) ?_
  rintro _ ⟨_, css, _, G3, ⟨w3, rfl, rfl⟩, hcs, hle, rfl⟩
  clear hcs hle
  obtain ⟨l3, hl3⟩ : ∃ X, X = l2 ++ numB (x.drop + 1) 4 := ⟨_, rfl⟩
  rw [← hl3]
  have hn3 : l3.length = l2.length + (numB (x.drop + 1) 4).length := by rw [hl3, List.length_append]
  rw [numB_len] at hn3
  simp only [go_sem, simprocAttr]
  refine fin_retH (G := G0) Tryd.results19 ?_
  simp only [go_sem, simprocAttr]
  intro aa w' _ _
  exact ⟨_, rfl, by rw [hl3, hl2, hl1]; simp only [List.append_assoc]; rfl⟩
set_option maxRecDepth 100000 in
set_option maxHeartbeats 8000000 in
theorem wpart_does {g : Nat} {x : Prt} {sv : Value} {wv : Value} {l : List UInt8} {G0 : GW} (hW : G0.Wf) (hh : HandsOk G0.w ⟨[⟨g, 47, [wv]⟩], [bytRow wv l]⟩) (hM : ∀ k, Hands.A ⟨[⟨g, 47, [wv]⟩], [bytRow wv l]⟩ k → G0.M k) (hi : IntsG G0 sv x.secs) (hs : x.secs.length ≤ 1000) (hl : l.length ≤ 7000000) :
    Calls Tryd.prog 22 #[.pointer (some ⟨g, 0, none⟩), .agg #[.int .i64 x.n, .int .i64 x.size, sv]] G0.w (RetH G0 ⟨[⟨g, 47, [wv]⟩], [bytRow wv l]⟩ fun _ css R G => ∃ wv', css = [[wv']] ∧ R = [bytRow wv' (l ++ ptB x)]) := by
  obtain ⟨A, c, rfl, hc1, hc2⟩ := Sq.form hi
  have hml := max_le
  refine enterH (n := 16) 3000 ([.c (.p 0 g 0), .c (.v (.agg #[.int .i64 x.n, .int .i64 x.size, .slice A x.secs.length c]))]) ([⟨0, g, 47, [.v wv]⟩]) rfl hW hh hM Tryd.func22 rfl Tryd.ntmps22 (by simp) ?_
  simp only [go_sem, simprocAttr]
  intro gb
  refine plain_ok (N := 3000) (callH_does ([0]) ([]) ([bytRow wv l]) ([]) (fun _ css R G => ∃ wv', css = [[wv']] ∧ R = [bytRow wv' (l ++ numB (x.n) 1)]) upV rfl rfl (by kernel_rfl) rfl (dk rfl) rfl rfl (by simp [ids, Diff]) (by simp) (fun G hG hh hM => put_does (n := x.n) (k := 1) hG.wf hh hM (by omega) (by omega)) (fun v css R G _ _ => upV_den css)) (QOk_body _ _ _) (by first | exact .inl rfl | exact .inr ⟨_, _, rfl, rfl⟩) ?_
  rintro _ ⟨_, css, _, G1, ⟨w1, rfl, rfl⟩, hcs, hle, rfl⟩
  clear hcs hle
  obtain ⟨l1, hl1⟩ : ∃ X, X = l ++ numB (x.n) 1 := ⟨_, rfl⟩
  rw [← hl1]
  have hn1 : l1.length = l.length + (numB (x.n) 1).length := by rw [hl1, List.length_append]
  rw [numB_len] at hn1
  simp only [go_sem, simprocAttr]
  refine plain_ok (N := 3000) (callH_does ([0]) ([]) ([bytRow w1 l1]) ([]) (fun _ css R G => ∃ wv', css = [[wv']] ∧ R = [bytRow wv' (l1 ++ numB (x.size) 2)]) upV rfl rfl (by kernel_rfl) rfl (dk rfl) rfl rfl (by simp [ids, Diff]) (by simp) (fun G hG hh hM => put_does (n := x.size) (k := 2) hG.wf hh hM (by omega) (by omega)) (fun v css R G _ _ => upV_den css)) (QOk_body _ _ _) (by first | exact .inl rfl | exact .inr ⟨_, _, rfl, rfl⟩) ?_
  rintro _ ⟨_, css, _, G2, ⟨w2, rfl, rfl⟩, hcs, hle, rfl⟩
  clear hcs hle
  obtain ⟨l2, hl2⟩ : ∃ X, X = l1 ++ numB (x.size) 2 := ⟨_, rfl⟩
  rw [← hl2]
  have hn2 : l2.length = l1.length + (numB (x.size) 2).length := by rw [hl2, List.length_append]
  rw [numB_len] at hn2
  simp only [go_sem, simprocAttr]
  refine plain_ok (N := 3000) (callH_does ([0]) ([]) ([bytRow w2 l2]) ([]) (fun _ css R G => ∃ wv', css = [[wv']] ∧ R = [bytRow wv' (l2 ++ itB x.secs)]) upV rfl rfl (by kernel_rfl) rfl (dk rfl) rfl rfl (by simp [ids, Diff]) (by simp) (fun G hG hh hM => wints_does (il := x.secs) hG.wf hh hM (hi.mono (hG.le G0 (by simp))) (hs) (by omega)) (fun v css R G _ _ => upV_den css)) (QOk_body _ _ _) (by first | exact .inl rfl | exact .inr ⟨_, _, rfl, rfl⟩) ?_
  rintro _ ⟨_, css, _, G3, ⟨w3, rfl, rfl⟩, hcs, hle, rfl⟩
  clear hcs hle
  obtain ⟨l3, hl3⟩ : ∃ X, X = l2 ++ itB x.secs := ⟨_, rfl⟩
  rw [← hl3]
  have hn3 : l3.length = l2.length + (itB x.secs).length := by rw [hl3, List.length_append]
  rw [itB_len] at hn3
  simp only [go_sem, simprocAttr]
  refine fin_retH (G := G0) Tryd.results22 ?_
  simp only [go_sem, simprocAttr]
  intro aa w' _ _
  exact ⟨_, rfl, by rw [hl3, hl2, hl1]; simp only [List.append_assoc]; rfl⟩
set_option maxRecDepth 100000 in
set_option maxHeartbeats 8000000 in
theorem wask_does {g : Nat} {x : Ask} {wv : Value} {l : List UInt8} {G0 : GW} (hW : G0.Wf) (hh : HandsOk G0.w ⟨[⟨g, 47, [wv]⟩], [bytRow wv l]⟩) (hM : ∀ k, Hands.A ⟨[⟨g, 47, [wv]⟩], [bytRow wv l]⟩ k → G0.M k) (hl : l.length ≤ 7000000) :
    Calls Tryd.prog 21 #[.pointer (some ⟨g, 0, none⟩), .agg #[.int .i64 x.ver, .int .i64 x.days, .int .i64 x.cls]] G0.w (RetH G0 ⟨[⟨g, 47, [wv]⟩], [bytRow wv l]⟩ fun _ css R G => ∃ wv', css = [[wv']] ∧ R = [bytRow wv' (l ++ akB x)]) := by
  have hml := max_le
  refine enterH (n := 16) 3000 ([.c (.p 0 g 0), .c (.v (.agg #[.int .i64 x.ver, .int .i64 x.days, .int .i64 x.cls]))]) ([⟨0, g, 47, [.v wv]⟩]) rfl hW hh hM Tryd.func21 rfl Tryd.ntmps21 (by simp) ?_
  simp only [go_sem, simprocAttr]
  intro gb
  refine plain_ok (N := 3000) (callH_does ([0]) ([]) ([bytRow wv l]) ([]) (fun _ css R G => ∃ wv', css = [[wv']] ∧ R = [bytRow wv' (l ++ numB (x.ver) 3)]) upV rfl rfl (by kernel_rfl) rfl (dk rfl) rfl rfl (by simp [ids, Diff]) (by simp) (fun G hG hh hM => put_does (n := x.ver) (k := 3) hG.wf hh hM (by omega) (by omega)) (fun v css R G _ _ => upV_den css)) (QOk_body _ _ _) (by first | exact .inl rfl | exact .inr ⟨_, _, rfl, rfl⟩) ?_
  rintro _ ⟨_, css, _, G1, ⟨w1, rfl, rfl⟩, hcs, hle, rfl⟩
  clear hcs hle
  obtain ⟨l1, hl1⟩ : ∃ X, X = l ++ numB (x.ver) 3 := ⟨_, rfl⟩
  rw [← hl1]
  have hn1 : l1.length = l.length + (numB (x.ver) 3).length := by rw [hl1, List.length_append]
  rw [numB_len] at hn1
  simp only [go_sem, simprocAttr]
  refine plain_ok (N := 3000) (callH_does ([0]) ([]) ([bytRow w1 l1]) ([]) (fun _ css R G => ∃ wv', css = [[wv']] ∧ R = [bytRow wv' (l1 ++ numB (x.days) 2)]) upV rfl rfl (by kernel_rfl) rfl (dk rfl) rfl rfl (by simp [ids, Diff]) (by simp) (fun G hG hh hM => put_does (n := x.days) (k := 2) hG.wf hh hM (by omega) (by omega)) (fun v css R G _ _ => upV_den css)) (QOk_body _ _ _) (by first | exact .inl rfl | exact .inr ⟨_, _, rfl, rfl⟩) ?_
  rintro _ ⟨_, css, _, G2, ⟨w2, rfl, rfl⟩, hcs, hle, rfl⟩
  clear hcs hle
  obtain ⟨l2, hl2⟩ : ∃ X, X = l1 ++ numB (x.days) 2 := ⟨_, rfl⟩
  rw [← hl2]
  have hn2 : l2.length = l1.length + (numB (x.days) 2).length := by rw [hl2, List.length_append]
  rw [numB_len] at hn2
  simp only [go_sem, simprocAttr]
  refine plain_ok (N := 3000) (callH_does ([0]) ([]) ([bytRow w2 l2]) ([]) (fun _ css R G => ∃ wv', css = [[wv']] ∧ R = [bytRow wv' (l2 ++ numB (x.cls) 1)]) upV rfl rfl (by kernel_rfl) rfl (dk rfl) rfl rfl (by simp [ids, Diff]) (by simp) (fun G hG hh hM => put_does (n := x.cls) (k := 1) hG.wf hh hM (by omega) (by omega)) (fun v css R G _ _ => upV_den css)) (QOk_body _ _ _) (by first | exact .inl rfl | exact .inr ⟨_, _, rfl, rfl⟩) ?_
  rintro _ ⟨_, css, _, G3, ⟨w3, rfl, rfl⟩, hcs, hle, rfl⟩
  clear hcs hle
  obtain ⟨l3, hl3⟩ : ∃ X, X = l2 ++ numB (x.cls) 1 := ⟨_, rfl⟩
  rw [← hl3]
  have hn3 : l3.length = l2.length + (numB (x.cls) 1).length := by rw [hl3, List.length_append]
  rw [numB_len] at hn3
  simp only [go_sem, simprocAttr]
  refine fin_retH (G := G0) Tryd.results21 ?_
  simp only [go_sem, simprocAttr]
  intro aa w' _ _
  exact ⟨_, rfl, by rw [hl3, hl2, hl1]; simp only [List.append_assoc]; rfl⟩
set_option maxRecDepth 100000 in
set_option maxHeartbeats 8000000 in
theorem wversion_does {g : Nat} {x : Ver} {sv : Value} {wv : Value} {l : List UInt8} {G0 : GW} (hW : G0.Wf) (hh : HandsOk G0.w ⟨[⟨g, 47, [wv]⟩], [bytRow wv l]⟩) (hM : ∀ k, Hands.A ⟨[⟨g, 47, [wv]⟩], [bytRow wv l]⟩ k → G0.M k) (hi : IntsG G0 sv x.secs) (hs : x.secs.length ≤ 1000) (hb : x.bucket.size ≤ 1000) (hk : x.key.size ≤ 1000) (hl : l.length ≤ 7000000) :
    Calls Tryd.prog 20 #[.pointer (some ⟨g, 0, none⟩), .agg (verV x sv).toArray] G0.w (RetH G0 ⟨[⟨g, 47, [wv]⟩], [bytRow wv l]⟩ fun _ css R G => ∃ wv', css = [[wv']] ∧ R = [bytRow wv' (l ++ vrB x)]) := by
  obtain ⟨A, c, rfl, hc1, hc2⟩ := Sq.form hi
  have hml := max_le
  refine enterH (n := 52) 3000 ([.c (.p 0 g 0), .c (.v (.agg (verV x (.slice A x.secs.length c)).toArray))]) ([⟨0, g, 47, [.v wv]⟩]) rfl hW hh hM Tryd.func20 rfl Tryd.ntmps20 (by simp) ?_
  simp only [go_sem, simprocAttr, verV]
  intro gb
  refine plain_ok (N := 3000) (callH_does ([0]) ([]) ([bytRow wv l]) ([]) (fun _ css R G => ∃ wv', css = [[wv']] ∧ R = [bytRow wv' (l ++ numB (x.id) 3)]) upV rfl rfl (by kernel_rfl) rfl (dk rfl) rfl rfl (by simp [ids, Diff]) (by simp) (fun G hG hh hM => put_does (n := x.id) (k := 3) hG.wf hh hM (by omega) (by omega)) (fun v css R G _ _ => upV_den css)) (QOk_body _ _ _) (by first | exact .inl rfl | exact .inr ⟨_, _, rfl, rfl⟩) ?_
  rintro _ ⟨_, css, _, G1, ⟨w1, rfl, rfl⟩, hcs, hle, rfl⟩
  clear hcs hle
  obtain ⟨l1, hl1⟩ : ∃ X, X = l ++ numB (x.id) 3 := ⟨_, rfl⟩
  rw [← hl1]
  have hn1 : l1.length = l.length + (numB (x.id) 3).length := by rw [hl1, List.length_append]
  rw [numB_len] at hn1
  simp only [go_sem, simprocAttr]
  refine plain_ok (N := 3000) (callH_does ([0]) ([]) ([bytRow w1 l1]) ([]) (fun _ css R G => ∃ wv', css = [[wv']] ∧ R = [bytRow wv' (l1 ++ txB x.bucket)]) upV rfl rfl (by kernel_rfl) rfl (dk rfl) rfl rfl (by simp [ids, Diff]) (by simp) (fun G hG hh hM => wtext_does (t := x.bucket) hG.wf hh hM (hb) (by omega)) (fun v css R G _ _ => upV_den css)) (QOk_body _ _ _) (by first | exact .inl rfl | exact .inr ⟨_, _, rfl, rfl⟩) ?_
  rintro _ ⟨_, css, _, G2, ⟨w2, rfl, rfl⟩, hcs, hle, rfl⟩
  clear hcs hle
  obtain ⟨l2, hl2⟩ : ∃ X, X = l1 ++ txB x.bucket := ⟨_, rfl⟩
  rw [← hl2]
  have hn2 : l2.length = l1.length + (txB x.bucket).length := by rw [hl2, List.length_append]
  rw [txB_len] at hn2
  simp only [go_sem, simprocAttr]
  refine plain_ok (N := 3000) (callH_does ([0]) ([]) ([bytRow w2 l2]) ([]) (fun _ css R G => ∃ wv', css = [[wv']] ∧ R = [bytRow wv' (l2 ++ txB x.key)]) upV rfl rfl (by kernel_rfl) rfl (dk rfl) rfl rfl (by simp [ids, Diff]) (by simp) (fun G hG hh hM => wtext_does (t := x.key) hG.wf hh hM (hk) (by omega)) (fun v css R G _ _ => upV_den css)) (QOk_body _ _ _) (by first | exact .inl rfl | exact .inr ⟨_, _, rfl, rfl⟩) ?_
  rintro _ ⟨_, css, _, G3, ⟨w3, rfl, rfl⟩, hcs, hle, rfl⟩
  clear hcs hle
  obtain ⟨l3, hl3⟩ : ∃ X, X = l2 ++ txB x.key := ⟨_, rfl⟩
  rw [← hl3]
  have hn3 : l3.length = l2.length + (txB x.key).length := by rw [hl3, List.length_append]
  rw [txB_len] at hn3
  simp only [go_sem, simprocAttr]
  refine plain_ok (N := 3000) (callH_does ([0]) ([]) ([bytRow w3 l3]) ([]) (fun _ css R G => ∃ wv', css = [[wv']] ∧ R = [bytRow wv' (l3 ++ btB x.null)]) upV rfl rfl (by kernel_rfl) rfl (dk rfl) rfl rfl (by simp [ids, Diff]) (by simp) (fun G hG hh hM => wbit_does (b := x.null) hG.wf hh hM (by omega)) (fun v css R G _ _ => upV_den css)) (QOk_body _ _ _) (by first | exact .inl rfl | exact .inr ⟨_, _, rfl, rfl⟩) ?_
  rintro _ ⟨_, css, _, G4, ⟨w4, rfl, rfl⟩, hcs, hle, rfl⟩
  clear hcs hle
  obtain ⟨l4, hl4⟩ : ∃ X, X = l3 ++ btB x.null := ⟨_, rfl⟩
  rw [← hl4]
  have hn4 : l4.length = l3.length + (btB x.null).length := by rw [hl4, List.length_append]
  rw [btB_len] at hn4
  simp only [go_sem, simprocAttr]
  refine plain_ok (N := 3000) (callH_does ([0]) ([]) ([bytRow w4 l4]) ([]) (fun _ css R G => ∃ wv', css = [[wv']] ∧ R = [bytRow wv' (l4 ++ btB x.marker)]) upV rfl rfl (by kernel_rfl) rfl (dk rfl) rfl rfl (by simp [ids, Diff]) (by simp) (fun G hG hh hM => wbit_does (b := x.marker) hG.wf hh hM (by omega)) (fun v css R G _ _ => upV_den css)) (QOk_body _ _ _) (by first | exact .inl rfl | exact .inr ⟨_, _, rfl, rfl⟩) ?_
  rintro _ ⟨_, css, _, G5, ⟨w5, rfl, rfl⟩, hcs, hle, rfl⟩
  clear hcs hle
  obtain ⟨l5, hl5⟩ : ∃ X, X = l4 ++ btB x.marker := ⟨_, rfl⟩
  rw [← hl5]
  have hn5 : l5.length = l4.length + (btB x.marker).length := by rw [hl5, List.length_append]
  rw [btB_len] at hn5
  simp only [go_sem, simprocAttr]
  refine plain_ok (N := 3000) (callH_does ([0]) ([]) ([bytRow w5 l5]) ([]) (fun _ css R G => ∃ wv', css = [[wv']] ∧ R = [bytRow wv' (l5 ++ numB (x.size) 2)]) upV rfl rfl (by kernel_rfl) rfl (dk rfl) rfl rfl (by simp [ids, Diff]) (by simp) (fun G hG hh hM => put_does (n := x.size) (k := 2) hG.wf hh hM (by omega) (by omega)) (fun v css R G _ _ => upV_den css)) (QOk_body _ _ _) (by first | exact .inl rfl | exact .inr ⟨_, _, rfl, rfl⟩) ?_
  rintro _ ⟨_, css, _, G6, ⟨w6, rfl, rfl⟩, hcs, hle, rfl⟩
  clear hcs hle
  obtain ⟨l6, hl6⟩ : ∃ X, X = l5 ++ numB (x.size) 2 := ⟨_, rfl⟩
  rw [← hl6]
  have hn6 : l6.length = l5.length + (numB (x.size) 2).length := by rw [hl6, List.length_append]
  rw [numB_len] at hn6
  simp only [go_sem, simprocAttr]
  refine plain_ok (N := 3000) (callH_does ([0]) ([]) ([bytRow w6 l6]) ([]) (fun _ css R G => ∃ wv', css = [[wv']] ∧ R = [bytRow wv' (l6 ++ numB (x.time) 4)]) upV rfl rfl (by kernel_rfl) rfl (dk rfl) rfl rfl (by simp [ids, Diff]) (by simp) (fun G hG hh hM => put_does (n := x.time) (k := 4) hG.wf hh hM (by omega) (by omega)) (fun v css R G _ _ => upV_den css)) (QOk_body _ _ _) (by first | exact .inl rfl | exact .inr ⟨_, _, rfl, rfl⟩) ?_
  rintro _ ⟨_, css, _, G7, ⟨w7, rfl, rfl⟩, hcs, hle, rfl⟩
  clear hcs hle
  obtain ⟨l7, hl7⟩ : ∃ X, X = l6 ++ numB (x.time) 4 := ⟨_, rfl⟩
  rw [← hl7]
  have hn7 : l7.length = l6.length + (numB (x.time) 4).length := by rw [hl7, List.length_append]
  rw [numB_len] at hn7
  simp only [go_sem, simprocAttr]
  refine plain_ok (N := 3000) (callH_does ([0]) ([]) ([bytRow w7 l7]) ([]) (fun _ css R G => ∃ wv', css = [[wv']] ∧ R = [bytRow wv' (l7 ++ numB (x.tier) 1)]) upV rfl rfl (by kernel_rfl) rfl (dk rfl) rfl rfl (by simp [ids, Diff]) (by simp) (fun G hG hh hM => put_does (n := x.tier) (k := 1) hG.wf hh hM (by omega) (by omega)) (fun v css R G _ _ => upV_den css)) (QOk_body _ _ _) (by first | exact .inl rfl | exact .inr ⟨_, _, rfl, rfl⟩) ?_
  rintro _ ⟨_, css, _, G8, ⟨w8, rfl, rfl⟩, hcs, hle, rfl⟩
  clear hcs hle
  obtain ⟨l8, hl8⟩ : ∃ X, X = l7 ++ numB (x.tier) 1 := ⟨_, rfl⟩
  rw [← hl8]
  have hn8 : l8.length = l7.length + (numB (x.tier) 1).length := by rw [hl8, List.length_append]
  rw [numB_len] at hn8
  simp only [go_sem, simprocAttr]
  refine plain_ok (N := 3000) (callH_does ([0]) ([]) ([bytRow w8 l8]) ([]) (fun _ css R G => ∃ wv', css = [[wv']] ∧ R = [bytRow wv' (l8 ++ itB x.secs)]) upV rfl rfl (by kernel_rfl) rfl (dk rfl) rfl rfl (by simp [ids, Diff]) (by simp) (fun G hG hh hM => wints_does (il := x.secs) hG.wf hh hM (hi.mono (hG.le G0 (by simp))) (hs) (by omega)) (fun v css R G _ _ => upV_den css)) (QOk_body _ _ _) (by first | exact .inl rfl | exact .inr ⟨_, _, rfl, rfl⟩) ?_
  rintro _ ⟨_, css, _, G9, ⟨w9, rfl, rfl⟩, hcs, hle, rfl⟩
  clear hcs hle
  obtain ⟨l9, hl9⟩ : ∃ X, X = l8 ++ itB x.secs := ⟨_, rfl⟩
  rw [← hl9]
  have hn9 : l9.length = l8.length + (itB x.secs).length := by rw [hl9, List.length_append]
  rw [itB_len] at hn9
  simp only [go_sem, simprocAttr]
  refine plain_ok (N := 3000) (callH_does ([0]) ([]) ([bytRow w9 l9]) ([]) (fun _ css R G => ∃ wv', css = [[wv']] ∧ R = [bytRow wv' (l9 ++ numB (x.vol) 1)]) upV rfl rfl (by kernel_rfl) rfl (dk rfl) rfl rfl (by simp [ids, Diff]) (by simp) (fun G hG hh hM => put_does (n := x.vol) (k := 1) hG.wf hh hM (by omega) (by omega)) (fun v css R G _ _ => upV_den css)) (QOk_body _ _ _) (by first | exact .inl rfl | exact .inr ⟨_, _, rfl, rfl⟩) ?_
  rintro _ ⟨_, css, _, G10, ⟨w10, rfl, rfl⟩, hcs, hle, rfl⟩
  clear hcs hle
  obtain ⟨l10, hl10⟩ : ∃ X, X = l9 ++ numB (x.vol) 1 := ⟨_, rfl⟩
  rw [← hl10]
  have hn10 : l10.length = l9.length + (numB (x.vol) 1).length := by rw [hl10, List.length_append]
  rw [numB_len] at hn10
  simp only [go_sem, simprocAttr]
  refine plain_ok (N := 3000) (callH_does ([0]) ([]) ([bytRow w10 l10]) ([]) (fun _ css R G => ∃ wv', css = [[wv']] ∧ R = [bytRow wv' (l10 ++ numB (x.at_) 2)]) upV rfl rfl (by kernel_rfl) rfl (dk rfl) rfl rfl (by simp [ids, Diff]) (by simp) (fun G hG hh hM => put_does (n := x.at_) (k := 2) hG.wf hh hM (by omega) (by omega)) (fun v css R G _ _ => upV_den css)) (QOk_body _ _ _) (by first | exact .inl rfl | exact .inr ⟨_, _, rfl, rfl⟩) ?_
  rintro _ ⟨_, css, _, G11, ⟨w11, rfl, rfl⟩, hcs, hle, rfl⟩
  clear hcs hle
  obtain ⟨l11, hl11⟩ : ∃ X, X = l10 ++ numB (x.at_) 2 := ⟨_, rfl⟩
  rw [← hl11]
  have hn11 : l11.length = l10.length + (numB (x.at_) 2).length := by rw [hl11, List.length_append]
  rw [numB_len] at hn11
  simp only [go_sem, simprocAttr]
  refine plain_ok (N := 3000) (callH_does ([0]) ([]) ([bytRow w11 l11]) ([]) (fun _ css R G => ∃ wv', css = [[wv']] ∧ R = [bytRow wv' (l11 ++ numB (x.till) 4)]) upV rfl rfl (by kernel_rfl) rfl (dk rfl) rfl rfl (by simp [ids, Diff]) (by simp) (fun G hG hh hM => put_does (n := x.till) (k := 4) hG.wf hh hM (by omega) (by omega)) (fun v css R G _ _ => upV_den css)) (QOk_body _ _ _) (by first | exact .inl rfl | exact .inr ⟨_, _, rfl, rfl⟩) ?_
  rintro _ ⟨_, css, _, G12, ⟨w12, rfl, rfl⟩, hcs, hle, rfl⟩
  clear hcs hle
  obtain ⟨l12, hl12⟩ : ∃ X, X = l11 ++ numB (x.till) 4 := ⟨_, rfl⟩
  rw [← hl12]
  have hn12 : l12.length = l11.length + (numB (x.till) 4).length := by rw [hl12, List.length_append]
  rw [numB_len] at hn12
  simp only [go_sem, simprocAttr]
  refine fin_retH (G := G0) Tryd.results20 ?_
  simp only [go_sem, simprocAttr]
  intro aa w' _ _
  exact ⟨_, rfl, by rw [hl12, hl11, hl10, hl9, hl8, hl7, hl6, hl5, hl4, hl3, hl2, hl1]; simp only [List.append_assoc]; rfl⟩
end Go.Proofs.YtohdfcnjcpjdcaaDoor
