/- The writer of a record. Conditions: as each law states them. -/
import Derived.Test.YtohdfcnjcpjdcaaDoorQ7q
namespace Go.Proofs.YtohdfcnjcpjdcaaDoor
open Go.RowKit
set_option linter.unusedSimpArgs false
theorem ruq_len (x : Rul) : (ruB x).length = x.pre.size + 9 := by simp only [ruB, List.length_append, numB_len, txB_len]; omega
theorem ptq_len (x : Prt) : (ptB x).length = x.secs.length + 4 := by simp only [ptB, List.length_append, numB_len, itB_len]; omega
theorem akq_len (x : Ask) : (akB x).length = 6 := by simp only [akB, List.length_append, numB_len]
theorem vrq_len (x : Ver) : (vrB x).length = x.bucket.size + x.key.size + x.secs.length + 22 := by simp only [vrB, List.length_append, numB_len, txB_len, btB_len, itB_len]; omega
theorem rcB_1 {r : Rec} (h : r.kind = 1) : rcB r = numB 1 1 ++ (txB r.name) := by
  unfold rcB tlB
  rw [h]
  show numB 1 1 ++ ([] ++ (txB r.name ++ ([] ++ ([] ++ ([] ++ ([] ++ ([] ++ ([] ++ ([] ++ ([] ++ ([]))))))))))) = _
  simp only [List.nil_append, List.append_nil]
theorem rcB_2 {r : Rec} (h : r.kind = 2) : rcB r = numB 2 1 ++ (txB r.name ++ (numB r.n 4)) := by
  unfold rcB tlB
  rw [h]
  show numB 2 1 ++ ([] ++ (txB r.name ++ ([] ++ (numB r.n 4 ++ ([] ++ ([] ++ ([] ++ ([] ++ ([] ++ ([] ++ ([]))))))))))) = _
  simp only [List.nil_append, List.append_nil]
theorem rcB_3 {r : Rec} (h : r.kind = 3) : rcB r = numB 3 1 ++ (txB r.name ++ (ruB r.rule)) := by
  unfold rcB tlB
  rw [h]
  show numB 3 1 ++ ([] ++ (txB r.name ++ ([] ++ ([] ++ (ruB r.rule ++ ([] ++ ([] ++ ([] ++ ([] ++ ([] ++ ([]))))))))))) = _
  simp only [List.nil_append, List.append_nil]
theorem rcB_4 {r : Rec} (h : r.kind = 4) : rcB r = numB 4 1 ++ (vrB r.ver) := by
  unfold rcB tlB
  rw [h]
  show numB 4 1 ++ ([] ++ ([] ++ ([] ++ ([] ++ ([] ++ (vrB r.ver ++ ([] ++ ([] ++ ([] ++ ([] ++ ([]))))))))))) = _
  simp only [List.nil_append, List.append_nil]
theorem rcB_5 {r : Rec} (h : r.kind = 5) : rcB r = numB 5 1 ++ (numB r.id 3) := by
  unfold rcB tlB
  rw [h]
  show numB 5 1 ++ (numB r.id 3 ++ ([] ++ ([] ++ ([] ++ ([] ++ ([] ++ ([] ++ ([] ++ ([] ++ ([] ++ ([]))))))))))) = _
  simp only [List.nil_append, List.append_nil]
theorem rcB_6 {r : Rec} (h : r.kind = 6) : rcB r = numB 6 1 ++ (numB r.id 3 ++ (numB r.vol 1 ++ (numB r.at_ 2))) := by
  unfold rcB tlB
  rw [h]
  show numB 6 1 ++ (numB r.id 3 ++ ([] ++ ([] ++ ([] ++ ([] ++ ([] ++ ([] ++ ([] ++ ([] ++ (numB r.vol 1 ++ (numB r.at_ 2))))))))))) = _
  simp only [List.nil_append, List.append_nil]
theorem rcB_7 {r : Rec} (h : r.kind = 7) : rcB r = numB 7 1 ++ (akB r.ask) := by
  unfold rcB tlB
  rw [h]
  show numB 7 1 ++ ([] ++ ([] ++ ([] ++ ([] ++ ([] ++ ([] ++ (akB r.ask ++ ([] ++ ([] ++ ([] ++ ([]))))))))))) = _
  simp only [List.nil_append, List.append_nil]
theorem rcB_8 {r : Rec} (h : r.kind = 8) : rcB r = numB 8 1 ++ (numB r.id 3 ++ (numB r.n 4 ++ (itB r.secs))) := by
  unfold rcB tlB
  rw [h]
  show numB 8 1 ++ (numB r.id 3 ++ ([] ++ ([] ++ (numB r.n 4 ++ ([] ++ ([] ++ ([] ++ ([] ++ (itB r.secs ++ ([] ++ ([]))))))))))) = _
  simp only [List.nil_append, List.append_nil]
theorem rcB_9 {r : Rec} (h : r.kind = 9) : rcB r = numB 9 1 ++ (numB r.id 3) := by
  unfold rcB tlB
  rw [h]
  show numB 9 1 ++ (numB r.id 3 ++ ([] ++ ([] ++ ([] ++ ([] ++ ([] ++ ([] ++ ([] ++ ([] ++ ([] ++ ([]))))))))))) = _
  simp only [List.nil_append, List.append_nil]
theorem rcB_10 {r : Rec} (h : r.kind = 10) : rcB r = numB 10 1 ++ (numB r.id 3 ++ (txB r.name ++ (txB r.key))) := by
  unfold rcB tlB
  rw [h]
  show numB 10 1 ++ (numB r.id 3 ++ (txB r.name ++ (txB r.key ++ ([] ++ ([] ++ ([] ++ ([] ++ ([] ++ ([] ++ ([] ++ ([]))))))))))) = _
  simp only [List.nil_append, List.append_nil]
theorem rcB_11 {r : Rec} (h : r.kind = 11) : rcB r = numB 11 1 ++ (numB r.id 3 ++ (ptB r.part)) := by
  unfold rcB tlB
  rw [h]
  show numB 11 1 ++ (numB r.id 3 ++ ([] ++ ([] ++ ([] ++ ([] ++ ([] ++ ([] ++ (ptB r.part ++ ([] ++ ([] ++ ([]))))))))))) = _
  simp only [List.nil_append, List.append_nil]
theorem rcB_12 {r : Rec} (h : r.kind = 12) : rcB r = numB 12 1 ++ (numB r.id 3) := by
  unfold rcB tlB
  rw [h]
  show numB 12 1 ++ (numB r.id 3 ++ ([] ++ ([] ++ ([] ++ ([] ++ ([] ++ ([] ++ ([] ++ ([] ++ ([] ++ ([]))))))))))) = _
  simp only [List.nil_append, List.append_nil]
theorem rcB_13 {r : Rec} (h : r.kind = 13) : rcB r = numB 13 1 ++ (numB r.n 4) := by
  unfold rcB tlB
  rw [h]
  show numB 13 1 ++ ([] ++ ([] ++ ([] ++ (numB r.n 4 ++ ([] ++ ([] ++ ([] ++ ([] ++ ([] ++ ([] ++ ([]))))))))))) = _
  simp only [List.nil_append, List.append_nil]
theorem rcB_14 {r : Rec} (h : r.kind = 14) : rcB r = numB 14 1 ++ (numB r.vol 1) := by
  unfold rcB tlB
  rw [h]
  show numB 14 1 ++ ([] ++ ([] ++ ([] ++ ([] ++ ([] ++ ([] ++ ([] ++ ([] ++ ([] ++ (numB r.vol 1 ++ ([]))))))))))) = _
  simp only [List.nil_append, List.append_nil]
set_option maxRecDepth 100000 in
set_option maxHeartbeats 64000000 in
theorem wrecord_does {g : Nat} {r : Rec} {vs ps ss wv : Value} {l : List UInt8} {G0 : GW} (hW : G0.Wf) (hh : HandsOk G0.w ⟨[⟨g, 47, [wv]⟩], [bytRow wv l]⟩) (hM : ∀ k, Hands.A ⟨[⟨g, 47, [wv]⟩], [bytRow wv l]⟩ k → G0.M k) (h : RxG G0 r vs ps ss) (hK : KindsG G0) (hF : Fits r) (hk : 1 ≤ r.kind ∧ r.kind ≤ 14) (hl : l.length ≤ 6000000) :
    Calls Tryd.prog 10 #[.pointer (some ⟨g, 0, none⟩), .agg (recV r vs ps ss).toArray] G0.w (RetH G0 ⟨[⟨g, 47, [wv]⟩], [bytRow wv l]⟩ fun _ css R G => ∃ wv', css = [[wv']] ∧ R = [bytRow wv' (l ++ rcB r)]) := by
  obtain ⟨A, c, rfl, hc1, hc2⟩ := Sq.form h.v
  obtain ⟨B, d, rfl, hd1, hd2⟩ := Sq.form h.p
  obtain ⟨C, e, rfl, he1, he2⟩ := Sq.form h.s
  have hml := max_le
  obtain ⟨f1, f2, f3, f4, ⟨g1, g2, g3⟩, ⟨v1, v2, v3, _, _, v4, v5, v6, ⟨v7, _⟩, v8, v9, v10⟩, ⟨a1, a2, a3⟩, ⟨p1, p2, ⟨p3, _⟩⟩, ⟨f9, _⟩, f10, f11⟩ := hF
  obtain ⟨m, hm⟩ : ∃ m : Nat, r.kind = (m : Int) := ⟨r.kind.toNat, by omega⟩
  refine enterH (n := 79) 3000 ([.c (.p 0 g 0), .c (.v (.agg (recV r (.slice A r.ver.secs.length c) (.slice B r.part.secs.length d) (.slice C r.secs.length e)).toArray))]) ([⟨0, g, 47, [.v wv]⟩]) rfl hW hh hM Tryd.func10 rfl Tryd.ntmps10 (by simp) ?_
  simp only [go_sem, simprocAttr, recV, hm]
  intro gb
  refine plain_ok (N := 3000) (globElem_does (m := m) (cs := kdC (kd (m : Int))) rfl Tryd.underlying62 tySize61 rfl (dk rfl) rfl (by omega) (by decide) (fun G hG => kinds_at (BlkG.mono hK (hG.le G0 (by simp))) (by omega))) (QOk_body _ _ _) (by first | exact .inl rfl | exact .inr ⟨_, _, rfl, rfl⟩) ?_
  rintro _ ⟨GK, rfl⟩
  have hm14 : m = 1 ∨ m = 2 ∨ m = 3 ∨ m = 4 ∨ m = 5 ∨ m = 6 ∨ m = 7 ∨ m = 8 ∨ m = 9 ∨ m = 10 ∨ m = 11 ∨ m = 12 ∨ m = 13 ∨ m = 14 := by omega
  rcases hm14 with rfl | rfl | rfl | rfl | rfl | rfl | rfl | rfl | rfl | rfl | rfl | rfl | rfl | rfl
  · simp only [go_sem, simprocAttr, show kdC (kd (1 : Int)) = [.bool false, .bool false, .bool true, .bool false, .bool false, .bool false, .bool false, .bool false, .bool false, .bool false, .bool false] from rfl]
    intro g2
    refine plain_ok (N := 3000) (callH_does ([0]) ([]) ([bytRow wv l]) ([]) (fun _ css R G => ∃ wv', css = [[wv']] ∧ R = [bytRow wv' (l ++ numB 1 1)]) upV rfl rfl (by kernel_rfl) rfl (dk rfl) rfl rfl (by simp [ids, Diff]) (by simp) (fun G hG hh hM => put_does (n := 1) (k := 1) hG.wf hh hM (by omega) (by omega)) (fun v css R G _ _ => upV_den css)) (QOk_body _ _ _) (by first | exact .inl rfl | exact .inr ⟨_, _, rfl, rfl⟩) ?_
    rintro _ ⟨_, css, _, GH1, ⟨w1, rfl, rfl⟩, hcs, hle, rfl⟩
    clear hcs hle
    obtain ⟨l1, hl1⟩ : ∃ X, X = l ++ numB 1 1 := ⟨_, rfl⟩
    rw [← hl1]
    have hn1 : l1.length = l.length + (numB 1 1).length := by rw [hl1, List.length_append]
    rw [numB_len] at hn1
    simp only [go_sem, simprocAttr]
    refine plain_ok (N := 3000) (callH_does ([0]) ([]) ([bytRow w1 l1]) ([]) (fun _ css R G => ∃ wv', css = [[wv']] ∧ R = [bytRow wv' (l1 ++ txB r.name)]) upV rfl rfl (by kernel_rfl) rfl (dk rfl) rfl rfl (by simp [ids, Diff]) (by simp) (fun G hG hh hM => wtext_does (t := r.name) hG.wf hh hM (by omega) (by omega)) (fun v css R G _ _ => upV_den css)) (QOk_body _ _ _) (by first | exact .inl rfl | exact .inr ⟨_, _, rfl, rfl⟩) ?_
    rintro _ ⟨_, css, _, GH2, ⟨w2, rfl, rfl⟩, hcs, hle, rfl⟩
    clear hcs hle
    obtain ⟨l2, hl2⟩ : ∃ X, X = l1 ++ txB r.name := ⟨_, rfl⟩
    rw [← hl2]
    have hn2 : l2.length = l1.length + (txB r.name).length := by rw [hl2, List.length_append]
    rw [txB_len] at hn2
    simp only [go_sem, simprocAttr]
    refine fin_retH (G := G0) Tryd.results10 ?_
    simp only [go_sem, simprocAttr]
    intro aa w' _ _
    exact ⟨_, rfl, by rw [rcB_1 (hm.trans rfl), hl2, hl1]; simp only [List.append_assoc]⟩
  · simp only [go_sem, simprocAttr, show kdC (kd (2 : Int)) = [.bool false, .bool true, .bool true, .bool false, .bool false, .bool false, .bool false, .bool false, .bool false, .bool false, .bool false] from rfl]
    intro g2
    refine plain_ok (N := 3000) (callH_does ([0]) ([]) ([bytRow wv l]) ([]) (fun _ css R G => ∃ wv', css = [[wv']] ∧ R = [bytRow wv' (l ++ numB 2 1)]) upV rfl rfl (by kernel_rfl) rfl (dk rfl) rfl rfl (by simp [ids, Diff]) (by simp) (fun G hG hh hM => put_does (n := 2) (k := 1) hG.wf hh hM (by omega) (by omega)) (fun v css R G _ _ => upV_den css)) (QOk_body _ _ _) (by first | exact .inl rfl | exact .inr ⟨_, _, rfl, rfl⟩) ?_
    rintro _ ⟨_, css, _, GH1, ⟨w1, rfl, rfl⟩, hcs, hle, rfl⟩
    clear hcs hle
    obtain ⟨l1, hl1⟩ : ∃ X, X = l ++ numB 2 1 := ⟨_, rfl⟩
    rw [← hl1]
    have hn1 : l1.length = l.length + (numB 2 1).length := by rw [hl1, List.length_append]
    rw [numB_len] at hn1
    simp only [go_sem, simprocAttr]
    refine plain_ok (N := 3000) (callH_does ([0]) ([]) ([bytRow w1 l1]) ([]) (fun _ css R G => ∃ wv', css = [[wv']] ∧ R = [bytRow wv' (l1 ++ txB r.name)]) upV rfl rfl (by kernel_rfl) rfl (dk rfl) rfl rfl (by simp [ids, Diff]) (by simp) (fun G hG hh hM => wtext_does (t := r.name) hG.wf hh hM (by omega) (by omega)) (fun v css R G _ _ => upV_den css)) (QOk_body _ _ _) (by first | exact .inl rfl | exact .inr ⟨_, _, rfl, rfl⟩) ?_
    rintro _ ⟨_, css, _, GH2, ⟨w2, rfl, rfl⟩, hcs, hle, rfl⟩
    clear hcs hle
    obtain ⟨l2, hl2⟩ : ∃ X, X = l1 ++ txB r.name := ⟨_, rfl⟩
    rw [← hl2]
    have hn2 : l2.length = l1.length + (txB r.name).length := by rw [hl2, List.length_append]
    rw [txB_len] at hn2
    simp only [go_sem, simprocAttr]
    refine plain_ok (N := 3000) (callH_does ([0]) ([]) ([bytRow w2 l2]) ([]) (fun _ css R G => ∃ wv', css = [[wv']] ∧ R = [bytRow wv' (l2 ++ numB r.n 4)]) upV rfl rfl (by kernel_rfl) rfl (dk rfl) rfl rfl (by simp [ids, Diff]) (by simp) (fun G hG hh hM => put_does (n := r.n) (k := 4) hG.wf hh hM (by omega) (by omega)) (fun v css R G _ _ => upV_den css)) (QOk_body _ _ _) (by first | exact .inl rfl | exact .inr ⟨_, _, rfl, rfl⟩) ?_
    rintro _ ⟨_, css, _, GH3, ⟨w3, rfl, rfl⟩, hcs, hle, rfl⟩
    clear hcs hle
    obtain ⟨l3, hl3⟩ : ∃ X, X = l2 ++ numB r.n 4 := ⟨_, rfl⟩
    rw [← hl3]
    have hn3 : l3.length = l2.length + (numB r.n 4).length := by rw [hl3, List.length_append]
    rw [numB_len] at hn3
    simp only [go_sem, simprocAttr]
    refine fin_retH (G := G0) Tryd.results10 ?_
    simp only [go_sem, simprocAttr]
    intro aa w' _ _
    exact ⟨_, rfl, by rw [rcB_2 (hm.trans rfl), hl3, hl2, hl1]; simp only [List.append_assoc]⟩
  · simp only [go_sem, simprocAttr, show kdC (kd (3 : Int)) = [.bool false, .bool false, .bool true, .bool false, .bool true, .bool false, .bool false, .bool false, .bool false, .bool false, .bool false] from rfl]
    intro g2
    refine plain_ok (N := 3000) (callH_does ([0]) ([]) ([bytRow wv l]) ([]) (fun _ css R G => ∃ wv', css = [[wv']] ∧ R = [bytRow wv' (l ++ numB 3 1)]) upV rfl rfl (by kernel_rfl) rfl (dk rfl) rfl rfl (by simp [ids, Diff]) (by simp) (fun G hG hh hM => put_does (n := 3) (k := 1) hG.wf hh hM (by omega) (by omega)) (fun v css R G _ _ => upV_den css)) (QOk_body _ _ _) (by first | exact .inl rfl | exact .inr ⟨_, _, rfl, rfl⟩) ?_
    rintro _ ⟨_, css, _, GH1, ⟨w1, rfl, rfl⟩, hcs, hle, rfl⟩
    clear hcs hle
    obtain ⟨l1, hl1⟩ : ∃ X, X = l ++ numB 3 1 := ⟨_, rfl⟩
    rw [← hl1]
    have hn1 : l1.length = l.length + (numB 3 1).length := by rw [hl1, List.length_append]
    rw [numB_len] at hn1
    simp only [go_sem, simprocAttr]
    refine plain_ok (N := 3000) (callH_does ([0]) ([]) ([bytRow w1 l1]) ([]) (fun _ css R G => ∃ wv', css = [[wv']] ∧ R = [bytRow wv' (l1 ++ txB r.name)]) upV rfl rfl (by kernel_rfl) rfl (dk rfl) rfl rfl (by simp [ids, Diff]) (by simp) (fun G hG hh hM => wtext_does (t := r.name) hG.wf hh hM (by omega) (by omega)) (fun v css R G _ _ => upV_den css)) (QOk_body _ _ _) (by first | exact .inl rfl | exact .inr ⟨_, _, rfl, rfl⟩) ?_
    rintro _ ⟨_, css, _, GH2, ⟨w2, rfl, rfl⟩, hcs, hle, rfl⟩
    clear hcs hle
    obtain ⟨l2, hl2⟩ : ∃ X, X = l1 ++ txB r.name := ⟨_, rfl⟩
    rw [← hl2]
    have hn2 : l2.length = l1.length + (txB r.name).length := by rw [hl2, List.length_append]
    rw [txB_len] at hn2
    simp only [go_sem, simprocAttr]
    refine plain_ok (N := 3000) (callH_does ([0]) ([]) ([bytRow w2 l2]) ([]) (fun _ css R G => ∃ wv', css = [[wv']] ∧ R = [bytRow wv' (l2 ++ ruB r.rule)]) upV rfl rfl (by kernel_rfl) rfl (dk rfl) rfl rfl (by simp [ids, Diff]) (by simp) (fun G hG hh hM => wrule_does (x := r.rule) hG.wf hh hM (by omega) (by omega) (by omega) (by omega)) (fun v css R G _ _ => upV_den css)) (QOk_body _ _ _) (by first | exact .inl rfl | exact .inr ⟨_, _, rfl, rfl⟩) ?_
    rintro _ ⟨_, css, _, GH3, ⟨w3, rfl, rfl⟩, hcs, hle, rfl⟩
    clear hcs hle
    obtain ⟨l3, hl3⟩ : ∃ X, X = l2 ++ ruB r.rule := ⟨_, rfl⟩
    rw [← hl3]
    have hn3 : l3.length = l2.length + (ruB r.rule).length := by rw [hl3, List.length_append]
    rw [ruq_len] at hn3
    simp only [go_sem, simprocAttr]
    refine fin_retH (G := G0) Tryd.results10 ?_
    simp only [go_sem, simprocAttr]
    intro aa w' _ _
    exact ⟨_, rfl, by rw [rcB_3 (hm.trans rfl), hl3, hl2, hl1]; simp only [List.append_assoc]⟩
  · simp only [go_sem, simprocAttr, show kdC (kd (4 : Int)) = [.bool false, .bool false, .bool false, .bool false, .bool false, .bool true, .bool false, .bool false, .bool false, .bool false, .bool false] from rfl]
    intro g2
    refine plain_ok (N := 3000) (callH_does ([0]) ([]) ([bytRow wv l]) ([]) (fun _ css R G => ∃ wv', css = [[wv']] ∧ R = [bytRow wv' (l ++ numB 4 1)]) upV rfl rfl (by kernel_rfl) rfl (dk rfl) rfl rfl (by simp [ids, Diff]) (by simp) (fun G hG hh hM => put_does (n := 4) (k := 1) hG.wf hh hM (by omega) (by omega)) (fun v css R G _ _ => upV_den css)) (QOk_body _ _ _) (by first | exact .inl rfl | exact .inr ⟨_, _, rfl, rfl⟩) ?_
    rintro _ ⟨_, css, _, GH1, ⟨w1, rfl, rfl⟩, hcs, hle, rfl⟩
    clear hcs hle
    obtain ⟨l1, hl1⟩ : ∃ X, X = l ++ numB 4 1 := ⟨_, rfl⟩
    rw [← hl1]
    have hn1 : l1.length = l.length + (numB 4 1).length := by rw [hl1, List.length_append]
    rw [numB_len] at hn1
    simp only [go_sem, simprocAttr]
    refine plain_ok (N := 3000) (callH_does ([0]) ([]) ([bytRow w1 l1]) ([]) (fun _ css R G => ∃ wv', css = [[wv']] ∧ R = [bytRow wv' (l1 ++ vrB r.ver)]) upV rfl rfl (by kernel_rfl) rfl (dk rfl) rfl rfl (by simp [ids, Diff]) (by simp) (fun G hG hh hM => wversion_does (x := r.ver) hG.wf hh hM (h.v.mono (hG.le G0 (by simp))) (by omega) (by omega) (by omega) (by omega)) (fun v css R G _ _ => upV_den css)) (QOk_body _ _ _) (by first | exact .inl rfl | exact .inr ⟨_, _, rfl, rfl⟩) ?_
    rintro _ ⟨_, css, _, GH2, ⟨w2, rfl, rfl⟩, hcs, hle, rfl⟩
    clear hcs hle
    obtain ⟨l2, hl2⟩ : ∃ X, X = l1 ++ vrB r.ver := ⟨_, rfl⟩
    rw [← hl2]
    have hn2 : l2.length = l1.length + (vrB r.ver).length := by rw [hl2, List.length_append]
    rw [vrq_len] at hn2
    simp only [go_sem, simprocAttr]
    refine fin_retH (G := G0) Tryd.results10 ?_
    simp only [go_sem, simprocAttr]
    intro aa w' _ _
    exact ⟨_, rfl, by rw [rcB_4 (hm.trans rfl), hl2, hl1]; simp only [List.append_assoc]⟩
  · simp only [go_sem, simprocAttr, show kdC (kd (5 : Int)) = [.bool true, .bool false, .bool false, .bool false, .bool false, .bool false, .bool false, .bool false, .bool false, .bool false, .bool false] from rfl]
    intro g2
    refine plain_ok (N := 3000) (callH_does ([0]) ([]) ([bytRow wv l]) ([]) (fun _ css R G => ∃ wv', css = [[wv']] ∧ R = [bytRow wv' (l ++ numB 5 1)]) upV rfl rfl (by kernel_rfl) rfl (dk rfl) rfl rfl (by simp [ids, Diff]) (by simp) (fun G hG hh hM => put_does (n := 5) (k := 1) hG.wf hh hM (by omega) (by omega)) (fun v css R G _ _ => upV_den css)) (QOk_body _ _ _) (by first | exact .inl rfl | exact .inr ⟨_, _, rfl, rfl⟩) ?_
    rintro _ ⟨_, css, _, GH1, ⟨w1, rfl, rfl⟩, hcs, hle, rfl⟩
    clear hcs hle
    obtain ⟨l1, hl1⟩ : ∃ X, X = l ++ numB 5 1 := ⟨_, rfl⟩
    rw [← hl1]
    have hn1 : l1.length = l.length + (numB 5 1).length := by rw [hl1, List.length_append]
    rw [numB_len] at hn1
    simp only [go_sem, simprocAttr]
    refine plain_ok (N := 3000) (callH_does ([0]) ([]) ([bytRow w1 l1]) ([]) (fun _ css R G => ∃ wv', css = [[wv']] ∧ R = [bytRow wv' (l1 ++ numB r.id 3)]) upV rfl rfl (by kernel_rfl) rfl (dk rfl) rfl rfl (by simp [ids, Diff]) (by simp) (fun G hG hh hM => put_does (n := r.id) (k := 3) hG.wf hh hM (by omega) (by omega)) (fun v css R G _ _ => upV_den css)) (QOk_body _ _ _) (by first | exact .inl rfl | exact .inr ⟨_, _, rfl, rfl⟩) ?_
    rintro _ ⟨_, css, _, GH2, ⟨w2, rfl, rfl⟩, hcs, hle, rfl⟩
    clear hcs hle
    obtain ⟨l2, hl2⟩ : ∃ X, X = l1 ++ numB r.id 3 := ⟨_, rfl⟩
    rw [← hl2]
    have hn2 : l2.length = l1.length + (numB r.id 3).length := by rw [hl2, List.length_append]
    rw [numB_len] at hn2
    simp only [go_sem, simprocAttr]
    refine fin_retH (G := G0) Tryd.results10 ?_
    simp only [go_sem, simprocAttr]
    intro aa w' _ _
    exact ⟨_, rfl, by rw [rcB_5 (hm.trans rfl), hl2, hl1]; simp only [List.append_assoc]⟩
  · simp only [go_sem, simprocAttr, show kdC (kd (6 : Int)) = [.bool true, .bool false, .bool false, .bool false, .bool false, .bool false, .bool false, .bool false, .bool false, .bool true, .bool true] from rfl]
    intro g2
    refine plain_ok (N := 3000) (callH_does ([0]) ([]) ([bytRow wv l]) ([]) (fun _ css R G => ∃ wv', css = [[wv']] ∧ R = [bytRow wv' (l ++ numB 6 1)]) upV rfl rfl (by kernel_rfl) rfl (dk rfl) rfl rfl (by simp [ids, Diff]) (by simp) (fun G hG hh hM => put_does (n := 6) (k := 1) hG.wf hh hM (by omega) (by omega)) (fun v css R G _ _ => upV_den css)) (QOk_body _ _ _) (by first | exact .inl rfl | exact .inr ⟨_, _, rfl, rfl⟩) ?_
    rintro _ ⟨_, css, _, GH1, ⟨w1, rfl, rfl⟩, hcs, hle, rfl⟩
    clear hcs hle
    obtain ⟨l1, hl1⟩ : ∃ X, X = l ++ numB 6 1 := ⟨_, rfl⟩
    rw [← hl1]
    have hn1 : l1.length = l.length + (numB 6 1).length := by rw [hl1, List.length_append]
    rw [numB_len] at hn1
    simp only [go_sem, simprocAttr]
    refine plain_ok (N := 3000) (callH_does ([0]) ([]) ([bytRow w1 l1]) ([]) (fun _ css R G => ∃ wv', css = [[wv']] ∧ R = [bytRow wv' (l1 ++ numB r.id 3)]) upV rfl rfl (by kernel_rfl) rfl (dk rfl) rfl rfl (by simp [ids, Diff]) (by simp) (fun G hG hh hM => put_does (n := r.id) (k := 3) hG.wf hh hM (by omega) (by omega)) (fun v css R G _ _ => upV_den css)) (QOk_body _ _ _) (by first | exact .inl rfl | exact .inr ⟨_, _, rfl, rfl⟩) ?_
    rintro _ ⟨_, css, _, GH2, ⟨w2, rfl, rfl⟩, hcs, hle, rfl⟩
    clear hcs hle
    obtain ⟨l2, hl2⟩ : ∃ X, X = l1 ++ numB r.id 3 := ⟨_, rfl⟩
    rw [← hl2]
    have hn2 : l2.length = l1.length + (numB r.id 3).length := by rw [hl2, List.length_append]
    rw [numB_len] at hn2
    simp only [go_sem, simprocAttr]
    refine plain_ok (N := 3000) (callH_does ([0]) ([]) ([bytRow w2 l2]) ([]) (fun _ css R G => ∃ wv', css = [[wv']] ∧ R = [bytRow wv' (l2 ++ numB r.vol 1)]) upV rfl rfl (by kernel_rfl) rfl (dk rfl) rfl rfl (by simp [ids, Diff]) (by simp) (fun G hG hh hM => put_does (n := r.vol) (k := 1) hG.wf hh hM (by omega) (by omega)) (fun v css R G _ _ => upV_den css)) (QOk_body _ _ _) (by first | exact .inl rfl | exact .inr ⟨_, _, rfl, rfl⟩) ?_
    rintro _ ⟨_, css, _, GH3, ⟨w3, rfl, rfl⟩, hcs, hle, rfl⟩
    clear hcs hle
    obtain ⟨l3, hl3⟩ : ∃ X, X = l2 ++ numB r.vol 1 := ⟨_, rfl⟩
    rw [← hl3]
    have hn3 : l3.length = l2.length + (numB r.vol 1).length := by rw [hl3, List.length_append]
    rw [numB_len] at hn3
    simp only [go_sem, simprocAttr]
    refine plain_ok (N := 3000) (callH_does ([0]) ([]) ([bytRow w3 l3]) ([]) (fun _ css R G => ∃ wv', css = [[wv']] ∧ R = [bytRow wv' (l3 ++ numB r.at_ 2)]) upV rfl rfl (by kernel_rfl) rfl (dk rfl) rfl rfl (by simp [ids, Diff]) (by simp) (fun G hG hh hM => put_does (n := r.at_) (k := 2) hG.wf hh hM (by omega) (by omega)) (fun v css R G _ _ => upV_den css)) (QOk_body _ _ _) (by first | exact .inl rfl | exact .inr ⟨_, _, rfl, rfl⟩) ?_
    rintro _ ⟨_, css, _, GH4, ⟨w4, rfl, rfl⟩, hcs, hle, rfl⟩
    clear hcs hle
    obtain ⟨l4, hl4⟩ : ∃ X, X = l3 ++ numB r.at_ 2 := ⟨_, rfl⟩
    rw [← hl4]
    have hn4 : l4.length = l3.length + (numB r.at_ 2).length := by rw [hl4, List.length_append]
    rw [numB_len] at hn4
    simp only [go_sem, simprocAttr]
    refine fin_retH (G := G0) Tryd.results10 ?_
    simp only [go_sem, simprocAttr]
    intro aa w' _ _
    exact ⟨_, rfl, by rw [rcB_6 (hm.trans rfl), hl4, hl3, hl2, hl1]; simp only [List.append_assoc]⟩
  · simp only [go_sem, simprocAttr, show kdC (kd (7 : Int)) = [.bool false, .bool false, .bool false, .bool false, .bool false, .bool false, .bool true, .bool false, .bool false, .bool false, .bool false] from rfl]
    intro g2
    refine plain_ok (N := 3000) (callH_does ([0]) ([]) ([bytRow wv l]) ([]) (fun _ css R G => ∃ wv', css = [[wv']] ∧ R = [bytRow wv' (l ++ numB 7 1)]) upV rfl rfl (by kernel_rfl) rfl (dk rfl) rfl rfl (by simp [ids, Diff]) (by simp) (fun G hG hh hM => put_does (n := 7) (k := 1) hG.wf hh hM (by omega) (by omega)) (fun v css R G _ _ => upV_den css)) (QOk_body _ _ _) (by first | exact .inl rfl | exact .inr ⟨_, _, rfl, rfl⟩) ?_
    rintro _ ⟨_, css, _, GH1, ⟨w1, rfl, rfl⟩, hcs, hle, rfl⟩
    clear hcs hle
    obtain ⟨l1, hl1⟩ : ∃ X, X = l ++ numB 7 1 := ⟨_, rfl⟩
    rw [← hl1]
    have hn1 : l1.length = l.length + (numB 7 1).length := by rw [hl1, List.length_append]
    rw [numB_len] at hn1
    simp only [go_sem, simprocAttr]
    refine plain_ok (N := 3000) (callH_does ([0]) ([]) ([bytRow w1 l1]) ([]) (fun _ css R G => ∃ wv', css = [[wv']] ∧ R = [bytRow wv' (l1 ++ akB r.ask)]) upV rfl rfl (by kernel_rfl) rfl (dk rfl) rfl rfl (by simp [ids, Diff]) (by simp) (fun G hG hh hM => wask_does (x := r.ask) hG.wf hh hM (by omega)) (fun v css R G _ _ => upV_den css)) (QOk_body _ _ _) (by first | exact .inl rfl | exact .inr ⟨_, _, rfl, rfl⟩) ?_
    rintro _ ⟨_, css, _, GH2, ⟨w2, rfl, rfl⟩, hcs, hle, rfl⟩
    clear hcs hle
    obtain ⟨l2, hl2⟩ : ∃ X, X = l1 ++ akB r.ask := ⟨_, rfl⟩
    rw [← hl2]
    have hn2 : l2.length = l1.length + (akB r.ask).length := by rw [hl2, List.length_append]
    rw [akq_len] at hn2
    simp only [go_sem, simprocAttr]
    refine fin_retH (G := G0) Tryd.results10 ?_
    simp only [go_sem, simprocAttr]
    intro aa w' _ _
    exact ⟨_, rfl, by rw [rcB_7 (hm.trans rfl), hl2, hl1]; simp only [List.append_assoc]⟩
  · simp only [go_sem, simprocAttr, show kdC (kd (8 : Int)) = [.bool true, .bool true, .bool false, .bool false, .bool false, .bool false, .bool false, .bool false, .bool true, .bool false, .bool false] from rfl]
    intro g2
    refine plain_ok (N := 3000) (callH_does ([0]) ([]) ([bytRow wv l]) ([]) (fun _ css R G => ∃ wv', css = [[wv']] ∧ R = [bytRow wv' (l ++ numB 8 1)]) upV rfl rfl (by kernel_rfl) rfl (dk rfl) rfl rfl (by simp [ids, Diff]) (by simp) (fun G hG hh hM => put_does (n := 8) (k := 1) hG.wf hh hM (by omega) (by omega)) (fun v css R G _ _ => upV_den css)) (QOk_body _ _ _) (by first | exact .inl rfl | exact .inr ⟨_, _, rfl, rfl⟩) ?_
    rintro _ ⟨_, css, _, GH1, ⟨w1, rfl, rfl⟩, hcs, hle, rfl⟩
    clear hcs hle
    obtain ⟨l1, hl1⟩ : ∃ X, X = l ++ numB 8 1 := ⟨_, rfl⟩
    rw [← hl1]
    have hn1 : l1.length = l.length + (numB 8 1).length := by rw [hl1, List.length_append]
    rw [numB_len] at hn1
    simp only [go_sem, simprocAttr]
    refine plain_ok (N := 3000) (callH_does ([0]) ([]) ([bytRow w1 l1]) ([]) (fun _ css R G => ∃ wv', css = [[wv']] ∧ R = [bytRow wv' (l1 ++ numB r.id 3)]) upV rfl rfl (by kernel_rfl) rfl (dk rfl) rfl rfl (by simp [ids, Diff]) (by simp) (fun G hG hh hM => put_does (n := r.id) (k := 3) hG.wf hh hM (by omega) (by omega)) (fun v css R G _ _ => upV_den css)) (QOk_body _ _ _) (by first | exact .inl rfl | exact .inr ⟨_, _, rfl, rfl⟩) ?_
    rintro _ ⟨_, css, _, GH2, ⟨w2, rfl, rfl⟩, hcs, hle, rfl⟩
    clear hcs hle
    obtain ⟨l2, hl2⟩ : ∃ X, X = l1 ++ numB r.id 3 := ⟨_, rfl⟩
    rw [← hl2]
    have hn2 : l2.length = l1.length + (numB r.id 3).length := by rw [hl2, List.length_append]
    rw [numB_len] at hn2
    simp only [go_sem, simprocAttr]
    refine plain_ok (N := 3000) (callH_does ([0]) ([]) ([bytRow w2 l2]) ([]) (fun _ css R G => ∃ wv', css = [[wv']] ∧ R = [bytRow wv' (l2 ++ numB r.n 4)]) upV rfl rfl (by kernel_rfl) rfl (dk rfl) rfl rfl (by simp [ids, Diff]) (by simp) (fun G hG hh hM => put_does (n := r.n) (k := 4) hG.wf hh hM (by omega) (by omega)) (fun v css R G _ _ => upV_den css)) (QOk_body _ _ _) (by first | exact .inl rfl | exact .inr ⟨_, _, rfl, rfl⟩) ?_
    rintro _ ⟨_, css, _, GH3, ⟨w3, rfl, rfl⟩, hcs, hle, rfl⟩
    clear hcs hle
    obtain ⟨l3, hl3⟩ : ∃ X, X = l2 ++ numB r.n 4 := ⟨_, rfl⟩
    rw [← hl3]
    have hn3 : l3.length = l2.length + (numB r.n 4).length := by rw [hl3, List.length_append]
    rw [numB_len] at hn3
    simp only [go_sem, simprocAttr]
    refine plain_ok (N := 3000) (callH_does ([0]) ([]) ([bytRow w3 l3]) ([]) (fun _ css R G => ∃ wv', css = [[wv']] ∧ R = [bytRow wv' (l3 ++ itB r.secs)]) upV rfl rfl (by kernel_rfl) rfl (dk rfl) rfl rfl (by simp [ids, Diff]) (by simp) (fun G hG hh hM => wints_does (il := r.secs) hG.wf hh hM (h.s.mono (hG.le G0 (by simp))) (by omega) (by omega)) (fun v css R G _ _ => upV_den css)) (QOk_body _ _ _) (by first | exact .inl rfl | exact .inr ⟨_, _, rfl, rfl⟩) ?_
    rintro _ ⟨_, css, _, GH4, ⟨w4, rfl, rfl⟩, hcs, hle, rfl⟩
    clear hcs hle
    obtain ⟨l4, hl4⟩ : ∃ X, X = l3 ++ itB r.secs := ⟨_, rfl⟩
    rw [← hl4]
    have hn4 : l4.length = l3.length + (itB r.secs).length := by rw [hl4, List.length_append]
    rw [itB_len] at hn4
    simp only [go_sem, simprocAttr]
    refine fin_retH (G := G0) Tryd.results10 ?_
    simp only [go_sem, simprocAttr]
    intro aa w' _ _
    exact ⟨_, rfl, by rw [rcB_8 (hm.trans rfl), hl4, hl3, hl2, hl1]; simp only [List.append_assoc]⟩
  · simp only [go_sem, simprocAttr, show kdC (kd (9 : Int)) = [.bool true, .bool false, .bool false, .bool false, .bool false, .bool false, .bool false, .bool false, .bool false, .bool false, .bool false] from rfl]
    intro g2
    refine plain_ok (N := 3000) (callH_does ([0]) ([]) ([bytRow wv l]) ([]) (fun _ css R G => ∃ wv', css = [[wv']] ∧ R = [bytRow wv' (l ++ numB 9 1)]) upV rfl rfl (by kernel_rfl) rfl (dk rfl) rfl rfl (by simp [ids, Diff]) (by simp) (fun G hG hh hM => put_does (n := 9) (k := 1) hG.wf hh hM (by omega) (by omega)) (fun v css R G _ _ => upV_den css)) (QOk_body _ _ _) (by first | exact .inl rfl | exact .inr ⟨_, _, rfl, rfl⟩) ?_
    rintro _ ⟨_, css, _, GH1, ⟨w1, rfl, rfl⟩, hcs, hle, rfl⟩
    clear hcs hle
    obtain ⟨l1, hl1⟩ : ∃ X, X = l ++ numB 9 1 := ⟨_, rfl⟩
    rw [← hl1]
    have hn1 : l1.length = l.length + (numB 9 1).length := by rw [hl1, List.length_append]
    rw [numB_len] at hn1
    simp only [go_sem, simprocAttr]
    refine plain_ok (N := 3000) (callH_does ([0]) ([]) ([bytRow w1 l1]) ([]) (fun _ css R G => ∃ wv', css = [[wv']] ∧ R = [bytRow wv' (l1 ++ numB r.id 3)]) upV rfl rfl (by kernel_rfl) rfl (dk rfl) rfl rfl (by simp [ids, Diff]) (by simp) (fun G hG hh hM => put_does (n := r.id) (k := 3) hG.wf hh hM (by omega) (by omega)) (fun v css R G _ _ => upV_den css)) (QOk_body _ _ _) (by first | exact .inl rfl | exact .inr ⟨_, _, rfl, rfl⟩) ?_
    rintro _ ⟨_, css, _, GH2, ⟨w2, rfl, rfl⟩, hcs, hle, rfl⟩
    clear hcs hle
    obtain ⟨l2, hl2⟩ : ∃ X, X = l1 ++ numB r.id 3 := ⟨_, rfl⟩
    rw [← hl2]
    have hn2 : l2.length = l1.length + (numB r.id 3).length := by rw [hl2, List.length_append]
    rw [numB_len] at hn2
    simp only [go_sem, simprocAttr]
    refine fin_retH (G := G0) Tryd.results10 ?_
    simp only [go_sem, simprocAttr]
    intro aa w' _ _
    exact ⟨_, rfl, by rw [rcB_9 (hm.trans rfl), hl2, hl1]; simp only [List.append_assoc]⟩
  · simp only [go_sem, simprocAttr, show kdC (kd (10 : Int)) = [.bool true, .bool false, .bool true, .bool true, .bool false, .bool false, .bool false, .bool false, .bool false, .bool false, .bool false] from rfl]
    intro g2
    refine plain_ok (N := 3000) (callH_does ([0]) ([]) ([bytRow wv l]) ([]) (fun _ css R G => ∃ wv', css = [[wv']] ∧ R = [bytRow wv' (l ++ numB 10 1)]) upV rfl rfl (by kernel_rfl) rfl (dk rfl) rfl rfl (by simp [ids, Diff]) (by simp) (fun G hG hh hM => put_does (n := 10) (k := 1) hG.wf hh hM (by omega) (by omega)) (fun v css R G _ _ => upV_den css)) (QOk_body _ _ _) (by first | exact .inl rfl | exact .inr ⟨_, _, rfl, rfl⟩) ?_
    rintro _ ⟨_, css, _, GH1, ⟨w1, rfl, rfl⟩, hcs, hle, rfl⟩
    clear hcs hle
    obtain ⟨l1, hl1⟩ : ∃ X, X = l ++ numB 10 1 := ⟨_, rfl⟩
    rw [← hl1]
    have hn1 : l1.length = l.length + (numB 10 1).length := by rw [hl1, List.length_append]
    rw [numB_len] at hn1
    simp only [go_sem, simprocAttr]
    refine plain_ok (N := 3000) (callH_does ([0]) ([]) ([bytRow w1 l1]) ([]) (fun _ css R G => ∃ wv', css = [[wv']] ∧ R = [bytRow wv' (l1 ++ numB r.id 3)]) upV rfl rfl (by kernel_rfl) rfl (dk rfl) rfl rfl (by simp [ids, Diff]) (by simp) (fun G hG hh hM => put_does (n := r.id) (k := 3) hG.wf hh hM (by omega) (by omega)) (fun v css R G _ _ => upV_den css)) (QOk_body _ _ _) (by first | exact .inl rfl | exact .inr ⟨_, _, rfl, rfl⟩) ?_
    rintro _ ⟨_, css, _, GH2, ⟨w2, rfl, rfl⟩, hcs, hle, rfl⟩
    clear hcs hle
    obtain ⟨l2, hl2⟩ : ∃ X, X = l1 ++ numB r.id 3 := ⟨_, rfl⟩
    rw [← hl2]
    have hn2 : l2.length = l1.length + (numB r.id 3).length := by rw [hl2, List.length_append]
    rw [numB_len] at hn2
    simp only [go_sem, simprocAttr]
    refine plain_ok (N := 3000) (callH_does ([0]) ([]) ([bytRow w2 l2]) ([]) (fun _ css R G => ∃ wv', css = [[wv']] ∧ R = [bytRow wv' (l2 ++ txB r.name)]) upV rfl rfl (by kernel_rfl) rfl (dk rfl) rfl rfl (by simp [ids, Diff]) (by simp) (fun G hG hh hM => wtext_does (t := r.name) hG.wf hh hM (by omega) (by omega)) (fun v css R G _ _ => upV_den css)) (QOk_body _ _ _) (by first | exact .inl rfl | exact .inr ⟨_, _, rfl, rfl⟩) ?_
    rintro _ ⟨_, css, _, GH3, ⟨w3, rfl, rfl⟩, hcs, hle, rfl⟩
    clear hcs hle
    obtain ⟨l3, hl3⟩ : ∃ X, X = l2 ++ txB r.name := ⟨_, rfl⟩
    rw [← hl3]
    have hn3 : l3.length = l2.length + (txB r.name).length := by rw [hl3, List.length_append]
    rw [txB_len] at hn3
    simp only [go_sem, simprocAttr]
    refine plain_ok (N := 3000) (callH_does ([0]) ([]) ([bytRow w3 l3]) ([]) (fun _ css R G => ∃ wv', css = [[wv']] ∧ R = [bytRow wv' (l3 ++ txB r.key)]) upV rfl rfl (by kernel_rfl) rfl (dk rfl) rfl rfl (by simp [ids, Diff]) (by simp) (fun G hG hh hM => wtext_does (t := r.key) hG.wf hh hM (by omega) (by omega)) (fun v css R G _ _ => upV_den css)) (QOk_body _ _ _) (by first | exact .inl rfl | exact .inr ⟨_, _, rfl, rfl⟩) ?_
    rintro _ ⟨_, css, _, GH4, ⟨w4, rfl, rfl⟩, hcs, hle, rfl⟩
    clear hcs hle
    obtain ⟨l4, hl4⟩ : ∃ X, X = l3 ++ txB r.key := ⟨_, rfl⟩
    rw [← hl4]
    have hn4 : l4.length = l3.length + (txB r.key).length := by rw [hl4, List.length_append]
    rw [txB_len] at hn4
    simp only [go_sem, simprocAttr]
    refine fin_retH (G := G0) Tryd.results10 ?_
    simp only [go_sem, simprocAttr]
    intro aa w' _ _
    exact ⟨_, rfl, by rw [rcB_10 (hm.trans rfl), hl4, hl3, hl2, hl1]; simp only [List.append_assoc]⟩
  · simp only [go_sem, simprocAttr, show kdC (kd (11 : Int)) = [.bool true, .bool false, .bool false, .bool false, .bool false, .bool false, .bool false, .bool true, .bool false, .bool false, .bool false] from rfl]
    intro g2
    refine plain_ok (N := 3000) (callH_does ([0]) ([]) ([bytRow wv l]) ([]) (fun _ css R G => ∃ wv', css = [[wv']] ∧ R = [bytRow wv' (l ++ numB 11 1)]) upV rfl rfl (by kernel_rfl) rfl (dk rfl) rfl rfl (by simp [ids, Diff]) (by simp) (fun G hG hh hM => put_does (n := 11) (k := 1) hG.wf hh hM (by omega) (by omega)) (fun v css R G _ _ => upV_den css)) (QOk_body _ _ _) (by first | exact .inl rfl | exact .inr ⟨_, _, rfl, rfl⟩) ?_
    rintro _ ⟨_, css, _, GH1, ⟨w1, rfl, rfl⟩, hcs, hle, rfl⟩
    clear hcs hle
    obtain ⟨l1, hl1⟩ : ∃ X, X = l ++ numB 11 1 := ⟨_, rfl⟩
    rw [← hl1]
    have hn1 : l1.length = l.length + (numB 11 1).length := by rw [hl1, List.length_append]
    rw [numB_len] at hn1
    simp only [go_sem, simprocAttr]
    refine plain_ok (N := 3000) (callH_does ([0]) ([]) ([bytRow w1 l1]) ([]) (fun _ css R G => ∃ wv', css = [[wv']] ∧ R = [bytRow wv' (l1 ++ numB r.id 3)]) upV rfl rfl (by kernel_rfl) rfl (dk rfl) rfl rfl (by simp [ids, Diff]) (by simp) (fun G hG hh hM => put_does (n := r.id) (k := 3) hG.wf hh hM (by omega) (by omega)) (fun v css R G _ _ => upV_den css)) (QOk_body _ _ _) (by first | exact .inl rfl | exact .inr ⟨_, _, rfl, rfl⟩) ?_
    rintro _ ⟨_, css, _, GH2, ⟨w2, rfl, rfl⟩, hcs, hle, rfl⟩
    clear hcs hle
    obtain ⟨l2, hl2⟩ : ∃ X, X = l1 ++ numB r.id 3 := ⟨_, rfl⟩
    rw [← hl2]
    have hn2 : l2.length = l1.length + (numB r.id 3).length := by rw [hl2, List.length_append]
    rw [numB_len] at hn2
    simp only [go_sem, simprocAttr]
    refine plain_ok (N := 3000) (callH_does ([0]) ([]) ([bytRow w2 l2]) ([]) (fun _ css R G => ∃ wv', css = [[wv']] ∧ R = [bytRow wv' (l2 ++ ptB r.part)]) upV rfl rfl (by kernel_rfl) rfl (dk rfl) rfl rfl (by simp [ids, Diff]) (by simp) (fun G hG hh hM => wpart_does (x := r.part) hG.wf hh hM (h.p.mono (hG.le G0 (by simp))) (by omega) (by omega)) (fun v css R G _ _ => upV_den css)) (QOk_body _ _ _) (by first | exact .inl rfl | exact .inr ⟨_, _, rfl, rfl⟩) ?_
    rintro _ ⟨_, css, _, GH3, ⟨w3, rfl, rfl⟩, hcs, hle, rfl⟩
    clear hcs hle
    obtain ⟨l3, hl3⟩ : ∃ X, X = l2 ++ ptB r.part := ⟨_, rfl⟩
    rw [← hl3]
    have hn3 : l3.length = l2.length + (ptB r.part).length := by rw [hl3, List.length_append]
    rw [ptq_len] at hn3
    simp only [go_sem, simprocAttr]
    refine fin_retH (G := G0) Tryd.results10 ?_
    simp only [go_sem, simprocAttr]
    intro aa w' _ _
    exact ⟨_, rfl, by rw [rcB_11 (hm.trans rfl), hl3, hl2, hl1]; simp only [List.append_assoc]⟩
  · simp only [go_sem, simprocAttr, show kdC (kd (12 : Int)) = [.bool true, .bool false, .bool false, .bool false, .bool false, .bool false, .bool false, .bool false, .bool false, .bool false, .bool false] from rfl]
    intro g2
    refine plain_ok (N := 3000) (callH_does ([0]) ([]) ([bytRow wv l]) ([]) (fun _ css R G => ∃ wv', css = [[wv']] ∧ R = [bytRow wv' (l ++ numB 12 1)]) upV rfl rfl (by kernel_rfl) rfl (dk rfl) rfl rfl (by simp [ids, Diff]) (by simp) (fun G hG hh hM => put_does (n := 12) (k := 1) hG.wf hh hM (by omega) (by omega)) (fun v css R G _ _ => upV_den css)) (QOk_body _ _ _) (by first | exact .inl rfl | exact .inr ⟨_, _, rfl, rfl⟩) ?_
    rintro _ ⟨_, css, _, GH1, ⟨w1, rfl, rfl⟩, hcs, hle, rfl⟩
    clear hcs hle
    obtain ⟨l1, hl1⟩ : ∃ X, X = l ++ numB 12 1 := ⟨_, rfl⟩
    rw [← hl1]
    have hn1 : l1.length = l.length + (numB 12 1).length := by rw [hl1, List.length_append]
    rw [numB_len] at hn1
    simp only [go_sem, simprocAttr]
    refine plain_ok (N := 3000) (callH_does ([0]) ([]) ([bytRow w1 l1]) ([]) (fun _ css R G => ∃ wv', css = [[wv']] ∧ R = [bytRow wv' (l1 ++ numB r.id 3)]) upV rfl rfl (by kernel_rfl) rfl (dk rfl) rfl rfl (by simp [ids, Diff]) (by simp) (fun G hG hh hM => put_does (n := r.id) (k := 3) hG.wf hh hM (by omega) (by omega)) (fun v css R G _ _ => upV_den css)) (QOk_body _ _ _) (by first | exact .inl rfl | exact .inr ⟨_, _, rfl, rfl⟩) ?_
    rintro _ ⟨_, css, _, GH2, ⟨w2, rfl, rfl⟩, hcs, hle, rfl⟩
    clear hcs hle
    obtain ⟨l2, hl2⟩ : ∃ X, X = l1 ++ numB r.id 3 := ⟨_, rfl⟩
    rw [← hl2]
    have hn2 : l2.length = l1.length + (numB r.id 3).length := by rw [hl2, List.length_append]
    rw [numB_len] at hn2
    simp only [go_sem, simprocAttr]
    refine fin_retH (G := G0) Tryd.results10 ?_
    simp only [go_sem, simprocAttr]
    intro aa w' _ _
    exact ⟨_, rfl, by rw [rcB_12 (hm.trans rfl), hl2, hl1]; simp only [List.append_assoc]⟩
  · simp only [go_sem, simprocAttr, show kdC (kd (13 : Int)) = [.bool false, .bool true, .bool false, .bool false, .bool false, .bool false, .bool false, .bool false, .bool false, .bool false, .bool false] from rfl]
    intro g2
    refine plain_ok (N := 3000) (callH_does ([0]) ([]) ([bytRow wv l]) ([]) (fun _ css R G => ∃ wv', css = [[wv']] ∧ R = [bytRow wv' (l ++ numB 13 1)]) upV rfl rfl (by kernel_rfl) rfl (dk rfl) rfl rfl (by simp [ids, Diff]) (by simp) (fun G hG hh hM => put_does (n := 13) (k := 1) hG.wf hh hM (by omega) (by omega)) (fun v css R G _ _ => upV_den css)) (QOk_body _ _ _) (by first | exact .inl rfl | exact .inr ⟨_, _, rfl, rfl⟩) ?_
    rintro _ ⟨_, css, _, GH1, ⟨w1, rfl, rfl⟩, hcs, hle, rfl⟩
    clear hcs hle
    obtain ⟨l1, hl1⟩ : ∃ X, X = l ++ numB 13 1 := ⟨_, rfl⟩
    rw [← hl1]
    have hn1 : l1.length = l.length + (numB 13 1).length := by rw [hl1, List.length_append]
    rw [numB_len] at hn1
    simp only [go_sem, simprocAttr]
    refine plain_ok (N := 3000) (callH_does ([0]) ([]) ([bytRow w1 l1]) ([]) (fun _ css R G => ∃ wv', css = [[wv']] ∧ R = [bytRow wv' (l1 ++ numB r.n 4)]) upV rfl rfl (by kernel_rfl) rfl (dk rfl) rfl rfl (by simp [ids, Diff]) (by simp) (fun G hG hh hM => put_does (n := r.n) (k := 4) hG.wf hh hM (by omega) (by omega)) (fun v css R G _ _ => upV_den css)) (QOk_body _ _ _) (by first | exact .inl rfl | exact .inr ⟨_, _, rfl, rfl⟩) ?_
    rintro _ ⟨_, css, _, GH2, ⟨w2, rfl, rfl⟩, hcs, hle, rfl⟩
    clear hcs hle
    obtain ⟨l2, hl2⟩ : ∃ X, X = l1 ++ numB r.n 4 := ⟨_, rfl⟩
    rw [← hl2]
    have hn2 : l2.length = l1.length + (numB r.n 4).length := by rw [hl2, List.length_append]
    rw [numB_len] at hn2
    simp only [go_sem, simprocAttr]
    refine fin_retH (G := G0) Tryd.results10 ?_
    simp only [go_sem, simprocAttr]
    intro aa w' _ _
    exact ⟨_, rfl, by rw [rcB_13 (hm.trans rfl), hl2, hl1]; simp only [List.append_assoc]⟩
  · simp only [go_sem, simprocAttr, show kdC (kd (14 : Int)) = [.bool false, .bool false, .bool false, .bool false, .bool false, .bool false, .bool false, .bool false, .bool false, .bool true, .bool false] from rfl]
    intro g2
    refine plain_ok (N := 3000) (callH_does ([0]) ([]) ([bytRow wv l]) ([]) (fun _ css R G => ∃ wv', css = [[wv']] ∧ R = [bytRow wv' (l ++ numB 14 1)]) upV rfl rfl (by kernel_rfl) rfl (dk rfl) rfl rfl (by simp [ids, Diff]) (by simp) (fun G hG hh hM => put_does (n := 14) (k := 1) hG.wf hh hM (by omega) (by omega)) (fun v css R G _ _ => upV_den css)) (QOk_body _ _ _) (by first | exact .inl rfl | exact .inr ⟨_, _, rfl, rfl⟩) ?_
    rintro _ ⟨_, css, _, GH1, ⟨w1, rfl, rfl⟩, hcs, hle, rfl⟩
    clear hcs hle
    obtain ⟨l1, hl1⟩ : ∃ X, X = l ++ numB 14 1 := ⟨_, rfl⟩
    rw [← hl1]
    have hn1 : l1.length = l.length + (numB 14 1).length := by rw [hl1, List.length_append]
    rw [numB_len] at hn1
    simp only [go_sem, simprocAttr]
    refine plain_ok (N := 3000) (callH_does ([0]) ([]) ([bytRow w1 l1]) ([]) (fun _ css R G => ∃ wv', css = [[wv']] ∧ R = [bytRow wv' (l1 ++ numB r.vol 1)]) upV rfl rfl (by kernel_rfl) rfl (dk rfl) rfl rfl (by simp [ids, Diff]) (by simp) (fun G hG hh hM => put_does (n := r.vol) (k := 1) hG.wf hh hM (by omega) (by omega)) (fun v css R G _ _ => upV_den css)) (QOk_body _ _ _) (by first | exact .inl rfl | exact .inr ⟨_, _, rfl, rfl⟩) ?_
    rintro _ ⟨_, css, _, GH2, ⟨w2, rfl, rfl⟩, hcs, hle, rfl⟩
    clear hcs hle
    obtain ⟨l2, hl2⟩ : ∃ X, X = l1 ++ numB r.vol 1 := ⟨_, rfl⟩
    rw [← hl2]
    have hn2 : l2.length = l1.length + (numB r.vol 1).length := by rw [hl2, List.length_append]
    rw [numB_len] at hn2
    simp only [go_sem, simprocAttr]
    refine fin_retH (G := G0) Tryd.results10 ?_
    simp only [go_sem, simprocAttr]
    intro aa w' _ _
    exact ⟨_, rfl, by rw [rcB_14 (hm.trans rfl), hl2, hl1]; simp only [List.append_assoc]⟩
end Go.Proofs.YtohdfcnjcpjdcaaDoor
