/- The writer of a record. Conditions: as each law states them. -/
import Derived.Test.YtohdfcnjcpjdcaaGreatDoorQAq
namespace Go.Proofs.YtohdfcnjcpjdcaaGreatDoor
open Go.RowKit
set_option linter.unusedSimpArgs false
theorem ruq_len (x : Rul) : (ruB x).length = x.pre.size + 9 := by simp only [ruB, List.length_append, numB_len, txB_len]; omega
theorem ptq_len (x : Prt) : (ptB x).length = x.secs.length + 4 := by simp only [ptB, List.length_append, numB_len, itB_len]; omega
theorem akq_len (x : Ask) : (akB x).length = 6 := by simp only [akB, List.length_append, numB_len]
theorem vrq_len (x : Ver) : (vrB x).length = x.bucket.size + x.key.size + x.secs.length + 22 := by simp only [vrB, List.length_append, numB_len, txB_len, btB_len, itB_len]; omega
theorem rcB_1 {r : Rec} (h : r.kind = 1) : rcB r = numB 1 1 ++ (txB r.name) := by
 unfold rcB tlB
 rw [h]
 show numB 1 1 ++ ([] ++ (txB r.name ++ ([] ++ ([] ++ ([] ++ ([] ++ ([] ++ ([] ++ ([] ++ ([] ++ ([]))))))))))) = _
 simp only [List.nil_append, List.append_nil]
theorem rcB_2 {r : Rec} (h : r.kind = 2) : rcB r = numB 2 1 ++ (txB r.name ++ (numB r.n 4)) := by
 unfold rcB tlB
 rw [h]
 show numB 2 1 ++ ([] ++ (txB r.name ++ ([] ++ (numB r.n 4 ++ ([] ++ ([] ++ ([] ++ ([] ++ ([] ++ ([] ++ ([]))))))))))) = _
 simp only [List.nil_append, List.append_nil]
theorem rcB_3 {r : Rec} (h : r.kind = 3) : rcB r = numB 3 1 ++ (txB r.name ++ (ruB r.rule)) := by
 unfold rcB tlB
 rw [h]
 show numB 3 1 ++ ([] ++ (txB r.name ++ ([] ++ ([] ++ (ruB r.rule ++ ([] ++ ([] ++ ([] ++ ([] ++ ([] ++ ([]))))))))))) = _
 simp only [List.nil_append, List.append_nil]
theorem rcB_4 {r : Rec} (h : r.kind = 4) : rcB r = numB 4 1 ++ (vrB r.ver) := by
 unfold rcB tlB
 rw [h]
 show numB 4 1 ++ ([] ++ ([] ++ ([] ++ ([] ++ ([] ++ (vrB r.ver ++ ([] ++ ([] ++ ([] ++ ([] ++ ([]))))))))))) = _
 simp only [List.nil_append, List.append_nil]
theorem rcB_5 {r : Rec} (h : r.kind = 5) : rcB r = numB 5 1 ++ (numB r.id 3) := by
 unfold rcB tlB
 rw [h]
 show numB 5 1 ++ (numB r.id 3 ++ ([] ++ ([] ++ ([] ++ ([] ++ ([] ++ ([] ++ ([] ++ ([] ++ ([] ++ ([]))))))))))) = _
 simp only [List.nil_append, List.append_nil]
theorem rcB_6 {r : Rec} (h : r.kind = 6) : rcB r = numB 6 1 ++ (numB r.id 3 ++ (numB r.vol 1 ++ (numB r.at_ 2))) := by
 unfold rcB tlB
 rw [h]
 show numB 6 1 ++ (numB r.id 3 ++ ([] ++ ([] ++ ([] ++ ([] ++ ([] ++ ([] ++ ([] ++ ([] ++ (numB r.vol 1 ++ (numB r.at_ 2))))))))))) = _
 simp only [List.nil_append, List.append_nil]
theorem rcB_7 {r : Rec} (h : r.kind = 7) : rcB r = numB 7 1 ++ (akB r.ask) := by
 unfold rcB tlB
 rw [h]
 show numB 7 1 ++ ([] ++ ([] ++ ([] ++ ([] ++ ([] ++ ([] ++ (akB r.ask ++ ([] ++ ([] ++ ([] ++ ([]))))))))))) = _
 simp only [List.nil_append, List.append_nil]
theorem rcB_8 {r : Rec} (h : r.kind = 8) : rcB r = numB 8 1 ++ (numB r.id 3 ++ (numB r.n 4 ++ (itB r.secs))) := by
 unfold rcB tlB
 rw [h]
 show numB 8 1 ++ (numB r.id 3 ++ ([] ++ ([] ++ (numB r.n 4 ++ ([] ++ ([] ++ ([] ++ ([] ++ (itB r.secs ++ ([] ++ ([]))))))))))) = _
 simp only [List.nil_append, List.append_nil]
theorem rcB_9 {r : Rec} (h : r.kind = 9) : rcB r = numB 9 1 ++ (numB r.id 3) := by
 unfold rcB tlB
 rw [h]
 show numB 9 1 ++ (numB r.id 3 ++ ([] ++ ([] ++ ([] ++ ([] ++ ([] ++ ([] ++ ([] ++ ([] ++ ([] ++ ([]))))))))))) = _
 simp only [List.nil_append, List.append_nil]
theorem rcB_10 {r : Rec} (h : r.kind = 10) : rcB r = numB 10 1 ++ (numB r.id 3 ++ (txB r.name ++ (txB r.key))) := by
 unfold rcB tlB
 rw [h]
 show numB 10 1 ++ (numB r.id 3 ++ (txB r.name ++ (txB r.key ++ ([] ++ ([] ++ ([] ++ ([] ++ ([] ++ ([] ++ ([] ++ ([]))))))))))) = _
 simp only [List.nil_append, List.append_nil]
theorem rcB_11 {r : Rec} (h : r.kind = 11) : rcB r = numB 11 1 ++ (numB r.id 3 ++ (ptB r.part)) := by
 unfold rcB tlB
 rw [h]
 show numB 11 1 ++ (numB r.id 3 ++ ([] ++ ([] ++ ([] ++ ([] ++ ([] ++ ([] ++ (ptB r.part ++ ([] ++ ([] ++ ([]))))))))))) = _
 simp only [List.nil_append, List.append_nil]
theorem rcB_12 {r : Rec} (h : r.kind = 12) : rcB r = numB 12 1 ++ (numB r.id 3) := by
 unfold rcB tlB
 rw [h]
 show numB 12 1 ++ (numB r.id 3 ++ ([] ++ ([] ++ ([] ++ ([] ++ ([] ++ ([] ++ ([] ++ ([] ++ ([] ++ ([]))))))))))) = _
 simp only [List.nil_append, List.append_nil]
theorem rcB_13 {r : Rec} (h : r.kind = 13) : rcB r = numB 13 1 ++ (numB r.n 4) := by
 unfold rcB tlB
 rw [h]
 show numB 13 1 ++ ([] ++ ([] ++ ([] ++ (numB r.n 4 ++ ([] ++ ([] ++ ([] ++ ([] ++ ([] ++ ([] ++ ([]))))))))))) = _
 simp only [List.nil_append, List.append_nil]
theorem rcB_14 {r : Rec} (h : r.kind = 14) : rcB r = numB 14 1 ++ (numB r.vol 1) := by
 unfold rcB tlB
 rw [h]
 show numB 14 1 ++ ([] ++ ([] ++ ([] ++ ([] ++ ([] ++ ([] ++ ([] ++ ([] ++ ([] ++ (numB r.vol 1 ++ ([]))))))))))) = _
 simp only [List.nil_append, List.append_nil]
set_option maxRecDepth 100000 in
set_option maxHeartbeats 64000000 in
theorem wrecord_does {g : Nat} {r : Rec} {vs ps ss wv : Value} {l : List UInt8} {G0 : GW} (hW : G0.Wf) (hh : HandsOk G0.w ⟨[⟨g, 62, [wv]⟩], [bytRow wv l]⟩) (hM : ∀ k, Hands.A ⟨[⟨g, 62, [wv]⟩], [bytRow wv l]⟩ k → G0.M k) (h : RxG G0 r vs ps ss) (hK : KindsG G0) (hF : Fits r) (hk : 1 ≤ r.kind ∧ r.kind ≤ 14) (hl : l.length ≤ 6000000) :
  Calls Tryz.prog 15 #[.pointer (some ⟨g, 0, none⟩), .agg (recV r vs ps ss).toArray] G0.w (RetH G0 ⟨[⟨g, 62, [wv]⟩], [bytRow wv l]⟩ fun _ css R G => ∃ wv', css = [[wv']] ∧ R = [bytRow wv' (l ++ rcB r)]) := by
 obtain ⟨A, c, rfl, hc1, hc2⟩ := Sq.form h.v
 obtain ⟨B, d, rfl, hd1, hd2⟩ := Sq.form h.p
 obtain ⟨C, e, rfl, he1, he2⟩ := Sq.form h.s
 have hml := max_le
 obtain ⟨f1, f2, f3, f4, ⟨g1, g2, g3⟩, ⟨v1, v2, v3, _, _, v4, v5, v6, ⟨v7, _⟩, v8, v9, v10⟩, ⟨a1, a2, a3⟩, ⟨p1, p2, ⟨p3, _⟩⟩, ⟨f9, _⟩, f10, f11⟩ := hF
 obtain ⟨m, hm⟩ : ∃ m : Nat, r.kind = (m : Int) := ⟨r.kind.toNat, by omega⟩
 refine enterH (n := 79) 3000 ([.c (.p 0 g 0), .c (.v (.agg (recV r (.slice A r.ver.secs.length c) (.slice B r.part.secs.length d) (.slice C r.secs.length e)).toArray))]) ([⟨0, g, 62, [.v wv]⟩]) rfl hW hh hM Tryz.func15 rfl Tryz.ntmps15 (by simp) ?_
 simp only [go_sem, simprocAttr, recV, hm]
 intro gb
 refine pk (globElem_does (m := m) (cs := kdC (kd (m : Int))) rfl Tryz.underlying93 tySize92 rfl (dk rfl) rfl (by omega) (by decide) (fun G hG => kinds_at (BlkG.mono hK (hG.le G0 (by simp))) (by omega))) ?_
 rintro _ ⟨GK, rfl⟩
 have hm14 : m = 1 ∨ m = 2 ∨ m = 3 ∨ m = 4 ∨ m = 5 ∨ m = 6 ∨ m = 7 ∨ m = 8 ∨ m = 9 ∨ m = 10 ∨ m = 11 ∨ m = 12 ∨ m = 13 ∨ m = 14 := by omega
 rcases hm14 with rfl | rfl | rfl | rfl | rfl | rfl | rfl | rfl | rfl | rfl | rfl | rfl | rfl | rfl
 ·simp only [go_sem, simprocAttr, show kdC (kd (1 : Int)) = [.bool false, .bool false, .bool true, .bool false, .bool false, .bool false, .bool false, .bool false, .bool false, .bool false, .bool false] from rfl]
  intro g2
  refine pk (callH_does ([0]) ([]) ([bytRow wv l]) ([]) (fun _ css R G => ∃ wv', css = [[wv']] ∧ R = [bytRow wv' (l ++ numB 1 1)]) upV rfl rfl (by kernel_rfl) rfl (dk rfl) rfl rfl (by simp [ids, Diff]) (by simp) (fun G hG hh hM => put_does (n := 1) (k := 1) hG.wf hh hM (by omega) (by omega)) (fun v css R G _ _ => upV_den css)) ?_
  rintro _ ⟨_, css, _, GH1, ⟨w1, rfl, rfl⟩, hcs, hle, rfl⟩
  clear hcs hle
  obtain ⟨l1, hl1⟩ : ∃ X, X = l ++ numB 1 1 := ⟨_, rfl⟩
  rw [← hl1]
  have hn1 : l1.length = l.length + (numB 1 1).length := by rw [hl1, List.length_append]
  rw [numB_len] at hn1
  simp only [go_sem, simprocAttr]
  refine pk (callH_does ([0]) ([]) ([bytRow w1 l1]) ([]) (fun _ css R G => ∃ wv', css = [[wv']] ∧ R = [bytRow wv' (l1 ++ txB r.name)]) upV rfl rfl (by kernel_rfl) rfl (dk rfl) rfl rfl (by simp [ids, Diff]) (by simp) (fun G hG hh hM => wtext_does (t := r.name) hG.wf hh hM (by omega) (by omega)) (fun v css R G _ _ => upV_den css)) ?_
  rintro _ ⟨_, css, _, GH2, ⟨w2, rfl, rfl⟩, hcs, hle, rfl⟩
  clear hcs hle
  obtain ⟨l2, hl2⟩ : ∃ X, X = l1 ++ txB r.name := ⟨_, rfl⟩
  rw [← hl2]
  have hn2 : l2.length = l1.length + (txB r.name).length := by rw [hl2, List.length_append]
  rw [txB_len] at hn2
  simp only [go_sem, simprocAttr]
  refine fin_retH (G := G0) Tryz.results15 ?_
  simp only [go_sem, simprocAttr]
  intro aa w' _ _
  exact ⟨_, rfl, by rw [rcB_1 (hm.trans rfl), hl2, hl1]; simp only [List.append_assoc]⟩
 ·simp only [go_sem, simprocAttr, show kdC (kd (2 : Int)) = [.bool false, .bool true, .bool true, .bool false, .bool false, .bool false, .bool false, .bool false, .bool false, .bool false, .bool false] from rfl]
  intro g2
  refine pk (callH_does ([0]) ([]) ([bytRow wv l]) ([]) (fun _ css R G => ∃ wv', css = [[wv']] ∧ R = [bytRow wv' (l ++ numB 2 1)]) upV rfl rfl (by kernel_rfl) rfl (dk rfl) rfl rfl (by simp [ids, Diff]) (by simp) (fun G hG hh hM => put_does (n := 2) (k := 1) hG.wf hh hM (by omega) (by omega)) (fun v css R G _ _ => upV_den css)) ?_
  rintro _ ⟨_, css, _, GH1, ⟨w1, rfl, rfl⟩, hcs, hle, rfl⟩
  clear hcs hle
  obtain ⟨l1, hl1⟩ : ∃ X, X = l ++ numB 2 1 := ⟨_, rfl⟩
  rw [← hl1]
  have hn1 : l1.length = l.length + (numB 2 1).length := by rw [hl1, List.length_append]
  rw [numB_len] at hn1
  simp only [go_sem, simprocAttr]
  refine pk (callH_does ([0]) ([]) ([bytRow w1 l1]) ([]) (fun _ css R G => ∃ wv', css = [[wv']] ∧ R = [bytRow wv' (l1 ++ txB r.name)]) upV rfl rfl (by kernel_rfl) rfl (dk rfl) rfl rfl (by simp [ids, Diff]) (by simp) (fun G hG hh hM => wtext_does (t := r.name) hG.wf hh hM (by omega) (by omega)) (fun v css R G _ _ => upV_den css)) ?_
  rintro _ ⟨_, css, _, GH2, ⟨w2, rfl, rfl⟩, hcs, hle, rfl⟩
  clear hcs hle
  obtain ⟨l2, hl2⟩ : ∃ X, X = l1 ++ txB r.name := ⟨_, rfl⟩
  rw [← hl2]
  have hn2 : l2.length = l1.length + (txB r.name).length := by rw [hl2, List.length_append]
  rw [txB_len] at hn2
  simp only [go_sem, simprocAttr]
  refine pk (callH_does ([0]) ([]) ([bytRow w2 l2]) ([]) (fun _ css R G => ∃ wv', css = [[wv']] ∧ R = [bytRow wv' (l2 ++ numB r.n 4)]) upV rfl rfl (by kernel_rfl) rfl (dk rfl) rfl rfl (by simp [ids, Diff]) (by simp) (fun G hG hh hM => put_does (n := r.n) (k := 4) hG.wf hh hM (by omega) (by omega)) (fun v css R G _ _ => upV_den css)) ?_
  rintro _ ⟨_, css, _, GH3, ⟨w3, rfl, rfl⟩, hcs, hle, rfl⟩
  clear hcs hle
  obtain ⟨l3, hl3⟩ : ∃ X, X = l2 ++ numB r.n 4 := ⟨_, rfl⟩
  rw [← hl3]
  have hn3 : l3.length = l2.length + (numB r.n 4).length := by rw [hl3, List.length_append]
  rw [numB_len] at hn3
  simp only [go_sem, simprocAttr]
  refine fin_retH (G := G0) Tryz.results15 ?_
  simp only [go_sem, simprocAttr]
  intro aa w' _ _
  exact ⟨_, rfl, by rw [rcB_2 (hm.trans rfl), hl3, hl2, hl1]; simp only [List.append_assoc]⟩
 ·simp only [go_sem, simprocAttr, show kdC (kd (3 : Int)) = [.bool false, .bool false, .bool true, .bool false, .bool true, .bool false, .bool false, .bool false, .bool false, .bool false, .bool false] from rfl]
  intro g2
  refine pk (callH_does ([0]) ([]) ([bytRow wv l]) ([]) (fun _ css R G => ∃ wv', css = [[wv']] ∧ R = [bytRow wv' (l ++ numB 3 1)]) upV rfl rfl (by kernel_rfl) rfl (dk rfl) rfl rfl (by simp [ids, Diff]) (by simp) (fun G hG hh hM => put_does (n := 3) (k := 1) hG.wf hh hM (by omega) (by omega)) (fun v css R G _ _ => upV_den css)) ?_
  rintro _ ⟨_, css, _, GH1, ⟨w1, rfl, rfl⟩, hcs, hle, rfl⟩
  clear hcs hle
  obtain ⟨l1, hl1⟩ : ∃ X, X = l ++ numB 3 1 := ⟨_, rfl⟩
  rw [← hl1]
  have hn1 : l1.length = l.length + (numB 3 1).length := by rw [hl1, List.length_append]
  rw [numB_len] at hn1
  simp only [go_sem, simprocAttr]
  refine pk (callH_does ([0]) ([]) ([bytRow w1 l1]) ([]) (fun _ css R G => ∃ wv', css = [[wv']] ∧ R = [bytRow wv' (l1 ++ txB r.name)]) upV rfl rfl (by kernel_rfl) rfl (dk rfl) rfl rfl (by simp [ids, Diff]) (by simp) (fun G hG hh hM => wtext_does (t := r.name) hG.wf hh hM (by omega) (by omega)) (fun v css R G _ _ => upV_den css)) ?_
  rintro _ ⟨_, css, _, GH2, ⟨w2, rfl, rfl⟩, hcs, hle, rfl⟩
  clear hcs hle
  obtain ⟨l2, hl2⟩ : ∃ X, X = l1 ++ txB r.name := ⟨_, rfl⟩
  rw [← hl2]
  have hn2 : l2.length = l1.length + (txB r.name).length := by rw [hl2, List.length_append]
  rw [txB_len] at hn2
  simp only [go_sem, simprocAttr]
  refine pk (callH_does ([0]) ([]) ([bytRow w2 l2]) ([]) (fun _ css R G => ∃ wv', css = [[wv']] ∧ R = [bytRow wv' (l2 ++ ruB r.rule)]) upV rfl rfl (by kernel_rfl) rfl (dk rfl) rfl rfl (by simp [ids, Diff]) (by simp) (fun G hG hh hM => wrule_does (x := r.rule) hG.wf hh hM (by omega) (by omega) (by omega) (by omega)) (fun v css R G _ _ => upV_den css)) ?_
  rintro _ ⟨_, css, _, GH3, ⟨w3, rfl, rfl⟩, hcs, hle, rfl⟩
  clear hcs hle
  obtain ⟨l3, hl3⟩ : ∃ X, X = l2 ++ ruB r.rule := ⟨_, rfl⟩
  rw [← hl3]
  have hn3 : l3.length = l2.length + (ruB r.rule).length := by rw [hl3, List.length_append]
  rw [ruq_len] at hn3
  simp only [go_sem, simprocAttr]
  refine fin_retH (G := G0) Tryz.results15 ?_
  simp only [go_sem, simprocAttr]
  intro aa w' _ _
  exact ⟨_, rfl, by rw [rcB_3 (hm.trans rfl), hl3, hl2, hl1]; simp only [List.append_assoc]⟩
 ·simp only [go_sem, simprocAttr, show kdC (kd (4 : Int)) = [.bool false, .bool false, .bool false, .bool false, .bool false, .bool true, .bool false, .bool false, .bool false, .bool false, .bool false] from rfl]
  intro g2
  refine pk (callH_does ([0]) ([]) ([bytRow wv l]) ([]) (fun _ css R G => ∃ wv', css = [[wv']] ∧ R = [bytRow wv' (l ++ numB 4 1)]) upV rfl rfl (by kernel_rfl) rfl (dk rfl) rfl rfl (by simp [ids, Diff]) (by simp) (fun G hG hh hM => put_does (n := 4) (k := 1) hG.wf hh hM (by omega) (by omega)) (fun v css R G _ _ => upV_den css)) ?_
  rintro _ ⟨_, css, _, GH1, ⟨w1, rfl, rfl⟩, hcs, hle, rfl⟩
  clear hcs hle
  obtain ⟨l1, hl1⟩ : ∃ X, X = l ++ numB 4 1 := ⟨_, rfl⟩
  rw [← hl1]
  have hn1 : l1.length = l.length + (numB 4 1).length := by rw [hl1, List.length_append]
  rw [numB_len] at hn1
  simp only [go_sem, simprocAttr]
  refine pk (callH_does ([0]) ([]) ([bytRow w1 l1]) ([]) (fun _ css R G => ∃ wv', css = [[wv']] ∧ R = [bytRow wv' (l1 ++ vrB r.ver)]) upV rfl rfl (by kernel_rfl) rfl (dk rfl) rfl rfl (by simp [ids, Diff]) (by simp) (fun G hG hh hM => wversion_does (x := r.ver) hG.wf hh hM (h.v.mono (hG.le G0 (by simp))) (by omega) (by omega) (by omega) (by omega)) (fun v css R G _ _ => upV_den css)) ?_
  rintro _ ⟨_, css, _, GH2, ⟨w2, rfl, rfl⟩, hcs, hle, rfl⟩
  clear hcs hle
  obtain ⟨l2, hl2⟩ : ∃ X, X = l1 ++ vrB r.ver := ⟨_, rfl⟩
  rw [← hl2]
  have hn2 : l2.length = l1.length + (vrB r.ver).length := by rw [hl2, List.length_append]
  rw [vrq_len] at hn2
  simp only [go_sem, simprocAttr]
  refine fin_retH (G := G0) Tryz.results15 ?_
  simp only [go_sem, simprocAttr]
  intro aa w' _ _
  exact ⟨_, rfl, by rw [rcB_4 (hm.trans rfl), hl2, hl1]; simp only [List.append_assoc]⟩
 ·simp only [go_sem, simprocAttr, show kdC (kd (5 : Int)) = [.bool true, .bool false, .bool false, .bool false, .bool false, .bool false, .bool false, .bool false, .bool false, .bool false, .bool false] from rfl]
  intro g2
  refine pk (callH_does ([0]) ([]) ([bytRow wv l]) ([]) (fun _ css R G => ∃ wv', css = [[wv']] ∧ R = [bytRow wv' (l ++ numB 5 1)]) upV rfl rfl (by kernel_rfl) rfl (dk rfl) rfl rfl (by simp [ids, Diff]) (by simp) (fun G hG hh hM => put_does (n := 5) (k := 1) hG.wf hh hM (by omega) (by omega)) (fun v css R G _ _ => upV_den css)) ?_
  rintro _ ⟨_, css, _, GH1, ⟨w1, rfl, rfl⟩, hcs, hle, rfl⟩
  clear hcs hle
  obtain ⟨l1, hl1⟩ : ∃ X, X = l ++ numB 5 1 := ⟨_, rfl⟩
  rw [← hl1]
  have hn1 : l1.length = l.length + (numB 5 1).length := by rw [hl1, List.length_append]
  rw [numB_len] at hn1
  simp only [go_sem, simprocAttr]
  refine pk (callH_does ([0]) ([]) ([bytRow w1 l1]) ([]) (fun _ css R G => ∃ wv', css = [[wv']] ∧ R = [bytRow wv' (l1 ++ numB r.id 3)]) upV rfl rfl (by kernel_rfl) rfl (dk rfl) rfl rfl (by simp [ids, Diff]) (by simp) (fun G hG hh hM => put_does (n := r.id) (k := 3) hG.wf hh hM (by omega) (by omega)) (fun v css R G _ _ => upV_den css)) ?_
  rintro _ ⟨_, css, _, GH2, ⟨w2, rfl, rfl⟩, hcs, hle, rfl⟩
  clear hcs hle
  obtain ⟨l2, hl2⟩ : ∃ X, X = l1 ++ numB r.id 3 := ⟨_, rfl⟩
  rw [← hl2]
  have hn2 : l2.length = l1.length + (numB r.id 3).length := by rw [hl2, List.length_append]
  rw [numB_len] at hn2
  simp only [go_sem, simprocAttr]
  refine fin_retH (G := G0) Tryz.results15 ?_
  simp only [go_sem, simprocAttr]
  intro aa w' _ _
  exact ⟨_, rfl, by rw [rcB_5 (hm.trans rfl), hl2, hl1]; simp only [List.append_assoc]⟩
 ·simp only [go_sem, simprocAttr, show kdC (kd (6 : Int)) = [.bool true, .bool false, .bool false, .bool false, .bool false, .bool false, .bool false, .bool false, .bool false, .bool true, .bool true] from rfl]
  intro g2
  refine pk (callH_does ([0]) ([]) ([bytRow wv l]) ([]) (fun _ css R G => ∃ wv', css = [[wv']] ∧ R = [bytRow wv' (l ++ numB 6 1)]) upV rfl rfl (by kernel_rfl) rfl (dk rfl) rfl rfl (by simp [ids, Diff]) (by simp) (fun G hG hh hM => put_does (n := 6) (k := 1) hG.wf hh hM (by omega) (by omega)) (fun v css R G _ _ => upV_den css)) ?_
  rintro _ ⟨_, css, _, GH1, ⟨w1, rfl, rfl⟩, hcs, hle, rfl⟩
  clear hcs hle
  obtain ⟨l1, hl1⟩ : ∃ X, X = l ++ numB 6 1 := ⟨_, rfl⟩
  rw [← hl1]
  have hn1 : l1.length = l.length + (numB 6 1).length := by rw [hl1, List.length_append]
  rw [numB_len] at hn1
  simp only [go_sem, simprocAttr]
  refine pk (callH_does ([0]) ([]) ([bytRow w1 l1]) ([]) (fun _ css R G => ∃ wv', css = [[wv']] ∧ R = [bytRow wv' (l1 ++ numB r.id 3)]) upV rfl rfl (by kernel_rfl) rfl (dk rfl) rfl rfl (by simp [ids, Diff]) (by simp) (fun G hG hh hM => put_does (n := r.id) (k := 3) hG.wf hh hM (by omega) (by omega)) (fun v css R G _ _ => upV_den css)) ?_
  rintro _ ⟨_, css, _, GH2, ⟨w2, rfl, rfl⟩, hcs, hle, rfl⟩
  clear hcs hle
  obtain ⟨l2, hl2⟩ : ∃ X, X = l1 ++ numB r.id 3 := ⟨_, rfl⟩
  rw [← hl2]
  have hn2 : l2.length = l1.length + (numB r.id 3).length := by rw [hl2, List.length_append]
  rw [numB_len] at hn2
  simp only [go_sem, simprocAttr]
  refine pk (callH_does ([0]) ([]) ([bytRow w2 l2]) ([]) (fun _ css R G => ∃ wv', css = [[wv']] ∧ R = [bytRow wv' (l2 ++ numB r.vol 1)]) upV rfl rfl (by kernel_rfl) rfl (dk rfl) rfl rfl (by simp [ids, Diff]) (by simp) (fun G hG hh hM => put_does (n := r.vol) (k := 1) hG.wf hh hM (by omega) (by omega)) (fun v css R G _ _ => upV_den css)) ?_
  rintro _ ⟨_, css, _, GH3, ⟨w3, rfl, rfl⟩, hcs, hle, rfl⟩
  clear hcs hle
  obtain ⟨l3, hl3⟩ : ∃ X, X = l2 ++ numB r.vol 1 := ⟨_, rfl⟩
  rw [← hl3]
  have hn3 : l3.length = l2.length + (numB r.vol 1).length := by rw [hl3, List.length_append]
  rw [numB_len] at hn3
  simp only [go_sem, simprocAttr]
  refine pk (callH_does ([0]) ([]) ([bytRow w3 l3]) ([]) (fun _ css R G => ∃ wv', css = [[wv']] ∧ R = [bytRow wv' (l3 ++ numB r.at_ 2)]) upV rfl rfl (by kernel_rfl) rfl (dk rfl) rfl rfl (by simp [ids, Diff]) (by simp) (fun G hG hh hM => put_does (n := r.at_) (k := 2) hG.wf hh hM (by omega) (by omega)) (fun v css R G _ _ => upV_den css)) ?_
  rintro _ ⟨_, css, _, GH4, ⟨w4, rfl, rfl⟩, hcs, hle, rfl⟩
  clear hcs hle
  obtain ⟨l4, hl4⟩ : ∃ X, X = l3 ++ numB r.at_ 2 := ⟨_, rfl⟩
  rw [← hl4]
  have hn4 : l4.length = l3.length + (numB r.at_ 2).length := by rw [hl4, List.length_append]
  rw [numB_len] at hn4
  simp only [go_sem, simprocAttr]
  refine fin_retH (G := G0) Tryz.results15 ?_
  simp only [go_sem, simprocAttr]
  intro aa w' _ _
  exact ⟨_, rfl, by rw [rcB_6 (hm.trans rfl), hl4, hl3, hl2, hl1]; simp only [List.append_assoc]⟩
 ·simp only [go_sem, simprocAttr, show kdC (kd (7 : Int)) = [.bool false, .bool false, .bool false, .bool false, .bool false, .bool false, .bool true, .bool false, .bool false, .bool false, .bool false] from rfl]
  intro g2
  refine pk (callH_does ([0]) ([]) ([bytRow wv l]) ([]) (fun _ css R G => ∃ wv', css = [[wv']] ∧ R = [bytRow wv' (l ++ numB 7 1)]) upV rfl rfl (by kernel_rfl) rfl (dk rfl) rfl rfl (by simp [ids, Diff]) (by simp) (fun G hG hh hM => put_does (n := 7) (k := 1) hG.wf hh hM (by omega) (by omega)) (fun v css R G _ _ => upV_den css)) ?_
  rintro _ ⟨_, css, _, GH1, ⟨w1, rfl, rfl⟩, hcs, hle, rfl⟩
  clear hcs hle
  obtain ⟨l1, hl1⟩ : ∃ X, X = l ++ numB 7 1 := ⟨_, rfl⟩
  rw [← hl1]
  have hn1 : l1.length = l.length + (numB 7 1).length := by rw [hl1, List.length_append]
  rw [numB_len] at hn1
  simp only [go_sem, simprocAttr]
  refine pk (callH_does ([0]) ([]) ([bytRow w1 l1]) ([]) (fun _ css R G => ∃ wv', css = [[wv']] ∧ R = [bytRow wv' (l1 ++ akB r.ask)]) upV rfl rfl (by kernel_rfl) rfl (dk rfl) rfl rfl (by simp [ids, Diff]) (by simp) (fun G hG hh hM => wask_does (x := r.ask) hG.wf hh hM (by omega)) (fun v css R G _ _ => upV_den css)) ?_
  rintro _ ⟨_, css, _, GH2, ⟨w2, rfl, rfl⟩, hcs, hle, rfl⟩
  clear hcs hle
  obtain ⟨l2, hl2⟩ : ∃ X, X = l1 ++ akB r.ask := ⟨_, rfl⟩
  rw [← hl2]
  have hn2 : l2.length = l1.length + (akB r.ask).length := by rw [hl2, List.length_append]
  rw [akq_len] at hn2
  simp only [go_sem, simprocAttr]
  refine fin_retH (G := G0) Tryz.results15 ?_
  simp only [go_sem, simprocAttr]
  intro aa w' _ _
  exact ⟨_, rfl, by rw [rcB_7 (hm.trans rfl), hl2, hl1]; simp only [List.append_assoc]⟩
 ·simp only [go_sem, simprocAttr, show kdC (kd (8 : Int)) = [.bool true, .bool true, .bool false, .bool false, .bool false, .bool false, .bool false, .bool false, .bool true, .bool false, .bool false] from rfl]
  intro g2
  refine pk (callH_does ([0]) ([]) ([bytRow wv l]) ([]) (fun _ css R G => ∃ wv', css = [[wv']] ∧ R = [bytRow wv' (l ++ numB 8 1)]) upV rfl rfl (by kernel_rfl) rfl (dk rfl) rfl rfl (by simp [ids, Diff]) (by simp) (fun G hG hh hM => put_does (n := 8) (k := 1) hG.wf hh hM (by omega) (by omega)) (fun v css R G _ _ => upV_den css)) ?_
  rintro _ ⟨_, css, _, GH1, ⟨w1, rfl, rfl⟩, hcs, hle, rfl⟩
  clear hcs hle
  obtain ⟨l1, hl1⟩ : ∃ X, X = l ++ numB 8 1 := ⟨_, rfl⟩
  rw [← hl1]
  have hn1 : l1.length = l.length + (numB 8 1).length := by rw [hl1, List.length_append]
  rw [numB_len] at hn1
  simp only [go_sem, simprocAttr]
  refine pk (callH_does ([0]) ([]) ([bytRow w1 l1]) ([]) (fun _ css R G => ∃ wv', css = [[wv']] ∧ R = [bytRow wv' (l1 ++ numB r.id 3)]) upV rfl rfl (by kernel_rfl) rfl (dk rfl) rfl rfl (by simp [ids, Diff]) (by simp) (fun G hG hh hM => put_does (n := r.id) (k := 3) hG.wf hh hM (by omega) (by omega)) (fun v css R G _ _ => upV_den css)) ?_
  rintro _ ⟨_, css, _, GH2, ⟨w2, rfl, rfl⟩, hcs, hle, rfl⟩
  clear hcs hle
  obtain ⟨l2, hl2⟩ : ∃ X, X = l1 ++ numB r.id 3 := ⟨_, rfl⟩
  rw [← hl2]
  have hn2 : l2.length = l1.length + (numB r.id 3).length := by rw [hl2, List.length_append]
  rw [numB_len] at hn2
  simp only [go_sem, simprocAttr]
  refine pk (callH_does ([0]) ([]) ([bytRow w2 l2]) ([]) (fun _ css R G => ∃ wv', css = [[wv']] ∧ R = [bytRow wv' (l2 ++ numB r.n 4)]) upV rfl rfl (by kernel_rfl) rfl (dk rfl) rfl rfl (by simp [ids, Diff]) (by simp) (fun G hG hh hM => put_does (n := r.n) (k := 4) hG.wf hh hM (by omega) (by omega)) (fun v css R G _ _ => upV_den css)) ?_
  rintro _ ⟨_, css, _, GH3, ⟨w3, rfl, rfl⟩, hcs, hle, rfl⟩
  clear hcs hle
  obtain ⟨l3, hl3⟩ : ∃ X, X = l2 ++ numB r.n 4 := ⟨_, rfl⟩
  rw [← hl3]
  have hn3 : l3.length = l2.length + (numB r.n 4).length := by rw [hl3, List.length_append]
  rw [numB_len] at hn3
  simp only [go_sem, simprocAttr]
  refine pk (callH_does ([0]) ([]) ([bytRow w3 l3]) ([]) (fun _ css R G => ∃ wv', css = [[wv']] ∧ R = [bytRow wv' (l3 ++ itB r.secs)]) upV rfl rfl (by kernel_rfl) rfl (dk rfl) rfl rfl (by simp [ids, Diff]) (by simp) (fun G hG hh hM => wints_does (il := r.secs) hG.wf hh hM (h.s.mono (hG.le G0 (by simp))) (by omega) (by omega)) (fun v css R G _ _ => upV_den css)) ?_
  rintro _ ⟨_, css, _, GH4, ⟨w4, rfl, rfl⟩, hcs, hle, rfl⟩
  clear hcs hle
  obtain ⟨l4, hl4⟩ : ∃ X, X = l3 ++ itB r.secs := ⟨_, rfl⟩
  rw [← hl4]
  have hn4 : l4.length = l3.length + (itB r.secs).length := by rw [hl4, List.length_append]
  rw [itB_len] at hn4
  simp only [go_sem, simprocAttr]
  refine fin_retH (G := G0) Tryz.results15 ?_
  simp only [go_sem, simprocAttr]
  intro aa w' _ _
  exact ⟨_, rfl, by rw [rcB_8 (hm.trans rfl), hl4, hl3, hl2, hl1]; simp only [List.append_assoc]⟩
 ·simp only [go_sem, simprocAttr, show kdC (kd (9 : Int)) = [.bool true, .bool false, .bool false, .bool false, .bool false, .bool false, .bool false, .bool false, .bool false, .bool false, .bool false] from rfl]
  intro g2
  refine pk (callH_does ([0]) ([]) ([bytRow wv l]) ([]) (fun _ css R G => ∃ wv', css = [[wv']] ∧ R = [bytRow wv' (l ++ numB 9 1)]) upV rfl rfl (by kernel_rfl) rfl (dk rfl) rfl rfl (by simp [ids, Diff]) (by simp) (fun G hG hh hM => put_does (n := 9) (k := 1) hG.wf hh hM (by omega) (by omega)) (fun v css R G _ _ => upV_den css)) ?_
  rintro _ ⟨_, css, _, GH1, ⟨w1, rfl, rfl⟩, hcs, hle, rfl⟩
  clear hcs hle
  obtain ⟨l1, hl1⟩ : ∃ X, X = l ++ numB 9 1 := ⟨_, rfl⟩
  rw [← hl1]
  have hn1 : l1.length = l.length + (numB 9 1).length := by rw [hl1, List.length_append]
  rw [numB_len] at hn1
  simp only [go_sem, simprocAttr]
  refine pk (callH_does ([0]) ([]) ([bytRow w1 l1]) ([]) (fun _ css R G => ∃ wv', css = [[wv']] ∧ R = [bytRow wv' (l1 ++ numB r.id 3)]) upV rfl rfl (by kernel_rfl) rfl (dk rfl) rfl rfl (by simp [ids, Diff]) (by simp) (fun G hG hh hM => put_does (n := r.id) (k := 3) hG.wf hh hM (by omega) (by omega)) (fun v css R G _ _ => upV_den css)) ?_
  rintro _ ⟨_, css, _, GH2, ⟨w2, rfl, rfl⟩, hcs, hle, rfl⟩
  clear hcs hle
  obtain ⟨l2, hl2⟩ : ∃ X, X = l1 ++ numB r.id 3 := ⟨_, rfl⟩
  rw [← hl2]
  have hn2 : l2.length = l1.length + (numB r.id 3).length := by rw [hl2, List.length_append]
  rw [numB_len] at hn2
  simp only [go_sem, simprocAttr]
  refine fin_retH (G := G0) Tryz.results15 ?_
  simp only [go_sem, simprocAttr]
  intro aa w' _ _
  exact ⟨_, rfl, by rw [rcB_9 (hm.trans rfl), hl2, hl1]; simp only [List.append_assoc]⟩
 ·simp only [go_sem, simprocAttr, show kdC (kd (10 : Int)) = [.bool true, .bool false, .bool true, .bool true, .bool false, .bool false, .bool false, .bool false, .bool false, .bool false, .bool false] from rfl]
  intro g2
  refine pk (callH_does ([0]) ([]) ([bytRow wv l]) ([]) (fun _ css R G => ∃ wv', css = [[wv']] ∧ R = [bytRow wv' (l ++ numB 10 1)]) upV rfl rfl (by kernel_rfl) rfl (dk rfl) rfl rfl (by simp [ids, Diff]) (by simp) (fun G hG hh hM => put_does (n := 10) (k := 1) hG.wf hh hM (by omega) (by omega)) (fun v css R G _ _ => upV_den css)) ?_
  rintro _ ⟨_, css, _, GH1, ⟨w1, rfl, rfl⟩, hcs, hle, rfl⟩
  clear hcs hle
  obtain ⟨l1, hl1⟩ : ∃ X, X = l ++ numB 10 1 := ⟨_, rfl⟩
  rw [← hl1]
  have hn1 : l1.length = l.length + (numB 10 1).length := by rw [hl1, List.length_append]
  rw [numB_len] at hn1
  simp only [go_sem, simprocAttr]
  refine pk (callH_does ([0]) ([]) ([bytRow w1 l1]) ([]) (fun _ css R G => ∃ wv', css = [[wv']] ∧ R = [bytRow wv' (l1 ++ numB r.id 3)]) upV rfl rfl (by kernel_rfl) rfl (dk rfl) rfl rfl (by simp [ids, Diff]) (by simp) (fun G hG hh hM => put_does (n := r.id) (k := 3) hG.wf hh hM (by omega) (by omega)) (fun v css R G _ _ => upV_den css)) ?_
  rintro _ ⟨_, css, _, GH2, ⟨w2, rfl, rfl⟩, hcs, hle, rfl⟩
  clear hcs hle
  obtain ⟨l2, hl2⟩ : ∃ X, X = l1 ++ numB r.id 3 := ⟨_, rfl⟩
  rw [← hl2]
  have hn2 : l2.length = l1.length + (numB r.id 3).length := by rw [hl2, List.length_append]
  rw [numB_len] at hn2
  simp only [go_sem, simprocAttr]
  refine pk (callH_does ([0]) ([]) ([bytRow w2 l2]) ([]) (fun _ css R G => ∃ wv', css = [[wv']] ∧ R = [bytRow wv' (l2 ++ txB r.name)]) upV rfl rfl (by kernel_rfl) rfl (dk rfl) rfl rfl (by simp [ids, Diff]) (by simp) (fun G hG hh hM => wtext_does (t := r.name) hG.wf hh hM (by omega) (by omega)) (fun v css R G _ _ => upV_den css)) ?_
  rintro _ ⟨_, css, _, GH3, ⟨w3, rfl, rfl⟩, hcs, hle, rfl⟩
  clear hcs hle
  obtain ⟨l3, hl3⟩ : ∃ X, X = l2 ++ txB r.name := ⟨_, rfl⟩
  rw [← hl3]
  have hn3 : l3.length = l2.length + (txB r.name).length := by rw [hl3, List.length_append]
  rw [txB_len] at hn3
  simp only [go_sem, simprocAttr]
  refine pk (callH_does ([0]) ([]) ([bytRow w3 l3]) ([]) (fun _ css R G => ∃ wv', css = [[wv']] ∧ R = [bytRow wv' (l3 ++ txB r.key)]) upV rfl rfl (by kernel_rfl) rfl (dk rfl) rfl rfl (by simp [ids, Diff]) (by simp) (fun G hG hh hM => wtext_does (t := r.key) hG.wf hh hM (by omega) (by omega)) (fun v css R G _ _ => upV_den css)) ?_
  rintro _ ⟨_, css, _, GH4, ⟨w4, rfl, rfl⟩, hcs, hle, rfl⟩
  clear hcs hle
  obtain ⟨l4, hl4⟩ : ∃ X, X = l3 ++ txB r.key := ⟨_, rfl⟩
  rw [← hl4]
  have hn4 : l4.length = l3.length + (txB r.key).length := by rw [hl4, List.length_append]
  rw [txB_len] at hn4
  simp only [go_sem, simprocAttr]
  refine fin_retH (G := G0) Tryz.results15 ?_
  simp only [go_sem, simprocAttr]
  intro aa w' _ _
  exact ⟨_, rfl, by rw [rcB_10 (hm.trans rfl), hl4, hl3, hl2, hl1]; simp only [List.append_assoc]⟩
 ·simp only [go_sem, simprocAttr, show kdC (kd (11 : Int)) = [.bool true, .bool false, .bool false, .bool false, .bool false, .bool false, .bool false, .bool true, .bool false, .bool false, .bool false] from rfl]
  intro g2
  refine pk (callH_does ([0]) ([]) ([bytRow wv l]) ([]) (fun _ css R G => ∃ wv', css = [[wv']] ∧ R = [bytRow wv' (l ++ numB 11 1)]) upV rfl rfl (by kernel_rfl) rfl (dk rfl) rfl rfl (by simp [ids, Diff]) (by simp) (fun G hG hh hM => put_does (n := 11) (k := 1) hG.wf hh hM (by omega) (by omega)) (fun v css R G _ _ => upV_den css)) ?_
  rintro _ ⟨_, css, _, GH1, ⟨w1, rfl, rfl⟩, hcs, hle, rfl⟩
  clear hcs hle
  obtain ⟨l1, hl1⟩ : ∃ X, X = l ++ numB 11 1 := ⟨_, rfl⟩
  rw [← hl1]
  have hn1 : l1.length = l.length + (numB 11 1).length := by rw [hl1, List.length_append]
  rw [numB_len] at hn1
  simp only [go_sem, simprocAttr]
  refine pk (callH_does ([0]) ([]) ([bytRow w1 l1]) ([]) (fun _ css R G => ∃ wv', css = [[wv']] ∧ R = [bytRow wv' (l1 ++ numB r.id 3)]) upV rfl rfl (by kernel_rfl) rfl (dk rfl) rfl rfl (by simp [ids, Diff]) (by simp) (fun G hG hh hM => put_does (n := r.id) (k := 3) hG.wf hh hM (by omega) (by omega)) (fun v css R G _ _ => upV_den css)) ?_
  rintro _ ⟨_, css, _, GH2, ⟨w2, rfl, rfl⟩, hcs, hle, rfl⟩
  clear hcs hle
  obtain ⟨l2, hl2⟩ : ∃ X, X = l1 ++ numB r.id 3 := ⟨_, rfl⟩
  rw [← hl2]
  have hn2 : l2.length = l1.length + (numB r.id 3).length := by rw [hl2, List.length_append]
  rw [numB_len] at hn2
  simp only [go_sem, simprocAttr]
  refine pk (callH_does ([0]) ([]) ([bytRow w2 l2]) ([]) (fun _ css R G => ∃ wv', css = [[wv']] ∧ R = [bytRow wv' (l2 ++ ptB r.part)]) upV rfl rfl (by kernel_rfl) rfl (dk rfl) rfl rfl (by simp [ids, Diff]) (by simp) (fun G hG hh hM => wpart_does (x := r.part) hG.wf hh hM (h.p.mono (hG.le G0 (by simp))) (by omega) (by omega)) (fun v css R G _ _ => upV_den css)) ?_
  rintro _ ⟨_, css, _, GH3, ⟨w3, rfl, rfl⟩, hcs, hle, rfl⟩
  clear hcs hle
  obtain ⟨l3, hl3⟩ : ∃ X, X = l2 ++ ptB r.part := ⟨_, rfl⟩
  rw [← hl3]
  have hn3 : l3.length = l2.length + (ptB r.part).length := by rw [hl3, List.length_append]
  rw [ptq_len] at hn3
  simp only [go_sem, simprocAttr]
  refine fin_retH (G := G0) Tryz.results15 ?_
  simp only [go_sem, simprocAttr]
  intro aa w' _ _
  exact ⟨_, rfl, by rw [rcB_11 (hm.trans rfl), hl3, hl2, hl1]; simp only [List.append_assoc]⟩
 ·simp only [go_sem, simprocAttr, show kdC (kd (12 : Int)) = [.bool true, .bool false, .bool false, .bool false, .bool false, .bool false, .bool false, .bool false, .bool false, .bool false, .bool false] from rfl]
  intro g2
  refine pk (callH_does ([0]) ([]) ([bytRow wv l]) ([]) (fun _ css R G => ∃ wv', css = [[wv']] ∧ R = [bytRow wv' (l ++ numB 12 1)]) upV rfl rfl (by kernel_rfl) rfl (dk rfl) rfl rfl (by simp [ids, Diff]) (by simp) (fun G hG hh hM => put_does (n := 12) (k := 1) hG.wf hh hM (by omega) (by omega)) (fun v css R G _ _ => upV_den css)) ?_
  rintro _ ⟨_, css, _, GH1, ⟨w1, rfl, rfl⟩, hcs, hle, rfl⟩
  clear hcs hle
  obtain ⟨l1, hl1⟩ : ∃ X, X = l ++ numB 12 1 := ⟨_, rfl⟩
  rw [← hl1]
  have hn1 : l1.length = l.length + (numB 12 1).length := by rw [hl1, List.length_append]
  rw [numB_len] at hn1
  simp only [go_sem, simprocAttr]
  refine pk (callH_does ([0]) ([]) ([bytRow w1 l1]) ([]) (fun _ css R G => ∃ wv', css = [[wv']] ∧ R = [bytRow wv' (l1 ++ numB r.id 3)]) upV rfl rfl (by kernel_rfl) rfl (dk rfl) rfl rfl (by simp [ids, Diff]) (by simp) (fun G hG hh hM => put_does (n := r.id) (k := 3) hG.wf hh hM (by omega) (by omega)) (fun v css R G _ _ => upV_den css)) ?_
  rintro _ ⟨_, css, _, GH2, ⟨w2, rfl, rfl⟩, hcs, hle, rfl⟩
  clear hcs hle
  obtain ⟨l2, hl2⟩ : ∃ X, X = l1 ++ numB r.id 3 := ⟨_, rfl⟩
  rw [← hl2]
  have hn2 : l2.length = l1.length + (numB r.id 3).length := by rw [hl2, List.length_append]
  rw [numB_len] at hn2
  simp only [go_sem, simprocAttr]
  refine fin_retH (G := G0) Tryz.results15 ?_
  simp only [go_sem, simprocAttr]
  intro aa w' _ _
  exact ⟨_, rfl, by rw [rcB_12 (hm.trans rfl), hl2, hl1]; simp only [List.append_assoc]⟩
 ·simp only [go_sem, simprocAttr, show kdC (kd (13 : Int)) = [.bool false, .bool true, .bool false, .bool false, .bool false, .bool false, .bool false, .bool false, .bool false, .bool false, .bool false] from rfl]
  intro g2
  refine pk (callH_does ([0]) ([]) ([bytRow wv l]) ([]) (fun _ css R G => ∃ wv', css = [[wv']] ∧ R = [bytRow wv' (l ++ numB 13 1)]) upV rfl rfl (by kernel_rfl) rfl (dk rfl) rfl rfl (by simp [ids, Diff]) (by simp) (fun G hG hh hM => put_does (n := 13) (k := 1) hG.wf hh hM (by omega) (by omega)) (fun v css R G _ _ => upV_den css)) ?_
  rintro _ ⟨_, css, _, GH1, ⟨w1, rfl, rfl⟩, hcs, hle, rfl⟩
  clear hcs hle
  obtain ⟨l1, hl1⟩ : ∃ X, X = l ++ numB 13 1 := ⟨_, rfl⟩
  rw [← hl1]
  have hn1 : l1.length = l.length + (numB 13 1).length := by rw [hl1, List.length_append]
  rw [numB_len] at hn1
  simp only [go_sem, simprocAttr]
  refine pk (callH_does ([0]) ([]) ([bytRow w1 l1]) ([]) (fun _ css R G => ∃ wv', css = [[wv']] ∧ R = [bytRow wv' (l1 ++ numB r.n 4)]) upV rfl rfl (by kernel_rfl) rfl (dk rfl) rfl rfl (by simp [ids, Diff]) (by simp) (fun G hG hh hM => put_does (n := r.n) (k := 4) hG.wf hh hM (by omega) (by omega)) (fun v css R G _ _ => upV_den css)) ?_
  rintro _ ⟨_, css, _, GH2, ⟨w2, rfl, rfl⟩, hcs, hle, rfl⟩
  clear hcs hle
  obtain ⟨l2, hl2⟩ : ∃ X, X = l1 ++ numB r.n 4 := ⟨_, rfl⟩
  rw [← hl2]
  have hn2 : l2.length = l1.length + (numB r.n 4).length := by rw [hl2, List.length_append]
  rw [numB_len] at hn2
  simp only [go_sem, simprocAttr]
  refine fin_retH (G := G0) Tryz.results15 ?_
  simp only [go_sem, simprocAttr]
  intro aa w' _ _
  exact ⟨_, rfl, by rw [rcB_13 (hm.trans rfl), hl2, hl1]; simp only [List.append_assoc]⟩
 ·simp only [go_sem, simprocAttr, show kdC (kd (14 : Int)) = [.bool false, .bool false, .bool false, .bool false, .bool false, .bool false, .bool false, .bool false, .bool false, .bool true, .bool false] from rfl]
  intro g2
  refine pk (callH_does ([0]) ([]) ([bytRow wv l]) ([]) (fun _ css R G => ∃ wv', css = [[wv']] ∧ R = [bytRow wv' (l ++ numB 14 1)]) upV rfl rfl (by kernel_rfl) rfl (dk rfl) rfl rfl (by simp [ids, Diff]) (by simp) (fun G hG hh hM => put_does (n := 14) (k := 1) hG.wf hh hM (by omega) (by omega)) (fun v css R G _ _ => upV_den css)) ?_
  rintro _ ⟨_, css, _, GH1, ⟨w1, rfl, rfl⟩, hcs, hle, rfl⟩
  clear hcs hle
  obtain ⟨l1, hl1⟩ : ∃ X, X = l ++ numB 14 1 := ⟨_, rfl⟩
  rw [← hl1]
  have hn1 : l1.length = l.length + (numB 14 1).length := by rw [hl1, List.length_append]
  rw [numB_len] at hn1
  simp only [go_sem, simprocAttr]
  refine pk (callH_does ([0]) ([]) ([bytRow w1 l1]) ([]) (fun _ css R G => ∃ wv', css = [[wv']] ∧ R = [bytRow wv' (l1 ++ numB r.vol 1)]) upV rfl rfl (by kernel_rfl) rfl (dk rfl) rfl rfl (by simp [ids, Diff]) (by simp) (fun G hG hh hM => put_does (n := r.vol) (k := 1) hG.wf hh hM (by omega) (by omega)) (fun v css R G _ _ => upV_den css)) ?_
  rintro _ ⟨_, css, _, GH2, ⟨w2, rfl, rfl⟩, hcs, hle, rfl⟩
  clear hcs hle
  obtain ⟨l2, hl2⟩ : ∃ X, X = l1 ++ numB r.vol 1 := ⟨_, rfl⟩
  rw [← hl2]
  have hn2 : l2.length = l1.length + (numB r.vol 1).length := by rw [hl2, List.length_append]
  rw [numB_len] at hn2
  simp only [go_sem, simprocAttr]
  refine fin_retH (G := G0) Tryz.results15 ?_
  simp only [go_sem, simprocAttr]
  intro aa w' _ _
  exact ⟨_, rfl, by rw [rcB_14 (hm.trans rfl), hl2, hl1]; simp only [List.append_assoc]⟩
end Go.Proofs.YtohdfcnjcpjdcaaGreatDoor
/- Encode: records as bytes. Conditions: as each law states them. -/
namespace Go.Proofs.YtohdfcnjcpjdcaaGreatDoor
open Go.RowKit
set_option linter.unusedSimpArgs false
def encL (acc : List UInt8) : List Rec → List UInt8 × Int
 | [] => (acc, 0)
 | r :: rs => if chk r = 0 then encL (acc ++ rcB r) rs else ([], chk r)
/-- records as bytes -/
def encR (l : List Rec) : List UInt8 × Int := if 255 < l.length then ([], 1) else encL (numB (l.length : Int) 1) l
theorem rcB_len {r : Rec} (h : okRc r) : (rcB r).length ≤ 2200 := by
 obtain ⟨hk, hF, _⟩ := okRc_iff.1 h
 obtain ⟨f1, f2, f3, f4, ⟨g1, g2, g3⟩, ⟨v1, v2, v3, _, _, v4, v5, v6, ⟨v7, _⟩, v8, v9, v10⟩, ⟨a1, a2, a3⟩, ⟨p1, p2, ⟨p3, _⟩⟩, ⟨f9, _⟩, f10, f11⟩ := hF
 have op : ∀ {α : Type} (b : Bool) (wr : α → List UInt8) (x : α) (n : Nat), (wr x).length ≤ n → (opB b wr x).length ≤ n := fun b wr x n hx => by
  cases b with
  | true => exact hx
  | false => exact Nat.zero_le _
 unfold rcB tlB
 simp only [List.length_append, numB_len]
 have h1 := op (kd r.kind).id (fun n => numB n 3) r.id 3 (by rw [numB_len]; omega)
 have h2 := op (kd r.kind).name txB r.name 256 (by rw [txB_len]; omega)
 have h3 := op (kd r.kind).key txB r.key 256 (by rw [txB_len]; omega)
 have h4 := op (kd r.kind).n (fun n => numB n 4) r.n 4 (by rw [numB_len]; omega)
 have h5 := op (kd r.kind).rule ruB r.rule 264 (by rw [ruq_len]; omega)
 have h6 := op (kd r.kind).ver vrB r.ver 800 (by rw [vrq_len]; omega)
 have h7 := op (kd r.kind).ask akB r.ask 6 (by rw [akq_len]; omega)
 have h8 := op (kd r.kind).part ptB r.part 260 (by rw [ptq_len]; omega)
 have h9 := op (kd r.kind).secs itB r.secs 256 (by rw [itB_len]; omega)
 have h10 := op (kd r.kind).vol (fun n => numB n 1) r.vol 1 (by rw [numB_len]; omega)
 have h11 := op (kd r.kind).at_ (fun n => numB n 2) r.at_ 2 (by rw [numB_len]; omega)
 omega
theorem drop_getq {α : Type} {l : List α} {i : Nat} {x : α} (h : l[i]? = some x) : l.drop i = x :: l.drop (i + 1) := by
 obtain ⟨hlt, e⟩ := List.getElem?_eq_some_iff.1 h
 rw [List.drop_eq_getElem_cons hlt, e]
/-- a record among others in memory -/
def RxCs (G : GW) (r : Rec) (cs : List Value) : Prop := ∃ vs ps ss, cs = recV r vs ps ss ∧ RxG G r vs ps ss ∧ i64 (r.rule.freeze + 1) ∧ i64 (r.rule.drop + 1)
theorem rxCs_mono : MonoR RxCs := fun _ _ _ _ hl ⟨vs, ps, ss, e, h, r⟩ => ⟨vs, ps, ss, e, h.mono hl, r⟩
def RxsG (G : GW) (v : Value) (l : List Rec) : Prop := Sq RxCs 50 29 G v l
set_option maxRecDepth 100000 in
set_option maxHeartbeats 16000000 in
theorem enc_does {lv : Value} {l : List Rec} {G0 : GW} (hW : G0.Wf) (h : RxsG G0 lv l) (hK : KindsG G0) :
  Calls Tryz.prog 6 #[lv] G0.w (Ret G0 fun y G => ∃ bv, y = .tuple #[bv, .int .i64 (encR l).2] ∧ ByG G bv (encR l).1) := by
 obtain ⟨A, c, rfl, hc1, hc2⟩ := Sq.form h
 have hml := max_le
 refine enterS (G := G0) (n := 36) 3000 hW Tryz.func6 rfl Tryz.ntmps6 (by simp) ?_
 by_cases hll : 255 < l.length
 ·have q0 : decide (255 < (l.length : Int)) = true := decide_eq_true (by omega)
  simp only [go_sem, simprocAttr, q0]
  refine fin_ret (G := G0) Tryz.results6 ?_
  simp only [go_sem, simprocAttr]
  intro aa w' _ _
  have he : encR l = ([], 1) := by unfold encR; rw [if_pos hll]
  rw [he]
  exact ⟨_, rfl, ByG.nil _⟩
 have q0 : decide (255 < (l.length : Int)) = false := decide_eq_false (by omega)
 have he0 : encR l = encL (numB (l.length : Int) 1) l := by unfold encR; rw [if_neg hll]
 rw [he0]
 simp only [go_sem, simprocAttr, q0]
 intro gw
 refine row_ok 5 1 ?_
 simp only [St.rowsTo]
 refine pk (callH_does ([0]) ([]) ([bytRow (.slice none 0 0) ([] : List UInt8)]) ([]) (fun _ css R G => ∃ wv', css = [[wv']] ∧ R = [bytRow wv' (([] : List UInt8) ++ numB (l.length : Int) 1)]) upV rfl rfl (by kernel_rfl) rfl (dk rfl) rfl rfl (by simp [ids, Diff]) (by simp) (fun G hG hh hM => put_does (n := (l.length : Int)) (k := 1) hG.wf hh hM (by omega) (by simp)) (fun v css R G _ _ => upV_den css)) ?_
 rintro _ ⟨_, css, _, G1, ⟨w1, rfl, rfl⟩, hcs, hle, rfl⟩
 clear hcs hle
 obtain ⟨l1, hl1⟩ : ∃ X, X = ([] : List UInt8) ++ numB (l.length : Int) 1 := ⟨_, rfl⟩
 have hl1' : numB (l.length : Int) 1 = l1 := by rw [hl1, List.nil_append]
 rw [← hl1, hl1']
 have hn1 : l1.length = 1 := by rw [← hl1', numB_len]
 clear hl1 hl1' he0
 simp only [go_sem, simprocAttr]
 refine loop_ok (N := 3000) (ι := Nat × Value × List UInt8)
  (fun i => match i with | (i, v, a) => ⟨[(4, .c (.p 0 gw 0)), (17, .c (.v (.slice A l.length c))), (18, .c (.v (.int .i64 (l.length : Int)))), (19, .c (.v (.int .i64 (i : Int))))], [⟨0, gw, 62, [.v v]⟩], [bytRow v a], [], [G0], 1⟩)
  (fun i => match i with | (i, _, a) => i ≤ l.length ∧ encL a (l.drop i) = encL l1 l ∧ a.length ≤ 1 + i * 2200) (fun i => l.length - i.1) (QOk_body _ _ _) (0, w1, l1) ⟨Nat.zero_le _, rfl, by show l1.length ≤ _; omega⟩ (by simp only [go_sem, simprocAttr]; simp) ?_
 rintro ⟨i, v, a⟩ ⟨hi, ha, hla⟩
 simp only
 by_cases hlt : i < l.length
 ·have q : decide ((i : Int) < (l.length : Int)) = true := decide_eq_true (by omega)
  obtain ⟨r, hr⟩ : ∃ r, l[i]? = some r := ⟨_, List.getElem?_eq_getElem hlt⟩
  have hdrop : l.drop i = r :: l.drop (i + 1) := drop_getq hr
  rw [hdrop] at ha
  simp only [go_sem, simprocAttr, q]
  refine pk (elem_does (R := RxCs) (l := l) (m := i) rfl tySlice30 tySize50 rfl rfl (dk rfl) rfl hr (fun G hG => Sq.mono h rxCs_mono (hG.le G0 (by simp)))) ?_
  rintro _ ⟨gx, ox, cs, GE, hcl, hcs, rfl⟩
  obtain ⟨vs, ps, ss, rfl, hx, hfr, hdr⟩ := hcs
  obtain ⟨X1, y1, rfl, _, _⟩ := Sq.form hx.v
  obtain ⟨X2, y2, rfl, _, _⟩ := Sq.form hx.p
  obtain ⟨X3, y3, rfl, _, _⟩ := Sq.form hx.s
  simp only [go_sem, simprocAttr, recV]
  intro gv
  refine pk (call_does (fun y _ => y = .int .i64 (chk r)) rfl rfl (by kernel_rfl) rfl (dk rfl) (fun G hG => chkRec_does hG.wf (hx.mono (hG.le GE (by simp))) (BlkG.mono hK (hG.le G0 (by simp))) hfr hdr)) ?_
  rintro _ ⟨_, G3, rfl, hn3, rfl⟩
  clear hn3
  by_cases hc : chk r = 0
  ·have qc : decide (chk r = 0) = true := decide_eq_true hc
   have hok := chk_iff.1 hc
   obtain ⟨hk, hF, _⟩ := okRc_iff.1 hok
   have hrl := rcB_len hok
   rw [encL, if_pos hc] at ha
   simp only [go_sem, simprocAttr, qc, Bool.not_true]
   refine pk (callH_does ([0]) ([]) ([bytRow v a]) ([]) (fun _ css R G => ∃ wv', css = [[wv']] ∧ R = [bytRow wv' (a ++ rcB r)]) upV rfl rfl (by kernel_rfl) rfl (dk rfl) rfl rfl (by simp [ids, Diff]) (by simp) (fun G hG hh hM => wrecord_does hG.wf hh hM (hx.mono (hG.le GE (by simp))) (BlkG.mono hK (hG.le G0 (by simp))) hF hk (by omega)) (fun v css R G _ _ => upV_den css)) ?_
   rintro _ ⟨_, css, _, G4, ⟨w4, rfl, rfl⟩, hcs, hle, rfl⟩
   clear hcs hle
   obtain ⟨l4, hl4⟩ : ∃ X, X = a ++ rcB r := ⟨_, rfl⟩
   rw [← hl4] at ha ⊢
   have hn4 : l4.length = a.length + (rcB r).length := by rw [hl4, List.length_append]
   simp only [go_sem, simprocAttr]
   refine ⟨by omega, ?_⟩
   exact again_ok (i + 1, w4, l4) ⟨hlt, ha, by show l4.length ≤ 1 + (i + 1) * 2200; omega⟩ (by show l.length - (i + 1) < l.length - i; omega) (by simp only [go_sem, simprocAttr]; simp)
  ·have qc : decide (chk r = 0) = false := decide_eq_false hc
   rw [encL, if_neg hc] at ha
   simp only [go_sem, simprocAttr, qc, Bool.not_false]
   refine fin_ret (G := G0) Tryz.results6 ?_
   simp only [go_sem, simprocAttr]
   intro aa w' _ _
   rw [← ha]
   exact ⟨_, rfl, ByG.nil _⟩
 have hge : l.length ≤ i := by omega
 have q1 : decide ((i : Int) < (l.length : Int)) = false := decide_eq_false (by omega)
 rw [List.drop_eq_nil_of_le hge, encL] at ha
 simp only [go_sem, simprocAttr, q1]
 refine read_ok (R1 := []) rfl (fun GB hleB hslB => ?_) (fun _ _ q => q) (by show (1 : Nat) ≠ 0; decide)
 have hb : ByG GB v a := by
  have h9 : Sl GB 5 1 a.length v (a.flatMap bytC) := hslB
  rw [bytC_flat] at h9
  exact h9
 rw [← ha]
 refine fin_ret (G := G0) Tryz.results6 ?_
 simp only [go_sem, simprocAttr]
 intro aa w' _ hle
 exact ⟨_, rfl, hb.mono (hle GB (by simp))⟩
end Go.Proofs.YtohdfcnjcpjdcaaGreatDoor
/- The reader of a record. Conditions: as each law states them. -/
namespace Go.Proofs.YtohdfcnjcpjdcaaGreatDoor
open Go.RowKit
set_option linter.unusedSimpArgs false
theorem intsQ_nil (G : GW) : IntsG G (.slice none 0 0) [] := IntsG.of (l := []) (Sl.nil _ _ _)
theorem rc_good {s : RS} (hf : (tk 1 s).2.f = 0) (hk : 1 ≤ (tk 1 s).1 ∧ (tk 1 s).1 ≤ 14) : rc s = rcT (tk 1 s).1 (tk 1 s).2 := by
 have h : rcK (tk 1 s) = (tk 1 s).2 := by unfold rcK; rw [if_neg (by omega)]
 unfold rc
 rw [h, if_pos hf]
theorem rc_dead {s : RS} (hf : (tk 1 s).2.f ≠ 0) : rc s = (rec0 0, (tk 1 s).2) := by
 have h : rcK (tk 1 s) = (tk 1 s).2 := by unfold rcK; rw [if_neg (fun q => hf q.1)]
 unfold rc
 rw [h, if_neg hf]
theorem rc_kind {s : RS} (hf : (tk 1 s).2.f = 0) (hk : (tk 1 s).1 < 1 ∨ 14 < (tk 1 s).1) : rc s = (rec0 0, ⟨(tk 1 s).2.l, 3⟩) := by
 have h : rcK (tk 1 s) = ⟨(tk 1 s).2.l, 3⟩ := by unfold rcK; rw [if_pos ⟨hf, hk⟩]
 unfold rc
 rw [h, if_neg (by show ¬ (3 : Int) = 0; decide)]
theorem rcT_1 (b : RS) : rcT 1 b = ({ rec0 1 with name := (tx b).1 }, (tx b).2) := by
 have h0 : (kd 1).id = false := rfl
 have h1 : (kd 1).n = false := rfl
 have h2 : (kd 1).name = true := rfl
 have h3 : (kd 1).key = false := rfl
 have h4 : (kd 1).rule = false := rfl
 have h5 : (kd 1).ver = false := rfl
 have h6 : (kd 1).ask = false := rfl
 have h7 : (kd 1).part = false := rfl
 have h8 : (kd 1).secs = false := rfl
 have h9 : (kd 1).vol = false := rfl
 have h10 : (kd 1).at_ = false := rfl
 simp only [rcT, rc1, rc2, rc3, rc4, rc5, rc6, rc7, rc8, rc9, rc10, rc11, opR, h0, h1, h2, h3, h4, h5, h6, h7, h8, h9, h10, Bool.false_eq_true, if_true, if_false]
 rfl
theorem rcT_2 (b : RS) : rcT 2 b = ({ rec0 2 with name := (tx b).1, n := (tk 4 (tx b).2).1 }, (tk 4 (tx b).2).2) := by
 have h0 : (kd 2).id = false := rfl
 have h1 : (kd 2).n = true := rfl
 have h2 : (kd 2).name = true := rfl
 have h3 : (kd 2).key = false := rfl
 have h4 : (kd 2).rule = false := rfl
 have h5 : (kd 2).ver = false := rfl
 have h6 : (kd 2).ask = false := rfl
 have h7 : (kd 2).part = false := rfl
 have h8 : (kd 2).secs = false := rfl
 have h9 : (kd 2).vol = false := rfl
 have h10 : (kd 2).at_ = false := rfl
 simp only [rcT, rc1, rc2, rc3, rc4, rc5, rc6, rc7, rc8, rc9, rc10, rc11, opR, h0, h1, h2, h3, h4, h5, h6, h7, h8, h9, h10, Bool.false_eq_true, if_true, if_false]
 rfl
theorem rcT_3 (b : RS) : rcT 3 b = ({ rec0 3 with name := (tx b).1, rule := (rl (tx b).2).1 }, (rl (tx b).2).2) := by
 have h0 : (kd 3).id = false := rfl
 have h1 : (kd 3).n = false := rfl
 have h2 : (kd 3).name = true := rfl
 have h3 : (kd 3).key = false := rfl
 have h4 : (kd 3).rule = true := rfl
 have h5 : (kd 3).ver = false := rfl
 have h6 : (kd 3).ask = false := rfl
 have h7 : (kd 3).part = false := rfl
 have h8 : (kd 3).secs = false := rfl
 have h9 : (kd 3).vol = false := rfl
 have h10 : (kd 3).at_ = false := rfl
 simp only [rcT, rc1, rc2, rc3, rc4, rc5, rc6, rc7, rc8, rc9, rc10, rc11, opR, h0, h1, h2, h3, h4, h5, h6, h7, h8, h9, h10, Bool.false_eq_true, if_true, if_false]
 rfl
theorem rcT_4 (b : RS) : rcT 4 b = ({ rec0 4 with ver := (vr b).1 }, (vr b).2) := by
 have h0 : (kd 4).id = false := rfl
 have h1 : (kd 4).n = false := rfl
 have h2 : (kd 4).name = false := rfl
 have h3 : (kd 4).key = false := rfl
 have h4 : (kd 4).rule = false := rfl
 have h5 : (kd 4).ver = true := rfl
 have h6 : (kd 4).ask = false := rfl
 have h7 : (kd 4).part = false := rfl
 have h8 : (kd 4).secs = false := rfl
 have h9 : (kd 4).vol = false := rfl
 have h10 : (kd 4).at_ = false := rfl
 simp only [rcT, rc1, rc2, rc3, rc4, rc5, rc6, rc7, rc8, rc9, rc10, rc11, opR, h0, h1, h2, h3, h4, h5, h6, h7, h8, h9, h10, Bool.false_eq_true, if_true, if_false]
 rfl
theorem rcT_5 (b : RS) : rcT 5 b = ({ rec0 5 with id := (tk 3 b).1 }, (tk 3 b).2) := by
 have h0 : (kd 5).id = true := rfl
 have h1 : (kd 5).n = false := rfl
 have h2 : (kd 5).name = false := rfl
 have h3 : (kd 5).key = false := rfl
 have h4 : (kd 5).rule = false := rfl
 have h5 : (kd 5).ver = false := rfl
 have h6 : (kd 5).ask = false := rfl
 have h7 : (kd 5).part = false := rfl
 have h8 : (kd 5).secs = false := rfl
 have h9 : (kd 5).vol = false := rfl
 have h10 : (kd 5).at_ = false := rfl
 simp only [rcT, rc1, rc2, rc3, rc4, rc5, rc6, rc7, rc8, rc9, rc10, rc11, opR, h0, h1, h2, h3, h4, h5, h6, h7, h8, h9, h10, Bool.false_eq_true, if_true, if_false]
 rfl
theorem rcT_6 (b : RS) : rcT 6 b = ({ rec0 6 with id := (tk 3 b).1, vol := (tk 1 (tk 3 b).2).1, at_ := (tk 2 (tk 1 (tk 3 b).2).2).1 }, (tk 2 (tk 1 (tk 3 b).2).2).2) := by
 have h0 : (kd 6).id = true := rfl
 have h1 : (kd 6).n = false := rfl
 have h2 : (kd 6).name = false := rfl
 have h3 : (kd 6).key = false := rfl
 have h4 : (kd 6).rule = false := rfl
 have h5 : (kd 6).ver = false := rfl
 have h6 : (kd 6).ask = false := rfl
 have h7 : (kd 6).part = false := rfl
 have h8 : (kd 6).secs = false := rfl
 have h9 : (kd 6).vol = true := rfl
 have h10 : (kd 6).at_ = true := rfl
 simp only [rcT, rc1, rc2, rc3, rc4, rc5, rc6, rc7, rc8, rc9, rc10, rc11, opR, h0, h1, h2, h3, h4, h5, h6, h7, h8, h9, h10, Bool.false_eq_true, if_true, if_false]
 rfl
theorem rcT_7 (b : RS) : rcT 7 b = ({ rec0 7 with ask := (ak b).1 }, (ak b).2) := by
 have h0 : (kd 7).id = false := rfl
 have h1 : (kd 7).n = false := rfl
 have h2 : (kd 7).name = false := rfl
 have h3 : (kd 7).key = false := rfl
 have h4 : (kd 7).rule = false := rfl
 have h5 : (kd 7).ver = false := rfl
 have h6 : (kd 7).ask = true := rfl
 have h7 : (kd 7).part = false := rfl
 have h8 : (kd 7).secs = false := rfl
 have h9 : (kd 7).vol = false := rfl
 have h10 : (kd 7).at_ = false := rfl
 simp only [rcT, rc1, rc2, rc3, rc4, rc5, rc6, rc7, rc8, rc9, rc10, rc11, opR, h0, h1, h2, h3, h4, h5, h6, h7, h8, h9, h10, Bool.false_eq_true, if_true, if_false]
 rfl
theorem rcT_8 (b : RS) : rcT 8 b = ({ rec0 8 with id := (tk 3 b).1, n := (tk 4 (tk 3 b).2).1, secs := (its (tk 4 (tk 3 b).2).2).1 }, (its (tk 4 (tk 3 b).2).2).2) := by
 have h0 : (kd 8).id = true := rfl
 have h1 : (kd 8).n = true := rfl
 have h2 : (kd 8).name = false := rfl
 have h3 : (kd 8).key = false := rfl
 have h4 : (kd 8).rule = false := rfl
 have h5 : (kd 8).ver = false := rfl
 have h6 : (kd 8).ask = false := rfl
 have h7 : (kd 8).part = false := rfl
 have h8 : (kd 8).secs = true := rfl
 have h9 : (kd 8).vol = false := rfl
 have h10 : (kd 8).at_ = false := rfl
 simp only [rcT, rc1, rc2, rc3, rc4, rc5, rc6, rc7, rc8, rc9, rc10, rc11, opR, h0, h1, h2, h3, h4, h5, h6, h7, h8, h9, h10, Bool.false_eq_true, if_true, if_false]
 rfl
theorem rcT_9 (b : RS) : rcT 9 b = ({ rec0 9 with id := (tk 3 b).1 }, (tk 3 b).2) := by
 have h0 : (kd 9).id = true := rfl
 have h1 : (kd 9).n = false := rfl
 have h2 : (kd 9).name = false := rfl
 have h3 : (kd 9).key = false := rfl
 have h4 : (kd 9).rule = false := rfl
 have h5 : (kd 9).ver = false := rfl
 have h6 : (kd 9).ask = false := rfl
 have h7 : (kd 9).part = false := rfl
 have h8 : (kd 9).secs = false := rfl
 have h9 : (kd 9).vol = false := rfl
 have h10 : (kd 9).at_ = false := rfl
 simp only [rcT, rc1, rc2, rc3, rc4, rc5, rc6, rc7, rc8, rc9, rc10, rc11, opR, h0, h1, h2, h3, h4, h5, h6, h7, h8, h9, h10, Bool.false_eq_true, if_true, if_false]
 rfl
theorem rcT_10 (b : RS) : rcT 10 b = ({ rec0 10 with id := (tk 3 b).1, name := (tx (tk 3 b).2).1, key := (tx (tx (tk 3 b).2).2).1 }, (tx (tx (tk 3 b).2).2).2) := by
 have h0 : (kd 10).id = true := rfl
 have h1 : (kd 10).n = false := rfl
 have h2 : (kd 10).name = true := rfl
 have h3 : (kd 10).key = true := rfl
 have h4 : (kd 10).rule = false := rfl
 have h5 : (kd 10).ver = false := rfl
 have h6 : (kd 10).ask = false := rfl
 have h7 : (kd 10).part = false := rfl
 have h8 : (kd 10).secs = false := rfl
 have h9 : (kd 10).vol = false := rfl
 have h10 : (kd 10).at_ = false := rfl
 simp only [rcT, rc1, rc2, rc3, rc4, rc5, rc6, rc7, rc8, rc9, rc10, rc11, opR, h0, h1, h2, h3, h4, h5, h6, h7, h8, h9, h10, Bool.false_eq_true, if_true, if_false]
 rfl
theorem rcT_11 (b : RS) : rcT 11 b = ({ rec0 11 with id := (tk 3 b).1, part := (pt (tk 3 b).2).1 }, (pt (tk 3 b).2).2) := by
 have h0 : (kd 11).id = true := rfl
 have h1 : (kd 11).n = false := rfl
 have h2 : (kd 11).name = false := rfl
 have h3 : (kd 11).key = false := rfl
 have h4 : (kd 11).rule = false := rfl
 have h5 : (kd 11).ver = false := rfl
 have h6 : (kd 11).ask = false := rfl
 have h7 : (kd 11).part = true := rfl
 have h8 : (kd 11).secs = false := rfl
 have h9 : (kd 11).vol = false := rfl
 have h10 : (kd 11).at_ = false := rfl
 simp only [rcT, rc1, rc2, rc3, rc4, rc5, rc6, rc7, rc8, rc9, rc10, rc11, opR, h0, h1, h2, h3, h4, h5, h6, h7, h8, h9, h10, Bool.false_eq_true, if_true, if_false]
 rfl
theorem rcT_12 (b : RS) : rcT 12 b = ({ rec0 12 with id := (tk 3 b).1 }, (tk 3 b).2) := by
 have h0 : (kd 12).id = true := rfl
 have h1 : (kd 12).n = false := rfl
 have h2 : (kd 12).name = false := rfl
 have h3 : (kd 12).key = false := rfl
 have h4 : (kd 12).rule = false := rfl
 have h5 : (kd 12).ver = false := rfl
 have h6 : (kd 12).ask = false := rfl
 have h7 : (kd 12).part = false := rfl
 have h8 : (kd 12).secs = false := rfl
 have h9 : (kd 12).vol = false := rfl
 have h10 : (kd 12).at_ = false := rfl
 simp only [rcT, rc1, rc2, rc3, rc4, rc5, rc6, rc7, rc8, rc9, rc10, rc11, opR, h0, h1, h2, h3, h4, h5, h6, h7, h8, h9, h10, Bool.false_eq_true, if_true, if_false]
 rfl
theorem rcT_13 (b : RS) : rcT 13 b = ({ rec0 13 with n := (tk 4 b).1 }, (tk 4 b).2) := by
 have h0 : (kd 13).id = false := rfl
 have h1 : (kd 13).n = true := rfl
 have h2 : (kd 13).name = false := rfl
 have h3 : (kd 13).key = false := rfl
 have h4 : (kd 13).rule = false := rfl
 have h5 : (kd 13).ver = false := rfl
 have h6 : (kd 13).ask = false := rfl
 have h7 : (kd 13).part = false := rfl
 have h8 : (kd 13).secs = false := rfl
 have h9 : (kd 13).vol = false := rfl
 have h10 : (kd 13).at_ = false := rfl
 simp only [rcT, rc1, rc2, rc3, rc4, rc5, rc6, rc7, rc8, rc9, rc10, rc11, opR, h0, h1, h2, h3, h4, h5, h6, h7, h8, h9, h10, Bool.false_eq_true, if_true, if_false]
 rfl
theorem rcT_14 (b : RS) : rcT 14 b = ({ rec0 14 with vol := (tk 1 b).1 }, (tk 1 b).2) := by
 have h0 : (kd 14).id = false := rfl
 have h1 : (kd 14).n = false := rfl
 have h2 : (kd 14).name = false := rfl
 have h3 : (kd 14).key = false := rfl
 have h4 : (kd 14).rule = false := rfl
 have h5 : (kd 14).ver = false := rfl
 have h6 : (kd 14).ask = false := rfl
 have h7 : (kd 14).part = false := rfl
 have h8 : (kd 14).secs = false := rfl
 have h9 : (kd 14).vol = true := rfl
 have h10 : (kd 14).at_ = false := rfl
 simp only [rcT, rc1, rc2, rc3, rc4, rc5, rc6, rc7, rc8, rc9, rc10, rc11, opR, h0, h1, h2, h3, h4, h5, h6, h7, h8, h9, h10, Bool.false_eq_true, if_true, if_false]
 rfl
set_option maxRecDepth 100000 in
set_option maxHeartbeats 64000000 in
theorem rrecord_does {g : Nat} {rv : Value} {s : RS} {G0 : GW} (hW : G0.Wf) (hh : HandsOk G0.w ⟨[⟨g, 68, [rv, .int .i64 s.f]⟩], []⟩) (hM : ∀ k, Hands.A ⟨[⟨g, 68, [rv, .int .i64 s.f]⟩], []⟩ k → G0.M k) (hb : ByG G0 rv s.l) (hK : KindsG G0) :
  Calls Tryz.prog 18 #[.pointer (some ⟨g, 0, none⟩)] G0.w (RetH G0 ⟨[⟨g, 68, [rv, .int .i64 s.f]⟩], []⟩ fun y css R G => R = [] ∧ (∃ vs ps ss, y = .agg (recV (rc s).1 vs ps ss).toArray ∧ RxG G (rc s).1 vs ps ss) ∧ ∃ rv', css = [[rv', .int .i64 (rc s).2.f]] ∧ ByG G rv' (rc s).2.l) := by
 obtain ⟨A, c, rfl, hc1, hc2⟩ := hb.form
 have hml := max_le
 refine enterH (n := 92) 3000 ([.c (.p 0 g 0)]) ([⟨0, g, 68, [.v (.slice A s.l.length c), .v (.int .i64 s.f)]⟩]) rfl hW hh hM Tryz.func18 rfl Tryz.ntmps18 (by simp) ?_
 simp only [go_sem, simprocAttr]
 intro gr
 refine pk (callH_does ([0]) ([]) ([]) ([]) (fun y css R G => R = [] ∧ y = .int .i64 (tk 1 s).1 ∧ ∃ rv', css = [[rv', .int .i64 (tk 1 s).2.f]] ∧ ByG G rv' (tk 1 s).2.l) upV rfl rfl (by kernel_rfl) rfl (dk rfl) rfl rfl (by simp [ids, Diff]) (by simp) (fun G hG hh hM => take_does' (k := 1) (s := s) hG.wf hh hM (hb.mono (hG.le G0 (by simp))) (.inl (by omega)) (by omega)) (fun v css R G _ _ => upV_den css)) ?_
 rintro _ ⟨_, css, _, G1, ⟨rfl, rfl, rv1, rfl, hb1⟩, hcs, hle, rfl⟩
 clear hcs hle
 obtain ⟨A1, c1, rfl, hc11, hc12⟩ := hb1.form
 obtain ⟨X1, hX1⟩ : ∃ X, X = (tk 1 s) := ⟨_, rfl⟩
 rw [← hX1] at hb1 hc11 ⊢
 simp only [go_sem, simprocAttr]
 intro gx
 have hN : ∀ G : GW, RxG G (rec0 0) (.slice none 0 0) (.slice none 0 0) (.slice none 0 0) := fun G => ⟨intsQ_nil G, intsQ_nil G, intsQ_nil G⟩
 by_cases hf : X1.2.f = 0
 case neg =>
  have q1 : decide (X1.2.f = 0) = false := decide_eq_false hf
  have e : rc s = (rec0 0, X1.2) := by rw [hX1] at hf ⊢; exact rc_dead hf
  rw [e]
  simp only [go_sem, simprocAttr, q1, Bool.not_false]
  refine fin_retH (G := G0) Tryz.results18 ?_
  simp only [go_sem, simprocAttr]
  intro aa w' _ _
  exact ⟨⟨_, _, _, rfl, hN _⟩, _, rfl, hb1.mono (by apply_assumption <;> simp)⟩
 have q1 : decide (X1.2.f = 0) = true := decide_eq_true hf
 by_cases hk : 1 ≤ X1.1 ∧ X1.1 ≤ 14
 case neg =>
  have e : rc s = (rec0 0, ⟨X1.2.l, 3⟩) := by rw [hX1] at hf hk ⊢; exact rc_kind hf (by omega)
  have q2 : (decide (X1.1 < 1) || decide (14 < X1.1)) = true := by rw [Bool.or_eq_true, decide_eq_true_eq, decide_eq_true_eq]; omega
  rw [e]
  simp only [go_sem, simprocAttr, q1, q2, Bool.not_false]
  refine fin_retH (G := G0) Tryz.results18 ?_
  simp only [go_sem, simprocAttr]
  intro aa w' _ _
  exact ⟨⟨_, _, _, rfl, hN _⟩, _, rfl, hb1.mono (by apply_assumption <;> simp)⟩
 have q2 : decide (X1.1 < 1) = false := decide_eq_false (by omega)
 have q3 : decide (14 < X1.1) = false := decide_eq_false (by omega)
 have hrc : rc s = rcT X1.1 X1.2 := by rw [hX1] at hf hk ⊢; exact rc_good hf hk
 obtain ⟨m, hm⟩ : ∃ m : Nat, X1.1 = (m : Int) := ⟨X1.1.toNat, by omega⟩
 rw [hm] at q2 q3
 rw [hm]
 simp only [go_sem, simprocAttr, q1, q2, q3, Bool.not_true]
 refine pk (globElem_does (m := m) (cs := kdC (kd (m : Int))) rfl Tryz.underlying93 tySize92 rfl (dk rfl) rfl (by omega) (by decide) (fun G hG => kinds_at (BlkG.mono hK (hG.le G0 (by simp))) (by omega))) ?_
 rintro _ ⟨GK, rfl⟩
 have hm14 : m = 1 ∨ m = 2 ∨ m = 3 ∨ m = 4 ∨ m = 5 ∨ m = 6 ∨ m = 7 ∨ m = 8 ∨ m = 9 ∨ m = 10 ∨ m = 11 ∨ m = 12 ∨ m = 13 ∨ m = 14 := by omega
 clear q1 q2 q3 hk hf
 rcases hm14 with rfl | rfl | rfl | rfl | rfl | rfl | rfl | rfl | rfl | rfl | rfl | rfl | rfl | rfl
 ·simp only [go_sem, simprocAttr, show kdC (kd (1 : Int)) = [.bool false, .bool false, .bool true, .bool false, .bool false, .bool false, .bool false, .bool false, .bool false, .bool false, .bool false] from rfl]
  intro g2
  refine pk (callH_does ([0]) ([]) ([]) ([]) (fun y css R G => R = [] ∧ y = .string (tx X1.2).1 ∧ ∃ rv', css = [[rv', .int .i64 (tx X1.2).2.f]] ∧ ByG G rv' (tx X1.2).2.l) upV rfl rfl (by kernel_rfl) rfl (dk rfl) rfl rfl (by simp [ids, Diff]) (by simp) (fun G hG hh hM => rtext_does (s := X1.2) hG.wf hh hM (hb1.mono (hG.le G1 (by simp)))) (fun v css R G _ _ => upV_den css)) ?_
  rintro _ ⟨_, css, _, G2, ⟨rfl, rfl, rv2, rfl, hb2⟩, hcs, hle, rfl⟩
  clear hcs hle
  obtain ⟨A2, c2, rfl, hc21, hc22⟩ := hb2.form
  obtain ⟨X2, hX2⟩ : ∃ X, X = (tx X1.2) := ⟨_, rfl⟩
  rw [← hX2] at hb2 hc21 ⊢
  simp only [go_sem, simprocAttr, verV]
  have e : rc s = ({ rec0 1 with name := X2.1 }, X2.2) := by
   rw [hrc, hm]
   show rcT 1 X1.2 = _
   rw [rcT_1]
   subst hX2
   rfl
  rw [e]
  refine fin_retH (G := G0) Tryz.results18 ?_
  simp only [go_sem, simprocAttr]
  intro aa w' _ _
  exact ⟨⟨_, _, _, rfl, ⟨intsQ_nil _, intsQ_nil _, intsQ_nil _⟩⟩, _, rfl, hb2.mono (by apply_assumption <;> simp)⟩
 ·simp only [go_sem, simprocAttr, show kdC (kd (2 : Int)) = [.bool false, .bool true, .bool true, .bool false, .bool false, .bool false, .bool false, .bool false, .bool false, .bool false, .bool false] from rfl]
  intro g2
  refine pk (callH_does ([0]) ([]) ([]) ([]) (fun y css R G => R = [] ∧ y = .string (tx X1.2).1 ∧ ∃ rv', css = [[rv', .int .i64 (tx X1.2).2.f]] ∧ ByG G rv' (tx X1.2).2.l) upV rfl rfl (by kernel_rfl) rfl (dk rfl) rfl rfl (by simp [ids, Diff]) (by simp) (fun G hG hh hM => rtext_does (s := X1.2) hG.wf hh hM (hb1.mono (hG.le G1 (by simp)))) (fun v css R G _ _ => upV_den css)) ?_
  rintro _ ⟨_, css, _, G2, ⟨rfl, rfl, rv2, rfl, hb2⟩, hcs, hle, rfl⟩
  clear hcs hle
  obtain ⟨A2, c2, rfl, hc21, hc22⟩ := hb2.form
  obtain ⟨X2, hX2⟩ : ∃ X, X = (tx X1.2) := ⟨_, rfl⟩
  rw [← hX2] at hb2 hc21 ⊢
  simp only [go_sem, simprocAttr, verV]
  refine pk (callH_does ([0]) ([]) ([]) ([]) (fun y css R G => R = [] ∧ y = .int .i64 (tk 4 X2.2).1 ∧ ∃ rv', css = [[rv', .int .i64 (tk 4 X2.2).2.f]] ∧ ByG G rv' (tk 4 X2.2).2.l) upV rfl rfl (by kernel_rfl) rfl (dk rfl) rfl rfl (by simp [ids, Diff]) (by simp) (fun G hG hh hM => take_does' (k := 4) (s := X2.2) hG.wf hh hM (hb2.mono (hG.le G2 (by simp))) (.inl (by omega)) (by omega)) (fun v css R G _ _ => upV_den css)) ?_
  rintro _ ⟨_, css, _, G3, ⟨rfl, rfl, rv3, rfl, hb3⟩, hcs, hle, rfl⟩
  clear hcs hle
  obtain ⟨A3, c3, rfl, hc31, hc32⟩ := hb3.form
  obtain ⟨X3, hX3⟩ : ∃ X, X = (tk 4 X2.2) := ⟨_, rfl⟩
  rw [← hX3] at hb3 hc31 ⊢
  simp only [go_sem, simprocAttr, verV]
  have e : rc s = ({ rec0 2 with name := X2.1, n := X3.1 }, X3.2) := by
   rw [hrc, hm]
   show rcT 2 X1.2 = _
   rw [rcT_2]
   subst hX3
   subst hX2
   rfl
  rw [e]
  refine fin_retH (G := G0) Tryz.results18 ?_
  simp only [go_sem, simprocAttr]
  intro aa w' _ _
  exact ⟨⟨_, _, _, rfl, ⟨intsQ_nil _, intsQ_nil _, intsQ_nil _⟩⟩, _, rfl, hb3.mono (by apply_assumption <;> simp)⟩
 ·simp only [go_sem, simprocAttr, show kdC (kd (3 : Int)) = [.bool false, .bool false, .bool true, .bool false, .bool true, .bool false, .bool false, .bool false, .bool false, .bool false, .bool false] from rfl]
  intro g2
  refine pk (callH_does ([0]) ([]) ([]) ([]) (fun y css R G => R = [] ∧ y = .string (tx X1.2).1 ∧ ∃ rv', css = [[rv', .int .i64 (tx X1.2).2.f]] ∧ ByG G rv' (tx X1.2).2.l) upV rfl rfl (by kernel_rfl) rfl (dk rfl) rfl rfl (by simp [ids, Diff]) (by simp) (fun G hG hh hM => rtext_does (s := X1.2) hG.wf hh hM (hb1.mono (hG.le G1 (by simp)))) (fun v css R G _ _ => upV_den css)) ?_
  rintro _ ⟨_, css, _, G2, ⟨rfl, rfl, rv2, rfl, hb2⟩, hcs, hle, rfl⟩
  clear hcs hle
  obtain ⟨A2, c2, rfl, hc21, hc22⟩ := hb2.form
  obtain ⟨X2, hX2⟩ : ∃ X, X = (tx X1.2) := ⟨_, rfl⟩
  rw [← hX2] at hb2 hc21 ⊢
  simp only [go_sem, simprocAttr, verV]
  refine pk (callH_does ([0]) ([]) ([]) ([]) (fun y css R G => R = [] ∧ y = .agg #[.string (rl X2.2).1.pre, .int .i64 (rl X2.2).1.freeze, .int .i64 (rl X2.2).1.drop] ∧ ∃ rv', css = [[rv', .int .i64 (rl X2.2).2.f]] ∧ ByG G rv' (rl X2.2).2.l) upV rfl rfl (by kernel_rfl) rfl (dk rfl) rfl rfl (by simp [ids, Diff]) (by simp) (fun G hG hh hM => rule_does (s := X2.2) hG.wf hh hM (hb2.mono (hG.le G2 (by simp)))) (fun v css R G _ _ => upV_den css)) ?_
  rintro _ ⟨_, css, _, G3, ⟨rfl, rfl, rv3, rfl, hb3⟩, hcs, hle, rfl⟩
  clear hcs hle
  obtain ⟨A3, c3, rfl, hc31, hc32⟩ := hb3.form
  obtain ⟨X3, hX3⟩ : ∃ X, X = (rl X2.2) := ⟨_, rfl⟩
  rw [← hX3] at hb3 hc31 ⊢
  simp only [go_sem, simprocAttr, verV]
  have e : rc s = ({ rec0 3 with name := X2.1, rule := X3.1 }, X3.2) := by
   rw [hrc, hm]
   show rcT 3 X1.2 = _
   rw [rcT_3]
   subst hX3
   subst hX2
   rfl
  rw [e]
  refine fin_retH (G := G0) Tryz.results18 ?_
  simp only [go_sem, simprocAttr]
  intro aa w' _ _
  exact ⟨⟨_, _, _, rfl, ⟨intsQ_nil _, intsQ_nil _, intsQ_nil _⟩⟩, _, rfl, hb3.mono (by apply_assumption <;> simp)⟩
 ·simp only [go_sem, simprocAttr, show kdC (kd (4 : Int)) = [.bool false, .bool false, .bool false, .bool false, .bool false, .bool true, .bool false, .bool false, .bool false, .bool false, .bool false] from rfl]
  intro g2
  refine pk (callH_does ([0]) ([]) ([]) ([]) (fun y css R G => R = [] ∧ (∃ sv, y = .agg (verV (vr X1.2).1 sv).toArray ∧ IntsG G sv (vr X1.2).1.secs) ∧ ∃ rv', css = [[rv', .int .i64 (vr X1.2).2.f]] ∧ ByG G rv' (vr X1.2).2.l) upV rfl rfl (by kernel_rfl) rfl (dk rfl) rfl rfl (by simp [ids, Diff]) (by simp) (fun G hG hh hM => rversion_does (s := X1.2) hG.wf hh hM (hb1.mono (hG.le G1 (by simp)))) (fun v css R G _ _ => upV_den css)) ?_
  rintro _ ⟨_, css, _, G2, ⟨rfl, ⟨sv, rfl, hiv⟩, rv2, rfl, hb2⟩, hcs, hle, rfl⟩
  clear hcs hle
  obtain ⟨A2, c2, rfl, hc21, hc22⟩ := hb2.form
  obtain ⟨X2, hX2⟩ : ∃ X, X = (vr X1.2) := ⟨_, rfl⟩
  rw [← hX2] at hb2 hc21 hiv ⊢
  obtain ⟨AI, ci, rfl, _⟩ := Sq.form hiv
  simp only [go_sem, simprocAttr, verV]
  have e : rc s = ({ rec0 4 with ver := X2.1 }, X2.2) := by
   rw [hrc, hm]
   show rcT 4 X1.2 = _
   rw [rcT_4]
   subst hX2
   rfl
  rw [e]
  refine fin_retH (G := G0) Tryz.results18 ?_
  simp only [go_sem, simprocAttr]
  intro aa w' _ _
  exact ⟨⟨_, _, _, rfl, ⟨hiv.mono (by apply_assumption <;> simp), intsQ_nil _, intsQ_nil _⟩⟩, _, rfl, hb2.mono (by apply_assumption <;> simp)⟩
 ·simp only [go_sem, simprocAttr, show kdC (kd (5 : Int)) = [.bool true, .bool false, .bool false, .bool false, .bool false, .bool false, .bool false, .bool false, .bool false, .bool false, .bool false] from rfl]
  intro g2
  refine pk (callH_does ([0]) ([]) ([]) ([]) (fun y css R G => R = [] ∧ y = .int .i64 (tk 3 X1.2).1 ∧ ∃ rv', css = [[rv', .int .i64 (tk 3 X1.2).2.f]] ∧ ByG G rv' (tk 3 X1.2).2.l) upV rfl rfl (by kernel_rfl) rfl (dk rfl) rfl rfl (by simp [ids, Diff]) (by simp) (fun G hG hh hM => take_does' (k := 3) (s := X1.2) hG.wf hh hM (hb1.mono (hG.le G1 (by simp))) (.inl (by omega)) (by omega)) (fun v css R G _ _ => upV_den css)) ?_
  rintro _ ⟨_, css, _, G2, ⟨rfl, rfl, rv2, rfl, hb2⟩, hcs, hle, rfl⟩
  clear hcs hle
  obtain ⟨A2, c2, rfl, hc21, hc22⟩ := hb2.form
  obtain ⟨X2, hX2⟩ : ∃ X, X = (tk 3 X1.2) := ⟨_, rfl⟩
  rw [← hX2] at hb2 hc21 ⊢
  simp only [go_sem, simprocAttr, verV]
  have e : rc s = ({ rec0 5 with id := X2.1 }, X2.2) := by
   rw [hrc, hm]
   show rcT 5 X1.2 = _
   rw [rcT_5]
   subst hX2
   rfl
  rw [e]
  refine fin_retH (G := G0) Tryz.results18 ?_
  simp only [go_sem, simprocAttr]
  intro aa w' _ _
  exact ⟨⟨_, _, _, rfl, ⟨intsQ_nil _, intsQ_nil _, intsQ_nil _⟩⟩, _, rfl, hb2.mono (by apply_assumption <;> simp)⟩
 ·simp only [go_sem, simprocAttr, show kdC (kd (6 : Int)) = [.bool true, .bool false, .bool false, .bool false, .bool false, .bool false, .bool false, .bool false, .bool false, .bool true, .bool true] from rfl]
  intro g2
  refine pk (callH_does ([0]) ([]) ([]) ([]) (fun y css R G => R = [] ∧ y = .int .i64 (tk 3 X1.2).1 ∧ ∃ rv', css = [[rv', .int .i64 (tk 3 X1.2).2.f]] ∧ ByG G rv' (tk 3 X1.2).2.l) upV rfl rfl (by kernel_rfl) rfl (dk rfl) rfl rfl (by simp [ids, Diff]) (by simp) (fun G hG hh hM => take_does' (k := 3) (s := X1.2) hG.wf hh hM (hb1.mono (hG.le G1 (by simp))) (.inl (by omega)) (by omega)) (fun v css R G _ _ => upV_den css)) ?_
  rintro _ ⟨_, css, _, G2, ⟨rfl, rfl, rv2, rfl, hb2⟩, hcs, hle, rfl⟩
  clear hcs hle
  obtain ⟨A2, c2, rfl, hc21, hc22⟩ := hb2.form
  obtain ⟨X2, hX2⟩ : ∃ X, X = (tk 3 X1.2) := ⟨_, rfl⟩
  rw [← hX2] at hb2 hc21 ⊢
  simp only [go_sem, simprocAttr, verV]
  refine pk (callH_does ([0]) ([]) ([]) ([]) (fun y css R G => R = [] ∧ y = .int .i64 (tk 1 X2.2).1 ∧ ∃ rv', css = [[rv', .int .i64 (tk 1 X2.2).2.f]] ∧ ByG G rv' (tk 1 X2.2).2.l) upV rfl rfl (by kernel_rfl) rfl (dk rfl) rfl rfl (by simp [ids, Diff]) (by simp) (fun G hG hh hM => take_does' (k := 1) (s := X2.2) hG.wf hh hM (hb2.mono (hG.le G2 (by simp))) (.inl (by omega)) (by omega)) (fun v css R G _ _ => upV_den css)) ?_
  rintro _ ⟨_, css, _, G3, ⟨rfl, rfl, rv3, rfl, hb3⟩, hcs, hle, rfl⟩
  clear hcs hle
  obtain ⟨A3, c3, rfl, hc31, hc32⟩ := hb3.form
  obtain ⟨X3, hX3⟩ : ∃ X, X = (tk 1 X2.2) := ⟨_, rfl⟩
  rw [← hX3] at hb3 hc31 ⊢
  simp only [go_sem, simprocAttr, verV]
  refine pk (callH_does ([0]) ([]) ([]) ([]) (fun y css R G => R = [] ∧ y = .int .i64 (tk 2 X3.2).1 ∧ ∃ rv', css = [[rv', .int .i64 (tk 2 X3.2).2.f]] ∧ ByG G rv' (tk 2 X3.2).2.l) upV rfl rfl (by kernel_rfl) rfl (dk rfl) rfl rfl (by simp [ids, Diff]) (by simp) (fun G hG hh hM => take_does' (k := 2) (s := X3.2) hG.wf hh hM (hb3.mono (hG.le G3 (by simp))) (.inl (by omega)) (by omega)) (fun v css R G _ _ => upV_den css)) ?_
  rintro _ ⟨_, css, _, G4, ⟨rfl, rfl, rv4, rfl, hb4⟩, hcs, hle, rfl⟩
  clear hcs hle
  obtain ⟨A4, c4, rfl, hc41, hc42⟩ := hb4.form
  obtain ⟨X4, hX4⟩ : ∃ X, X = (tk 2 X3.2) := ⟨_, rfl⟩
  rw [← hX4] at hb4 hc41 ⊢
  simp only [go_sem, simprocAttr, verV]
  have e : rc s = ({ rec0 6 with id := X2.1, vol := X3.1, at_ := X4.1 }, X4.2) := by
   rw [hrc, hm]
   show rcT 6 X1.2 = _
   rw [rcT_6]
   subst hX4
   subst hX3
   subst hX2
   rfl
  rw [e]
  refine fin_retH (G := G0) Tryz.results18 ?_
  simp only [go_sem, simprocAttr]
  intro aa w' _ _
  exact ⟨⟨_, _, _, rfl, ⟨intsQ_nil _, intsQ_nil _, intsQ_nil _⟩⟩, _, rfl, hb4.mono (by apply_assumption <;> simp)⟩
 ·simp only [go_sem, simprocAttr, show kdC (kd (7 : Int)) = [.bool false, .bool false, .bool false, .bool false, .bool false, .bool false, .bool true, .bool false, .bool false, .bool false, .bool false] from rfl]
  intro g2
  refine pk (callH_does ([0]) ([]) ([]) ([]) (fun y css R G => R = [] ∧ y = .agg #[.int .i64 (ak X1.2).1.ver, .int .i64 (ak X1.2).1.days, .int .i64 (ak X1.2).1.cls] ∧ ∃ rv', css = [[rv', .int .i64 (ak X1.2).2.f]] ∧ ByG G rv' (ak X1.2).2.l) upV rfl rfl (by kernel_rfl) rfl (dk rfl) rfl rfl (by simp [ids, Diff]) (by simp) (fun G hG hh hM => ask_does' (s := X1.2) hG.wf hh hM (hb1.mono (hG.le G1 (by simp)))) (fun v css R G _ _ => upV_den css)) ?_
  rintro _ ⟨_, css, _, G2, ⟨rfl, rfl, rv2, rfl, hb2⟩, hcs, hle, rfl⟩
  clear hcs hle
  obtain ⟨A2, c2, rfl, hc21, hc22⟩ := hb2.form
  obtain ⟨X2, hX2⟩ : ∃ X, X = (ak X1.2) := ⟨_, rfl⟩
  rw [← hX2] at hb2 hc21 ⊢
  simp only [go_sem, simprocAttr, verV]
  have e : rc s = ({ rec0 7 with ask := X2.1 }, X2.2) := by
   rw [hrc, hm]
   show rcT 7 X1.2 = _
   rw [rcT_7]
   subst hX2
   rfl
  rw [e]
  refine fin_retH (G := G0) Tryz.results18 ?_
  simp only [go_sem, simprocAttr]
  intro aa w' _ _
  exact ⟨⟨_, _, _, rfl, ⟨intsQ_nil _, intsQ_nil _, intsQ_nil _⟩⟩, _, rfl, hb2.mono (by apply_assumption <;> simp)⟩
 ·simp only [go_sem, simprocAttr, show kdC (kd (8 : Int)) = [.bool true, .bool true, .bool false, .bool false, .bool false, .bool false, .bool false, .bool false, .bool true, .bool false, .bool false] from rfl]
  intro g2
  refine pk (callH_does ([0]) ([]) ([]) ([]) (fun y css R G => R = [] ∧ y = .int .i64 (tk 3 X1.2).1 ∧ ∃ rv', css = [[rv', .int .i64 (tk 3 X1.2).2.f]] ∧ ByG G rv' (tk 3 X1.2).2.l) upV rfl rfl (by kernel_rfl) rfl (dk rfl) rfl rfl (by simp [ids, Diff]) (by simp) (fun G hG hh hM => take_does' (k := 3) (s := X1.2) hG.wf hh hM (hb1.mono (hG.le G1 (by simp))) (.inl (by omega)) (by omega)) (fun v css R G _ _ => upV_den css)) ?_
  rintro _ ⟨_, css, _, G2, ⟨rfl, rfl, rv2, rfl, hb2⟩, hcs, hle, rfl⟩
  clear hcs hle
  obtain ⟨A2, c2, rfl, hc21, hc22⟩ := hb2.form
  obtain ⟨X2, hX2⟩ : ∃ X, X = (tk 3 X1.2) := ⟨_, rfl⟩
  rw [← hX2] at hb2 hc21 ⊢
  simp only [go_sem, simprocAttr, verV]
  refine pk (callH_does ([0]) ([]) ([]) ([]) (fun y css R G => R = [] ∧ y = .int .i64 (tk 4 X2.2).1 ∧ ∃ rv', css = [[rv', .int .i64 (tk 4 X2.2).2.f]] ∧ ByG G rv' (tk 4 X2.2).2.l) upV rfl rfl (by kernel_rfl) rfl (dk rfl) rfl rfl (by simp [ids, Diff]) (by simp) (fun G hG hh hM => take_does' (k := 4) (s := X2.2) hG.wf hh hM (hb2.mono (hG.le G2 (by simp))) (.inl (by omega)) (by omega)) (fun v css R G _ _ => upV_den css)) ?_
  rintro _ ⟨_, css, _, G3, ⟨rfl, rfl, rv3, rfl, hb3⟩, hcs, hle, rfl⟩
  clear hcs hle
  obtain ⟨A3, c3, rfl, hc31, hc32⟩ := hb3.form
  obtain ⟨X3, hX3⟩ : ∃ X, X = (tk 4 X2.2) := ⟨_, rfl⟩
  rw [← hX3] at hb3 hc31 ⊢
  simp only [go_sem, simprocAttr, verV]
  refine pk (callH_does ([0]) ([]) ([]) ([]) (fun y css R G => R = [] ∧ IntsG G y (its X3.2).1 ∧ ∃ rv', css = [[rv', .int .i64 (its X3.2).2.f]] ∧ ByG G rv' (its X3.2).2.l) upV rfl rfl (by kernel_rfl) rfl (dk rfl) rfl rfl (by simp [ids, Diff]) (by simp) (fun G hG hh hM => ints_does (s := X3.2) hG.wf hh hM (hb3.mono (hG.le G3 (by simp)))) (fun v css R G _ _ => upV_den css)) ?_
  rintro _ ⟨_, css, _, G4, ⟨rfl, hiv, rv4, rfl, hb4⟩, hcs, hle, rfl⟩
  clear hcs hle
  obtain ⟨A4, c4, rfl, hc41, hc42⟩ := hb4.form
  obtain ⟨X4, hX4⟩ : ∃ X, X = (its X3.2) := ⟨_, rfl⟩
  rw [← hX4] at hb4 hc41 hiv ⊢
  obtain ⟨AI, ci, rfl, _⟩ := Sq.form hiv
  simp only [go_sem, simprocAttr, verV]
  have e : rc s = ({ rec0 8 with id := X2.1, n := X3.1, secs := X4.1 }, X4.2) := by
   rw [hrc, hm]
   show rcT 8 X1.2 = _
   rw [rcT_8]
   subst hX4
   subst hX3
   subst hX2
   rfl
  rw [e]
  refine fin_retH (G := G0) Tryz.results18 ?_
  simp only [go_sem, simprocAttr]
  intro aa w' _ _
  exact ⟨⟨_, _, _, rfl, ⟨intsQ_nil _, intsQ_nil _, hiv.mono (by apply_assumption <;> simp)⟩⟩, _, rfl, hb4.mono (by apply_assumption <;> simp)⟩
 ·simp only [go_sem, simprocAttr, show kdC (kd (9 : Int)) = [.bool true, .bool false, .bool false, .bool false, .bool false, .bool false, .bool false, .bool false, .bool false, .bool false, .bool false] from rfl]
  intro g2
  refine pk (callH_does ([0]) ([]) ([]) ([]) (fun y css R G => R = [] ∧ y = .int .i64 (tk 3 X1.2).1 ∧ ∃ rv', css = [[rv', .int .i64 (tk 3 X1.2).2.f]] ∧ ByG G rv' (tk 3 X1.2).2.l) upV rfl rfl (by kernel_rfl) rfl (dk rfl) rfl rfl (by simp [ids, Diff]) (by simp) (fun G hG hh hM => take_does' (k := 3) (s := X1.2) hG.wf hh hM (hb1.mono (hG.le G1 (by simp))) (.inl (by omega)) (by omega)) (fun v css R G _ _ => upV_den css)) ?_
  rintro _ ⟨_, css, _, G2, ⟨rfl, rfl, rv2, rfl, hb2⟩, hcs, hle, rfl⟩
  clear hcs hle
  obtain ⟨A2, c2, rfl, hc21, hc22⟩ := hb2.form
  obtain ⟨X2, hX2⟩ : ∃ X, X = (tk 3 X1.2) := ⟨_, rfl⟩
  rw [← hX2] at hb2 hc21 ⊢
  simp only [go_sem, simprocAttr, verV]
  have e : rc s = ({ rec0 9 with id := X2.1 }, X2.2) := by
   rw [hrc, hm]
   show rcT 9 X1.2 = _
   rw [rcT_9]
   subst hX2
   rfl
  rw [e]
  refine fin_retH (G := G0) Tryz.results18 ?_
  simp only [go_sem, simprocAttr]
  intro aa w' _ _
  exact ⟨⟨_, _, _, rfl, ⟨intsQ_nil _, intsQ_nil _, intsQ_nil _⟩⟩, _, rfl, hb2.mono (by apply_assumption <;> simp)⟩
 ·simp only [go_sem, simprocAttr, show kdC (kd (10 : Int)) = [.bool true, .bool false, .bool true, .bool true, .bool false, .bool false, .bool false, .bool false, .bool false, .bool false, .bool false] from rfl]
  intro g2
  refine pk (callH_does ([0]) ([]) ([]) ([]) (fun y css R G => R = [] ∧ y = .int .i64 (tk 3 X1.2).1 ∧ ∃ rv', css = [[rv', .int .i64 (tk 3 X1.2).2.f]] ∧ ByG G rv' (tk 3 X1.2).2.l) upV rfl rfl (by kernel_rfl) rfl (dk rfl) rfl rfl (by simp [ids, Diff]) (by simp) (fun G hG hh hM => take_does' (k := 3) (s := X1.2) hG.wf hh hM (hb1.mono (hG.le G1 (by simp))) (.inl (by omega)) (by omega)) (fun v css R G _ _ => upV_den css)) ?_
  rintro _ ⟨_, css, _, G2, ⟨rfl, rfl, rv2, rfl, hb2⟩, hcs, hle, rfl⟩
  clear hcs hle
  obtain ⟨A2, c2, rfl, hc21, hc22⟩ := hb2.form
  obtain ⟨X2, hX2⟩ : ∃ X, X = (tk 3 X1.2) := ⟨_, rfl⟩
  rw [← hX2] at hb2 hc21 ⊢
  simp only [go_sem, simprocAttr, verV]
  refine pk (callH_does ([0]) ([]) ([]) ([]) (fun y css R G => R = [] ∧ y = .string (tx X2.2).1 ∧ ∃ rv', css = [[rv', .int .i64 (tx X2.2).2.f]] ∧ ByG G rv' (tx X2.2).2.l) upV rfl rfl (by kernel_rfl) rfl (dk rfl) rfl rfl (by simp [ids, Diff]) (by simp) (fun G hG hh hM => rtext_does (s := X2.2) hG.wf hh hM (hb2.mono (hG.le G2 (by simp)))) (fun v css R G _ _ => upV_den css)) ?_
  rintro _ ⟨_, css, _, G3, ⟨rfl, rfl, rv3, rfl, hb3⟩, hcs, hle, rfl⟩
  clear hcs hle
  obtain ⟨A3, c3, rfl, hc31, hc32⟩ := hb3.form
  obtain ⟨X3, hX3⟩ : ∃ X, X = (tx X2.2) := ⟨_, rfl⟩
  rw [← hX3] at hb3 hc31 ⊢
  simp only [go_sem, simprocAttr, verV]
  refine pk (callH_does ([0]) ([]) ([]) ([]) (fun y css R G => R = [] ∧ y = .string (tx X3.2).1 ∧ ∃ rv', css = [[rv', .int .i64 (tx X3.2).2.f]] ∧ ByG G rv' (tx X3.2).2.l) upV rfl rfl (by kernel_rfl) rfl (dk rfl) rfl rfl (by simp [ids, Diff]) (by simp) (fun G hG hh hM => rtext_does (s := X3.2) hG.wf hh hM (hb3.mono (hG.le G3 (by simp)))) (fun v css R G _ _ => upV_den css)) ?_
  rintro _ ⟨_, css, _, G4, ⟨rfl, rfl, rv4, rfl, hb4⟩, hcs, hle, rfl⟩
  clear hcs hle
  obtain ⟨A4, c4, rfl, hc41, hc42⟩ := hb4.form
  obtain ⟨X4, hX4⟩ : ∃ X, X = (tx X3.2) := ⟨_, rfl⟩
  rw [← hX4] at hb4 hc41 ⊢
  simp only [go_sem, simprocAttr, verV]
  have e : rc s = ({ rec0 10 with id := X2.1, name := X3.1, key := X4.1 }, X4.2) := by
   rw [hrc, hm]
   show rcT 10 X1.2 = _
   rw [rcT_10]
   subst hX4
   subst hX3
   subst hX2
   rfl
  rw [e]
  refine fin_retH (G := G0) Tryz.results18 ?_
  simp only [go_sem, simprocAttr]
  intro aa w' _ _
  exact ⟨⟨_, _, _, rfl, ⟨intsQ_nil _, intsQ_nil _, intsQ_nil _⟩⟩, _, rfl, hb4.mono (by apply_assumption <;> simp)⟩
 ·simp only [go_sem, simprocAttr, show kdC (kd (11 : Int)) = [.bool true, .bool false, .bool false, .bool false, .bool false, .bool false, .bool false, .bool true, .bool false, .bool false, .bool false] from rfl]
  intro g2
  refine pk (callH_does ([0]) ([]) ([]) ([]) (fun y css R G => R = [] ∧ y = .int .i64 (tk 3 X1.2).1 ∧ ∃ rv', css = [[rv', .int .i64 (tk 3 X1.2).2.f]] ∧ ByG G rv' (tk 3 X1.2).2.l) upV rfl rfl (by kernel_rfl) rfl (dk rfl) rfl rfl (by simp [ids, Diff]) (by simp) (fun G hG hh hM => take_does' (k := 3) (s := X1.2) hG.wf hh hM (hb1.mono (hG.le G1 (by simp))) (.inl (by omega)) (by omega)) (fun v css R G _ _ => upV_den css)) ?_
  rintro _ ⟨_, css, _, G2, ⟨rfl, rfl, rv2, rfl, hb2⟩, hcs, hle, rfl⟩
  clear hcs hle
  obtain ⟨A2, c2, rfl, hc21, hc22⟩ := hb2.form
  obtain ⟨X2, hX2⟩ : ∃ X, X = (tk 3 X1.2) := ⟨_, rfl⟩
  rw [← hX2] at hb2 hc21 ⊢
  simp only [go_sem, simprocAttr, verV]
  refine pk (callH_does ([0]) ([]) ([]) ([]) (fun y css R G => R = [] ∧ (∃ sv, y = .agg #[.int .i64 (pt X2.2).1.n, .int .i64 (pt X2.2).1.size, sv] ∧ IntsG G sv (pt X2.2).1.secs) ∧ ∃ rv', css = [[rv', .int .i64 (pt X2.2).2.f]] ∧ ByG G rv' (pt X2.2).2.l) upV rfl rfl (by kernel_rfl) rfl (dk rfl) rfl rfl (by simp [ids, Diff]) (by simp) (fun G hG hh hM => part_does (s := X2.2) hG.wf hh hM (hb2.mono (hG.le G2 (by simp)))) (fun v css R G _ _ => upV_den css)) ?_
  rintro _ ⟨_, css, _, G3, ⟨rfl, ⟨sv, rfl, hiv⟩, rv3, rfl, hb3⟩, hcs, hle, rfl⟩
  clear hcs hle
  obtain ⟨A3, c3, rfl, hc31, hc32⟩ := hb3.form
  obtain ⟨X3, hX3⟩ : ∃ X, X = (pt X2.2) := ⟨_, rfl⟩
  rw [← hX3] at hb3 hc31 hiv ⊢
  obtain ⟨AI, ci, rfl, _⟩ := Sq.form hiv
  simp only [go_sem, simprocAttr, verV]
  have e : rc s = ({ rec0 11 with id := X2.1, part := X3.1 }, X3.2) := by
   rw [hrc, hm]
   show rcT 11 X1.2 = _
   rw [rcT_11]
   subst hX3
   subst hX2
   rfl
  rw [e]
  refine fin_retH (G := G0) Tryz.results18 ?_
  simp only [go_sem, simprocAttr]
  intro aa w' _ _
  exact ⟨⟨_, _, _, rfl, ⟨intsQ_nil _, hiv.mono (by apply_assumption <;> simp), intsQ_nil _⟩⟩, _, rfl, hb3.mono (by apply_assumption <;> simp)⟩
 ·simp only [go_sem, simprocAttr, show kdC (kd (12 : Int)) = [.bool true, .bool false, .bool false, .bool false, .bool false, .bool false, .bool false, .bool false, .bool false, .bool false, .bool false] from rfl]
  intro g2
  refine pk (callH_does ([0]) ([]) ([]) ([]) (fun y css R G => R = [] ∧ y = .int .i64 (tk 3 X1.2).1 ∧ ∃ rv', css = [[rv', .int .i64 (tk 3 X1.2).2.f]] ∧ ByG G rv' (tk 3 X1.2).2.l) upV rfl rfl (by kernel_rfl) rfl (dk rfl) rfl rfl (by simp [ids, Diff]) (by simp) (fun G hG hh hM => take_does' (k := 3) (s := X1.2) hG.wf hh hM (hb1.mono (hG.le G1 (by simp))) (.inl (by omega)) (by omega)) (fun v css R G _ _ => upV_den css)) ?_
  rintro _ ⟨_, css, _, G2, ⟨rfl, rfl, rv2, rfl, hb2⟩, hcs, hle, rfl⟩
  clear hcs hle
  obtain ⟨A2, c2, rfl, hc21, hc22⟩ := hb2.form
  obtain ⟨X2, hX2⟩ : ∃ X, X = (tk 3 X1.2) := ⟨_, rfl⟩
  rw [← hX2] at hb2 hc21 ⊢
  simp only [go_sem, simprocAttr, verV]
  have e : rc s = ({ rec0 12 with id := X2.1 }, X2.2) := by
   rw [hrc, hm]
   show rcT 12 X1.2 = _
   rw [rcT_12]
   subst hX2
   rfl
  rw [e]
  refine fin_retH (G := G0) Tryz.results18 ?_
  simp only [go_sem, simprocAttr]
  intro aa w' _ _
  exact ⟨⟨_, _, _, rfl, ⟨intsQ_nil _, intsQ_nil _, intsQ_nil _⟩⟩, _, rfl, hb2.mono (by apply_assumption <;> simp)⟩
 ·simp only [go_sem, simprocAttr, show kdC (kd (13 : Int)) = [.bool false, .bool true, .bool false, .bool false, .bool false, .bool false, .bool false, .bool false, .bool false, .bool false, .bool false] from rfl]
  intro g2
  refine pk (callH_does ([0]) ([]) ([]) ([]) (fun y css R G => R = [] ∧ y = .int .i64 (tk 4 X1.2).1 ∧ ∃ rv', css = [[rv', .int .i64 (tk 4 X1.2).2.f]] ∧ ByG G rv' (tk 4 X1.2).2.l) upV rfl rfl (by kernel_rfl) rfl (dk rfl) rfl rfl (by simp [ids, Diff]) (by simp) (fun G hG hh hM => take_does' (k := 4) (s := X1.2) hG.wf hh hM (hb1.mono (hG.le G1 (by simp))) (.inl (by omega)) (by omega)) (fun v css R G _ _ => upV_den css)) ?_
  rintro _ ⟨_, css, _, G2, ⟨rfl, rfl, rv2, rfl, hb2⟩, hcs, hle, rfl⟩
  clear hcs hle
  obtain ⟨A2, c2, rfl, hc21, hc22⟩ := hb2.form
  obtain ⟨X2, hX2⟩ : ∃ X, X = (tk 4 X1.2) := ⟨_, rfl⟩
  rw [← hX2] at hb2 hc21 ⊢
  simp only [go_sem, simprocAttr, verV]
  have e : rc s = ({ rec0 13 with n := X2.1 }, X2.2) := by
   rw [hrc, hm]
   show rcT 13 X1.2 = _
   rw [rcT_13]
   subst hX2
   rfl
  rw [e]
  refine fin_retH (G := G0) Tryz.results18 ?_
  simp only [go_sem, simprocAttr]
  intro aa w' _ _
  exact ⟨⟨_, _, _, rfl, ⟨intsQ_nil _, intsQ_nil _, intsQ_nil _⟩⟩, _, rfl, hb2.mono (by apply_assumption <;> simp)⟩
 ·simp only [go_sem, simprocAttr, show kdC (kd (14 : Int)) = [.bool false, .bool false, .bool false, .bool false, .bool false, .bool false, .bool false, .bool false, .bool false, .bool true, .bool false] from rfl]
  intro g2
  refine pk (callH_does ([0]) ([]) ([]) ([]) (fun y css R G => R = [] ∧ y = .int .i64 (tk 1 X1.2).1 ∧ ∃ rv', css = [[rv', .int .i64 (tk 1 X1.2).2.f]] ∧ ByG G rv' (tk 1 X1.2).2.l) upV rfl rfl (by kernel_rfl) rfl (dk rfl) rfl rfl (by simp [ids, Diff]) (by simp) (fun G hG hh hM => take_does' (k := 1) (s := X1.2) hG.wf hh hM (hb1.mono (hG.le G1 (by simp))) (.inl (by omega)) (by omega)) (fun v css R G _ _ => upV_den css)) ?_
  rintro _ ⟨_, css, _, G2, ⟨rfl, rfl, rv2, rfl, hb2⟩, hcs, hle, rfl⟩
  clear hcs hle
  obtain ⟨A2, c2, rfl, hc21, hc22⟩ := hb2.form
  obtain ⟨X2, hX2⟩ : ∃ X, X = (tk 1 X1.2) := ⟨_, rfl⟩
  rw [← hX2] at hb2 hc21 ⊢
  simp only [go_sem, simprocAttr, verV]
  have e : rc s = ({ rec0 14 with vol := X2.1 }, X2.2) := by
   rw [hrc, hm]
   show rcT 14 X1.2 = _
   rw [rcT_14]
   subst hX2
   rfl
  rw [e]
  refine fin_retH (G := G0) Tryz.results18 ?_
  simp only [go_sem, simprocAttr]
  intro aa w' _ _
  exact ⟨⟨_, _, _, rfl, ⟨intsQ_nil _, intsQ_nil _, intsQ_nil _⟩⟩, _, rfl, hb2.mono (by apply_assumption <;> simp)⟩
end Go.Proofs.YtohdfcnjcpjdcaaGreatDoor
/- Decode: records from their bytes. Conditions: as each law states them. -/
namespace Go.Proofs.YtohdfcnjcpjdcaaGreatDoor
open Go.RowKit
set_option linter.unusedSimpArgs false
def stR (a : List Rec) (s : RS) : List Rec × RS := (a ++ [(rc s).1], (rc s).2)
def dcM (l : List UInt8) : List Rec × RS := mny stR [] ⟨l, 0⟩
/-- records from their bytes -/
def decR (l : List UInt8) : List Rec × Int := if (en (dcM l).2).f = 0 then ((dcM l).1, 0) else ([], (en (dcM l).2).f)
structure RQ where
 r : Rec
 vs : Value
 ps : Value
 ss : Value
def recQ (x : RQ) : List Value := recV x.r x.vs x.ps x.ss
theorem recQ_len (x : RQ) : (recQ x).length = 29 := rfl
structure RQ.Ok (G : GW) (x : RQ) : Prop where
 g : RxG G x.r x.vs x.ps x.ss
 f : i64 (x.r.rule.freeze + 1)
 d : i64 (x.r.rule.drop + 1)
theorem RQ.Ok.mono {G G' : GW} {x : RQ} (h : x.Ok G) (hl : G.Le G') : x.Ok G' := ⟨h.g.mono hl, h.f, h.d⟩
theorem chunks_mapQ {α : Type} {f : α → List Value} {k : Nat} (hf : ∀ x, (f x).length = k) (l : List α) : ∀ cs ∈ l.map f, cs.length = k := by
 intro cs hcs
 obtain ⟨x, _, rfl⟩ := List.mem_map.1 hcs
 exact hf x
theorem rxs_of {G : GW} {v : Value} {l : List RQ} (h : Sl G 50 29 l.length v (l.flatMap recQ)) (hk : ∀ x ∈ l, x.Ok G) : RxsG G v (l.map (·.r)) := by
 refine ⟨l.map recQ, ⟨by simp, chunks_mapQ recQ_len l, fun i cs x h1 h2 => ?_⟩, by rw [List.length_map, ← List.flatMap_def]; exact h⟩
 rw [List.getElem?_map] at h1 h2
 cases hp : l[i]? with
 | none => rw [hp] at h2; cases h2
 | some p =>
  rw [hp] at h1 h2
  cases h1
  cases h2
  have hx := hk p (List.mem_of_getElem? hp)
  exact ⟨p.vs, p.ps, p.ss, rfl, hx.g, hx.f, hx.d⟩
theorem recQ_one (r : Rec) (A B C : Option Addr) (n m k a b c : Nat) : ∀ u ∈ recV r (.slice A n a) (.slice B m b) (.slice C k c), u.oneCell' = true :=
 fun u hu => List.all_eq_true.1 (show (recV r (.slice A n a) (.slice B m b) (.slice C k c)).all (fun u => u.oneCell') = true from rfl) u hu
theorem rc_rule (s : RS) : i64 ((rc s).1.rule.freeze + 1) ∧ i64 ((rc s).1.rule.drop + 1) := by
 have h0 : i64 ((noR).freeze + 1) ∧ i64 ((noR).drop + 1) := ⟨⟨by decide, by decide⟩, ⟨by decide, by decide⟩⟩
 unfold rc
 split
 ·have h := (bd_rcT (tk 1 s).1 (rcK (tk 1 s))).2.2.2.2.1
  have e : (rcT (tk 1 s).1 (rcK (tk 1 s))).1.rule = (rcT (tk 1 s).1 (rcK (tk 1 s))).1.rule := rfl
  generalize (rcT (tk 1 s).1 (rcK (tk 1 s))).1 = r at h ⊢
  generalize (kd (tk 1 s).1).rule = b at h
  cases b with
  | true =>
   obtain ⟨_, h1, h2⟩ : okRl r.rule := h
   exact ⟨⟨by omega, by omega⟩, ⟨by omega, by omega⟩⟩
  | false =>
   have e : r.rule = noR := h
   rw [e]
   exact h0
 ·exact h0
set_option maxRecDepth 100000 in
set_option maxHeartbeats 16000000 in
theorem dec_does {bv : Value} {l : List UInt8} {G0 : GW} (hW : G0.Wf) (hb0 : ByG G0 bv l) (hl : l.length ≤ 2000000) (hK : KindsG G0) :
  Calls Tryz.prog 7 #[bv] G0.w (Ret G0 fun y G => ∃ ov, y = .tuple #[ov, .int .i64 (decR l).2] ∧ RxsG G ov (decR l).1) := by
 obtain ⟨A, c, rfl, hc1, hc2⟩ := hb0.form
 have hml := max_le
 refine enterS (G := G0) (n := 36) 3000 hW Tryz.func7 rfl Tryz.ntmps7 (by simp) ?_
 simp only [go_sem, simprocAttr]
 refine pk (callH_does ([]) ([]) ([]) ([]) (fun y _ R _ => ∃ A c, y = .slice A l.length c ∧ R = [bytRow (.slice A l.length c) l]) upV rfl rfl (by kernel_rfl) rfl (dk rfl) rfl rfl (by simp [ids, Diff]) (by simp) (fun G hG hh hM => cloneByte_does hG.wf (Sq.mono hb0.sq byteG_mono (hG.le G0 (by simp))) (by omega)) (fun v css R G _ _ => upV_den css)) ?_
 rintro _ ⟨_, css, _, GC, ⟨Ac, cc, rfl, rfl⟩, hcs, hle, rfl⟩
 clear hcs hle
 simp only [go_sem, simprocAttr]
 intro g
 refine read_ok (R1 := []) rfl (fun GB hleB hslB => ?_) (fun _ _ q => q) (by show (1 : Nat) ≠ 0; decide)
 have hb : ByG GB (.slice Ac l.length cc) l := by
  have h9 : Sl GB 5 1 l.length (.slice Ac l.length cc) (l.flatMap bytC) := hslB
  rw [bytC_flat] at h9
  exact h9
 simp only [St.seen, St.rowsTo, List.nil_append]
 refine pk (callH_does ([0]) ([]) ([]) ([]) (fun y css R G => R = [] ∧ y = .int .i64 (tk 1 (⟨l, 0⟩ : RS)).1 ∧ ∃ rv', css = [[rv', .int .i64 (tk 1 (⟨l, 0⟩ : RS)).2.f]] ∧ ByG G rv' (tk 1 (⟨l, 0⟩ : RS)).2.l) upV rfl rfl (by kernel_rfl) rfl (dk rfl) rfl rfl (by simp [ids, Diff]) (by simp) (fun G hG hh hM => take_does' (k := 1) (s := (⟨l, 0⟩ : RS)) hG.wf hh hM (hb.mono (hG.le GB (by simp))) (.inl (by omega)) (by omega)) (fun v css R G _ _ => upV_den css)) ?_
 rintro _ ⟨_, css, _, G1, ⟨rfl, rfl, rv1, rfl, hb1⟩, hcs, hle, rfl⟩
 clear hcs hle
 have hbd := tk1_bd (⟨l, 0⟩ : RS)
 have hdm : dcM l = mn stR (tk 1 (⟨l, 0⟩ : RS)).1.toNat [] (tk 1 (⟨l, 0⟩ : RS)).2 := rfl
 obtain ⟨N, hN⟩ : ∃ N : Nat, (tk 1 (⟨l, 0⟩ : RS)).1 = (N : Int) := ⟨(tk 1 (⟨l, 0⟩ : RS)).1.toNat, by omega⟩
 rw [hN] at hbd hdm ⊢
 rw [Int.toNat_natCast] at hdm
 generalize (tk 1 (⟨l, 0⟩ : RS)).2 = s1 at hb1 hdm ⊢
 clear hN
 simp only [go_sem, simprocAttr]
 refine row_ok 50 29 ?_
 simp only [St.rowsTo]
 refine loop_ok (N := 3000) (ι := Nat × Value × RS × List RQ × (Option Addr × Nat) × GW)
  (fun i => match i with | (n, v, s, x, (B, d), G) => ⟨[(4, .c (.p 0 g 0)), (5, .c (.v (.slice B x.length d))), (6, .c (.v (.int .i64 (n : Int))))], [⟨0, g, 68, [.v v, .v (.int .i64 s.f)]⟩], [⟨.slice B x.length d, 50, 29, x.length, x.flatMap recQ⟩], [], [G, G0], 1⟩)
  (fun i => match i with | (n, v, s, x, (B, d), G) => x.length + n ≤ 255 ∧ mn stR n (x.map (·.r)) s = dcM l ∧ ByG G v s.l ∧ ∀ q ∈ x, q.Ok G) (fun i => i.1) (QOk_body _ _ _) (N, rv1, s1, [], (none, 0), G1) ⟨by show 0 + N ≤ 255; omega, hdm.symm, hb1, fun q hq => by cases hq⟩ (by simp only [go_sem, simprocAttr]; simp) ?_
 rintro ⟨n, v, s, x, ⟨B, d⟩, GA⟩ ⟨hxn, hmn, hbv, hxo⟩
 simp only
 by_cases hgo : 0 < n ∧ s.f = 0
 ·obtain ⟨hn0, hs0⟩ := hgo
  have q1 : decide (0 < (n : Int)) = true := decide_eq_true (by omega)
  have q2 : decide (s.f = 0) = true := decide_eq_true hs0
  obtain ⟨k, rfl⟩ : ∃ k, n = k + 1 := ⟨n - 1, by omega⟩
  rw [mn, if_pos hs0] at hmn
  simp only [go_sem, simprocAttr, q1, q2]
  refine pk (callH_does ([0]) ([]) ([]) ([⟨.slice B x.length d, 50, 29, x.length, x.flatMap recQ⟩]) (fun y css R G => R = [] ∧ (∃ vs ps ss, y = .agg (recV (rc s).1 vs ps ss).toArray ∧ RxG G (rc s).1 vs ps ss) ∧ ∃ rv', css = [[rv', .int .i64 (rc s).2.f]] ∧ ByG G rv' (rc s).2.l) upV rfl rfl (by kernel_rfl) rfl (dk rfl) rfl rfl (by simp [ids, Diff]) (by simp) (fun G hG hh hM => rrecord_does (s := s) hG.wf hh hM (hbv.mono (hG.le GA (by simp))) (BlkG.mono hK (hG.le G0 (by simp)))) (fun v css R G _ _ => upV_den css)) ?_
  rintro _ ⟨_, css, _, G2, ⟨rfl, ⟨vs, ps, ss, rfl, hx⟩, rv2, rfl, hb2⟩, hcs, hle, rfl⟩
  have hl2 : GA.Le G2 := hle GA (by simp)
  clear hcs hle
  obtain ⟨Av, cv, rfl, _⟩ := Sq.form hx.v
  obtain ⟨Ap, cp, rfl, _⟩ := Sq.form hx.p
  obtain ⟨As, cs, rfl, _⟩ := Sq.form hx.s
  have hrr := rc_rule s
  have hmn' : mn stR k ((x ++ [(⟨(rc s).1, .slice Av (rc s).1.ver.secs.length cv, .slice Ap (rc s).1.part.secs.length cp, .slice As (rc s).1.secs.length cs⟩ : RQ)]).map (·.r)) (rc s).2 = dcM l := by
   rw [List.map_append]
   exact hmn
  obtain ⟨X, hX⟩ : ∃ X, X = rc s := ⟨_, rfl⟩
  rw [← hX] at hx hb2 hrr hmn' ⊢
  clear hX hmn
  have e1 : ((k + 1 : Nat) : Int) - 1 = (k : Int) := by omega
  simp only [go_sem, simprocAttr, recV]
  intro gL
  refine pk (append_does (R1 := []) (R2 := []) (n := x.length) (v := .slice B x.length d) (xs := x.flatMap recQ) (m := 1) (news := recV X.1 (.slice Av X.1.ver.secs.length cv) (.slice Ap X.1.part.secs.length cp) (.slice As X.1.secs.length cs)) rfl tySlice30 tyApp50 rfl rfl rfl rfl (dk rfl) (recQ_one _ _ _ _ _ _ _ _ _ _) (by unfold maxLen; omega) (by omega) (fun G hG => tsl_blk hG List.mem_cons_self rfl (by unfold maxLen; omega))) ?_
  rintro _ ⟨A', c', rfl⟩
  simp only [go_sem, simprocAttr, e1]
  refine ⟨by omega, ?_⟩
  refine again_ok (k, rv2, X.2, x ++ [(⟨X.1, .slice Av X.1.ver.secs.length cv, .slice Ap X.1.part.secs.length cp, .slice As X.1.secs.length cs⟩ : RQ)], (A', c'), G2) ⟨by rw [List.length_append]; show x.length + 1 + k ≤ 255; omega, hmn', hb2, fun q hq => ?_⟩ (by show k < k + 1; omega) (by simp only [go_sem, simprocAttr, List.length_append, List.length_cons, List.length_nil, List.flatMap_append, List.flatMap_cons, List.flatMap_nil, List.append_nil, recQ]; simp)
  rcases List.mem_append.1 hq with hq | hq
  ·exact (hxo q hq).mono hl2
  ·rw [List.mem_singleton.1 hq]
   exact ⟨hx, hrr.1, hrr.2⟩
 have hq : (decide (0 < (n : Int)) && decide (s.f = 0)) = false := by
  by_cases h1 : s.f = 0
  ·have h2 : n = 0 := by
    rcases Nat.eq_zero_or_pos n with h | h
    ·exact h
    ·exact absurd ⟨h, h1⟩ hgo
   rw [decide_eq_false (show ¬ 0 < (n : Int) by omega)]
   rfl
  ·rw [decide_eq_false h1, Bool.and_false]
 have hM2 : dcM l = (x.map (·.r), s) := by
  rw [← hmn]
  cases n with
  | zero => rfl
  | succ n =>
   rw [mn, if_neg]
   exact fun h1 => hgo ⟨by omega, h1⟩
 simp only [go_sem, simprocAttr, hq]
 refine pk (callH_does ([0]) ([]) ([]) ([⟨.slice B x.length d, 50, 29, x.length, x.flatMap recQ⟩]) (fun y css R G => R = [] ∧ y = .int .i64 (en s).f ∧ ∃ rv', css = [[rv', .int .i64 (en s).f]] ∧ ByG G rv' (en s).l) upV rfl rfl (by kernel_rfl) rfl (dk rfl) rfl rfl (by simp [ids, Diff]) (by simp) (fun G hG hh hM => end_does (s := s) hG.wf hh hM (hbv.mono (hG.le GA (by simp)))) (fun v css R G _ _ => upV_den css)) ?_
 rintro _ ⟨_, css, _, G3, ⟨rfl, rfl, rv3, rfl, hb3⟩, hcs, hle, rfl⟩
 have hl3 : GA.Le G3 := hle GA (by simp)
 clear hcs hle
 by_cases he : (en s).f = 0
 ·have qe : decide ((en s).f = 0) = true := decide_eq_true he
  have e : decR l = (x.map (·.r), 0) := by unfold decR; rw [hM2, if_pos he]
  rw [e]
  simp only [go_sem, simprocAttr, qe, Bool.not_true]
  refine read_ok (R1 := []) rfl (fun GF hleF hslF => ?_) (fun _ _ q => q) (by show (29 : Nat) ≠ 0; decide)
  have hrx : RxsG GF (.slice B x.length d) (x.map (·.r)) := rxs_of hslF (fun q hq => (hxo q hq).mono (hl3.trans (hleF G3 (by simp))))
  refine fin_ret (G := G0) Tryz.results7 ?_
  simp only [go_sem, simprocAttr]
  intro aa w' _ hle
  exact ⟨_, rfl, Sq.mono hrx rxCs_mono (hle GF (by simp))⟩
 ·have qe : decide ((en s).f = 0) = false := decide_eq_false he
  have e : decR l = ([], (en s).f) := by unfold decR; rw [hM2, if_neg he]
  rw [e]
  simp only [go_sem, simprocAttr, qe, Bool.not_false]
  refine fin_ret (G := G0) Tryz.results7 ?_
  simp only [go_sem, simprocAttr]
  intro aa w' _ _
  exact ⟨_, rfl, Sq.nil⟩
end Go.Proofs.YtohdfcnjcpjdcaaGreatDoor
/- What may be written is written. Conditions: as each law states them. -/
namespace Go.Proofs.YtohdfcnjcpjdcaaGreatDoor
open Go.RowKit
set_option linter.unusedSimpArgs false
theorem encL_ok : ∀ (l : List Rec) (acc : List UInt8), (∀ r ∈ l, okRc r) → encL acc l = (acc ++ l.flatMap rcB, 0)
 | [], acc, _ => by rw [encL, List.flatMap_nil, List.append_nil]
 | r :: l, acc, h => by
  rw [encL, if_pos (chk_iff.2 (h r List.mem_cons_self)), encL_ok l _ (fun x hx => h x (List.mem_cons_of_mem _ hx)), List.flatMap_cons, List.append_assoc]
end Go.Proofs.YtohdfcnjcpjdcaaGreatDoor
