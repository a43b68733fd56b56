/- Encode: records as bytes. Conditions: as each law states them. -/
import Derived.Test.YtohdfcnjcpjdcaaDoorQ8q
namespace Go.Proofs.YtohdfcnjcpjdcaaDoor
open Go.RowKit
set_option linter.unusedSimpArgs false
def encL (acc : List UInt8) : List Rec → List UInt8 × Int
  | [] => (acc, 0)
  | r :: rs => if chk r = 0 then encL (acc ++ rcB r) rs else ([], chk r)
/-- records as bytes -/
def encR (l : List Rec) : List UInt8 × Int := if 255 < l.length then ([], 1) else encL (numB (l.length : Int) 1) l
theorem rcB_len {r : Rec} (h : okRc r) : (rcB r).length ≤ 2200 := by
  obtain ⟨hk, hF, _⟩ := okRc_iff.1 h
  obtain ⟨f1, f2, f3, f4, ⟨g1, g2, g3⟩, ⟨v1, v2, v3, _, _, v4, v5, v6, ⟨v7, _⟩, v8, v9, v10⟩, ⟨a1, a2, a3⟩, ⟨p1, p2, ⟨p3, _⟩⟩, ⟨f9, _⟩, f10, f11⟩ := hF
  have op : ∀ {α : Type} (b : Bool) (wr : α → List UInt8) (x : α) (n : Nat), (wr x).length ≤ n → (opB b wr x).length ≤ n := fun b wr x n hx => by
    cases b with
    | true => exact hx
    | false => exact Nat.zero_le _
  unfold rcB tlB
  simp only [List.length_append, numB_len]
  have h1 := op (kd r.kind).id (fun n => numB n 3) r.id 3 (by rw [numB_len]; omega)
  have h2 := op (kd r.kind).name txB r.name 256 (by rw [txB_len]; omega)
  have h3 := op (kd r.kind).key txB r.key 256 (by rw [txB_len]; omega)
  have h4 := op (kd r.kind).n (fun n => numB n 4) r.n 4 (by rw [numB_len]; omega)
  have h5 := op (kd r.kind).rule ruB r.rule 264 (by rw [ruq_len]; omega)
  have h6 := op (kd r.kind).ver vrB r.ver 800 (by rw [vrq_len]; omega)
  have h7 := op (kd r.kind).ask akB r.ask 6 (by rw [akq_len]; omega)
  have h8 := op (kd r.kind).part ptB r.part 260 (by rw [ptq_len]; omega)
  have h9 := op (kd r.kind).secs itB r.secs 256 (by rw [itB_len]; omega)
  have h10 := op (kd r.kind).vol (fun n => numB n 1) r.vol 1 (by rw [numB_len]; omega)
  have h11 := op (kd r.kind).at_ (fun n => numB n 2) r.at_ 2 (by rw [numB_len]; omega)
  omega
theorem drop_getq {α : Type} {l : List α} {i : Nat} {x : α} (h : l[i]? = some x) : l.drop i = x :: l.drop (i + 1) := by
  obtain ⟨hlt, e⟩ := List.getElem?_eq_some_iff.1 h
  rw [List.drop_eq_getElem_cons hlt, e]
/-- a record among others in memory -/
def RxCs (G : GW) (r : Rec) (cs : List Value) : Prop := ∃ vs ps ss, cs = recV r vs ps ss ∧ RxG G r vs ps ss ∧ i64 (r.rule.freeze + 1) ∧ i64 (r.rule.drop + 1)
theorem rxCs_mono : MonoR RxCs := fun _ _ _ _ hl ⟨vs, ps, ss, e, h, r⟩ => ⟨vs, ps, ss, e, h.mono hl, r⟩
def RxsG (G : GW) (v : Value) (l : List Rec) : Prop := Sq RxCs 33 29 G v l
set_option maxRecDepth 100000 in
set_option maxHeartbeats 16000000 in
theorem enc_does {lv : Value} {l : List Rec} {G0 : GW} (hW : G0.Wf) (h : RxsG G0 lv l) (hK : KindsG G0) :
    Calls Tryd.prog 6 #[lv] G0.w (Ret G0 fun y G => ∃ bv, y = .tuple #[bv, .int .i64 (encR l).2] ∧ ByG G bv (encR l).1) := by
  obtain ⟨A, c, rfl, hc1, hc2⟩ := Sq.form h
  have hml := max_le
  refine enterS (G := G0) (n := 36) 3000 hW Tryd.func6 rfl Tryd.ntmps6 (by simp) ?_
  by_cases hll : 255 < l.length
  · have q0 : decide (255 < (l.length : Int)) = true := decide_eq_true (by omega)
    simp only [go_sem, simprocAttr, q0]
    refine fin_ret (G := G0) Tryd.results6 ?_
    simp only [go_sem, simprocAttr]
    intro aa w' _ _
    have he : encR l = ([], 1) := by unfold encR; rw [if_pos hll]
    rw [he]
    exact ⟨_, rfl, ByG.nil _⟩
  have q0 : decide (255 < (l.length : Int)) = false := decide_eq_false (by omega)
  have he0 : encR l = encL (numB (l.length : Int) 1) l := by unfold encR; rw [if_neg hll]
  rw [he0]
  simp only [go_sem, simprocAttr, q0]
  intro gw
  refine row_ok 5 1 ?_
  simp only [St.rowsTo]
  refine plain_ok (N := 3000) (callH_does ([0]) ([]) ([bytRow (.slice none 0 0) ([] : List UInt8)]) ([]) (fun _ css R G => ∃ wv', css = [[wv']] ∧ R = [bytRow wv' (([] : List UInt8) ++ numB (l.length : Int) 1)]) upV rfl rfl (by kernel_rfl) rfl (dk rfl) rfl rfl (by simp [ids, Diff]) (by simp) (fun G hG hh hM => put_does (n := (l.length : Int)) (k := 1) hG.wf hh hM (by omega) (by simp)) (fun v css R G _ _ => upV_den css)) (QOk_body _ _ _) (by first | exact .inl rfl | exact .inr ⟨_, _, rfl, rfl⟩) ?_
  rintro _ ⟨_, css, _, G1, ⟨w1, rfl, rfl⟩, hcs, hle, rfl⟩
  clear hcs hle
  obtain ⟨l1, hl1⟩ : ∃ X, X = ([] : List UInt8) ++ numB (l.length : Int) 1 := ⟨_, rfl⟩
  have hl1' : numB (l.length : Int) 1 = l1 := by rw [hl1, List.nil_append]
  rw [← hl1, hl1']
  have hn1 : l1.length = 1 := by rw [← hl1', numB_len]
  clear hl1 hl1' he0
  simp only [go_sem, simprocAttr]
  refine loop_ok (N := 3000) (ι := Nat × Value × List UInt8)
    (fun i => match i with | (i, v, a) => ⟨[(4, .c (.p 0 gw 0)), (17, .c (.v (.slice A l.length c))), (18, .c (.v (.int .i64 (l.length : Int)))), (19, .c (.v (.int .i64 (i : Int))))], [⟨0, gw, 47, [.v v]⟩], [bytRow v a], [], [G0], 1⟩)
    (fun i => match i with | (i, _, a) => i ≤ l.length ∧ encL a (l.drop i) = encL l1 l ∧ a.length ≤ 1 + i * 2200) (fun i => l.length - i.1) (QOk_body _ _ _) (0, w1, l1) ⟨Nat.zero_le _, rfl, by show l1.length ≤ _; omega⟩ (by simp only [go_sem, simprocAttr]; simp) ?_
  rintro ⟨i, v, a⟩ ⟨hi, ha, hla⟩
  simp only
  by_cases hlt : i < l.length
  · have q : decide ((i : Int) < (l.length : Int)) = true := decide_eq_true (by omega)
    obtain ⟨r, hr⟩ : ∃ r, l[i]? = some r := ⟨_, List.getElem?_eq_getElem hlt⟩
    have hdrop : l.drop i = r :: l.drop (i + 1) := drop_getq hr
    rw [hdrop] at ha
    simp only [go_sem, simprocAttr, q]
    refine plain_ok (N := 3000) (elem_does (R := RxCs) (l := l) (m := i) rfl tySlice34 tySize33 rfl rfl (dk rfl) rfl hr (fun G hG => Sq.mono h rxCs_mono (hG.le G0 (by simp)))) (QOk_body _ _ _) (by first | exact .inl rfl | exact .inr ⟨_, _, rfl, rfl⟩) ?_
    rintro _ ⟨gx, ox, cs, GE, hcl, hcs, rfl⟩
    obtain ⟨vs, ps, ss, rfl, hx, hfr, hdr⟩ := hcs
    obtain ⟨X1, y1, rfl, _, _⟩ := Sq.form hx.v
    obtain ⟨X2, y2, rfl, _, _⟩ := Sq.form hx.p
    obtain ⟨X3, y3, rfl, _, _⟩ := Sq.form hx.s
    simp only [go_sem, simprocAttr, recV]
    intro gv
    refine plain_ok (N := 3000) (call_does (fun y _ => y = .int .i64 (chk r)) rfl rfl (by kernel_rfl) rfl (dk rfl) (fun G hG => chkRec_does hG.wf (hx.mono (hG.le GE (by simp))) (BlkG.mono hK (hG.le G0 (by simp))) hfr hdr)) (QOk_body _ _ _) (by first | exact .inl rfl | exact .inr ⟨_, _, rfl, rfl⟩) ?_
    rintro _ ⟨_, G3, rfl, hn3, rfl⟩
    clear hn3
    by_cases hc : chk r = 0
    · have qc : decide (chk r = 0) = true := decide_eq_true hc
      have hok := chk_iff.1 hc
      obtain ⟨hk, hF, _⟩ := okRc_iff.1 hok
      have hrl := rcB_len hok
      rw [encL, if_pos hc] at ha
      simp only [go_sem, simprocAttr, qc, Bool.not_true]
      refine plain_ok (N := 3000) (callH_does ([0]) ([]) ([bytRow v a]) ([]) (fun _ css R G => ∃ wv', css = [[wv']] ∧ R = [bytRow wv' (a ++ rcB r)]) upV rfl rfl (by kernel_rfl) rfl (dk rfl) rfl rfl (by simp [ids, Diff]) (by simp) (fun G hG hh hM => wrecord_does hG.wf hh hM (hx.mono (hG.le GE (by simp))) (BlkG.mono hK (hG.le G0 (by simp))) hF hk (by omega)) (fun v css R G _ _ => upV_den css)) (QOk_body _ _ _) (by first | exact .inl rfl | exact .inr ⟨_, _, rfl, rfl⟩) ?_
      rintro _ ⟨_, css, _, G4, ⟨w4, rfl, rfl⟩, hcs, hle, rfl⟩
      clear hcs hle
      obtain ⟨l4, hl4⟩ : ∃ X, X = a ++ rcB r := ⟨_, rfl⟩
      rw [← hl4] at ha ⊢
      have hn4 : l4.length = a.length + (rcB r).length := by rw [hl4, List.length_append]
      simp only [go_sem, simprocAttr]
      refine ⟨by omega, ?_⟩
      exact again_ok (i + 1, w4, l4) ⟨hlt, ha, by show l4.length ≤ 1 + (i + 1) * 2200; omega⟩ (by show l.length - (i + 1) < l.length - i; omega) (by simp only [go_sem, simprocAttr]; simp)
    · have qc : decide (chk r = 0) = false := decide_eq_false hc
      rw [encL, if_neg hc] at ha
      simp only [go_sem, simprocAttr, qc, Bool.not_false]
      refine fin_ret (G := G0) Tryd.results6 ?_
      simp only [go_sem, simprocAttr]
      intro aa w' _ _
      rw [← ha]
      exact ⟨_, rfl, ByG.nil _⟩
  have hge : l.length ≤ i := by omega
  have q1 : decide ((i : Int) < (l.length : Int)) = false := decide_eq_false (by omega)
  rw [List.drop_eq_nil_of_le hge, encL] at ha
  simp only [go_sem, simprocAttr, q1]
  refine read_ok (R1 := []) rfl (fun GB hleB hslB => ?_) (fun _ _ q => q) (by show (1 : Nat) ≠ 0; decide)
  have hb : ByG GB v a := by
    have h9 : Sl GB 5 1 a.length v (a.flatMap bytC) := hslB
    rw [bytC_flat] at h9
    exact h9
  rw [← ha]
  refine fin_ret (G := G0) Tryd.results6 ?_
  simp only [go_sem, simprocAttr]
  intro aa w' _ hle
  exact ⟨_, rfl, hb.mono (hle GB (by simp))⟩
end Go.Proofs.YtohdfcnjcpjdcaaDoor
