/- DecodeState. Conditions: as each law states them. -/
import Derived.Test.YtohdfcnjcpjdcaaGreatWAq
import Derived.Test.YtohdfcnjcpjdcaaGreatLAq
namespace Go.Proofs.YtohdfcnjcpjdcaaGreat
open Go.RowKit
set_option linter.unusedSimpArgs false
def bytC (x : UInt8) : List Value := [enc8 x]
def bytRow (v : Value) (l : List UInt8) : Rw := ⟨v, 5, 1, l.length, l.flatMap bytC⟩
theorem bytC_one (l : List UInt8) : ∀ u ∈ l.flatMap bytC, u.oneCell' = true := by
  intro u hu
  obtain ⟨x, _, hu⟩ := List.mem_flatMap.1 hu
  simp only [bytC, List.mem_singleton] at hu
  rw [hu]; rfl
theorem bytC_flat (l : List UInt8) : l.flatMap bytC = l.map enc8 := by
  induction l with
  | nil => rfl
  | cons a r ih => simp [bytC, ih]
set_option maxRecDepth 100000 in
set_option maxHeartbeats 8000000 in
theorem cloneByte_does {l : List UInt8} {lv : Value} {G0 : GW} (hW : G0.Wf) (h : Sq ByteG 5 1 G0 lv l) (hn : l.length ≤ 2000000) :
    Calls Tryz.prog 40 #[lv] G0.w (RetH G0 ⟨[], []⟩ fun v _ R _ => ∃ A c, v = .slice A l.length c ∧ R = [bytRow (.slice A l.length c) l]) := by
  obtain ⟨A, c, rfl, hc1, hc2⟩ := Sq.form h
  have hml := max_le
  have hh : HandsOk G0.w ⟨[], []⟩ := ⟨fun b hb => (by cases hb), List.Pairwise.nil, fun r hr => (by cases hr), fun r hr => (by cases hr), List.Pairwise.nil⟩
  have hM : ∀ k, Hands.A ⟨[], []⟩ k → G0.M k := fun k hk => by rcases hk with ⟨b, hb, _⟩ | ⟨r, hr, _⟩ <;> contradiction
  refine enterH (n := 8) 3000 ([.c (.v (.slice A l.length c))]) ([]) rfl hW hh hM Tryz.func40 rfl Tryz.ntmps40 (by simp) ?_
  simp only [go_sem, simprocAttr]
  refine plain_ok (N := 3000) (nilcmp_does rfl tySlice44 rfl rfl (dk rfl) (fun w => by kernel_rfl)) (QOk_body _ _ _) (by first | exact .inl rfl | exact .inr ⟨_, _, rfl, rfl⟩) ?_
  rintro _ rfl
  cases A with
  | none =>
    have hl : l = [] := by
      obtain ⟨css, he, A', c', e, q1, q2, q3, q4⟩ := h
      cases l with
      | nil => rfl
      | cons x l =>
        obtain ⟨g, o, _, _, e2, _⟩ := q4 (by simp)
        cases e
        cases e2
    subst hl
    simp only [go_sem, simprocAttr, Option.isNone]
    refine row_ok 5 1 ?_
    refine fin_retH (G := G0) Tryz.results40 ?_
    simp only [go_sem, simprocAttr]
    intro aa w' _ _
    exact ⟨none, 0, rfl, rfl⟩
  | some a =>
    simp only [go_sem, simprocAttr, Option.isNone]
    intro g
    refine plain_ok (N := 3000) (litRow_append_does (B1 := []) (news := l.flatMap bytC) rfl tySlice44 tyApp5 rfl rfl rfl rfl rfl rfl (dk rfl) (bytC_one l) (by unfold maxLen; omega) (by omega) (fun G hG => (sq_flat (fun _ _ _ q => q) (Sq.mono h byteG_mono (hG G0 (by simp)))).tsl)) (QOk_body _ _ _) (by first | exact .inl rfl | exact .inr ⟨_, _, rfl, rfl⟩) ?_
    rintro _ ⟨A', c', rfl⟩
    simp only [go_sem, simprocAttr]
    refine fin_retH (G := G0) Tryz.results40 ?_
    simp only [go_sem, simprocAttr]
    intro aa w' _ _
    exact ⟨A', c', rfl, rfl⟩
theorem staY_zero (G : GW) : StaG G (.agg #[.int .i64 0, .int .i64 0, .slice none 0 0, .slice none 0 0, .slice none 0 0, .slice none 0 0, .slice none 0 0]) zeroS :=
  ⟨_, _, _, _, _, rfl, Sq.nil, Sq.nil, Sq.nil, Sq.nil, Sq.nil⟩
theorem uplsY_of {G : GW} {v : Value} {l : List (Upl × Value)} (h : Sl G 89 4 l.length v (l.flatMap upY)) (hk : ∀ p ∈ l, okU_ G p) : UplsG G v (l.map (·.1)) := by
  refine ⟨l.map upY, ⟨by simp, (fun c hc => by obtain ⟨q, _, rfl⟩ := List.mem_map.1 hc; rfl), fun i cs x h1 h2 => ?_⟩, by rw [List.length_map, ← List.flatMap_def]; exact h⟩
  rw [List.getElem?_map] at h1 h2
  cases hp : l[i]? with
  | none => rw [hp] at h2; cases h2
  | some p =>
    rw [hp] at h1 h2
    cases h1
    cases h2
    have hm := List.mem_of_getElem? hp
    obtain ⟨k1, k2, k3⟩ := hk p hm
    exact ⟨p.2, rfl, k1, k2, k3⟩
def dc1 (s : RS) := tk 3 s
def dc2 (s : RS) := tk 4 (dc1 s).2
def dc3 (s : RS) := mny stB [] (dc2 s).2
def dc4 (s : RS) := mny stV [] (dc3 s).2
def dc5 (s : RS) := mny stU [] (dc4 s).2
def dc6 (s : RS) := mny stA [] (dc5 s).2
def dc7 (s : RS) := its (dc6 s).2
def dcS (s : RS) : Sta := ⟨(dc1 s).1, (dc2 s).1, (dc3 s).1, (dc4 s).1, (dc5 s).1, (dc6 s).1, (dc7 s).1⟩
def dcE (s : RS) : Int := if (en (dc7 s).2).f = 0 then errSt (dcS s) else (en (dc7 s).2).f
/-- a state from its bytes -/
def decS (l : List UInt8) : Sta × Int := if dcE ⟨l, 0⟩ = 0 then (dcS ⟨l, 0⟩, 0) else (zeroS, dcE ⟨l, 0⟩)
/-- what the blocks hold that are handed to 'many' -/
def upP (g : Nat) : List (List Value) → List (List SC)
  | [a, _, c] => [a.map .v, [.p 1 g 0], c.map .v]
  | l => upV l
@[go_sem] theorem upP_three (g : Nat) (a b c : List Value) : upP g [a, b, c] = [a.map .v, [.p 1 g 0], c.map .v] := rfl
theorem upP_den {g : Nat} {a c : List Value} : (upP g [a, [.pointer (some ⟨g, 0, none⟩)], c]).map (List.map SC.den) = [a, [.pointer (some ⟨g, 0, none⟩)], c] := by
  simp [upP, SC.den, Function.comp_def]
set_option maxRecDepth 100000 in
set_option maxHeartbeats 8000000 in
theorem decode_does {bv : Value} {l : List UInt8} {G0 : GW} (hW : G0.Wf) (hb0 : ByG G0 bv l) (hl : l.length ≤ 2000000) :
    Calls Tryz.prog 14 #[bv] G0.w (Ret G0 fun y G => ∃ sv, y = .tuple #[sv, .int .i64 (decS l).2] ∧ StaG G sv (decS l).1) := by
  obtain ⟨A, c, rfl, hc1, hc2⟩ := hb0.form
  have hml := max_le
  refine enterS (G := G0) (n := 43) 3000 hW Tryz.func14 rfl Tryz.ntmps14 (by simp) ?_
  simp only [go_sem, simprocAttr]
  intro g0
  refine plain_ok (N := 3000) (callH_does ([]) ([]) ([]) ([]) (fun y _ R _ => ∃ A c, y = .slice A l.length c ∧ R = [bytRow (.slice A l.length c) l]) upV rfl rfl (by kernel_rfl) rfl (dk rfl) rfl rfl (by simp [ids, Diff]) (by simp) (fun G hG hh hM => cloneByte_does hG.wf (Sq.mono hb0.sq byteG_mono (hG.le G0 (by simp))) (by omega)) (fun v css R G _ _ => upV_den css)) (QOk_body _ _ _) (by first | exact .inl rfl | exact .inr ⟨_, _, rfl, rfl⟩) ?_
  rintro _ ⟨_, css, _, GC, ⟨Ac, cc, rfl, rfl⟩, hcs, hle, rfl⟩
  clear hcs hle
  simp only [go_sem, simprocAttr]
  intro g gp gx
  refine read_ok (R1 := []) rfl (fun GB hleB hslB => ?_) (fun _ _ q => q) (by show (1 : Nat) ≠ 0; decide)
  have hb : ByG GB (.slice Ac l.length cc) l := by
    have h9 : Sl GB 5 1 l.length (.slice Ac l.length cc) (l.flatMap bytC) := hslB
    rw [bytC_flat] at h9
    exact h9
  simp only [St.seen, St.rowsTo, List.nil_append]
  refine plain_ok (N := 3000) (callH_does ([1]) ([]) ([]) ([]) (fun y css R G => R = [] ∧ y = .int .i64 (tk 3 (⟨l, 0⟩ : RS)).1 ∧ ∃ rv', css = [[rv', .int .i64 (tk 3 (⟨l, 0⟩ : RS)).2.f]] ∧ ByG G rv' (tk 3 (⟨l, 0⟩ : RS)).2.l) upV rfl rfl (by kernel_rfl) rfl (dk rfl) rfl rfl (by simp [ids, Diff]) (by simp) (fun G hG hh hM => take_does' (k := 3) (s := (⟨l, 0⟩ : RS)) hG.wf hh hM (hb.mono (hG.le GB (by simp))) (.inl (by omega)) (by omega)) (fun v css R G _ _ => upV_den css)) (QOk_body _ _ _) (by first | exact .inl rfl | exact .inr ⟨_, _, rfl, rfl⟩) ?_
  rintro _ ⟨_, css, _, G1, ⟨rfl, rfl, rv1, rfl, hb1⟩, hcs, hle, rfl⟩
  clear hcs hle
  obtain ⟨A1, c1, rfl, hc11, hc12⟩ := hb1.form
  obtain ⟨X1, hX1⟩ : ∃ X, X = tk 3 (⟨l, 0⟩ : RS) := ⟨_, rfl⟩
  rw [← hX1] at hb1 hc11 ⊢
  simp only [go_sem, simprocAttr]
  refine plain_ok (N := 3000) (callH_does ([1]) ([]) ([]) ([]) (fun y css R G => R = [] ∧ y = .int .i64 (tk 4 X1.2).1 ∧ ∃ rv', css = [[rv', .int .i64 (tk 4 X1.2).2.f]] ∧ ByG G rv' (tk 4 X1.2).2.l) upV rfl rfl (by kernel_rfl) rfl (dk rfl) rfl rfl (by simp [ids, Diff]) (by simp) (fun G hG hh hM => take_does' (k := 4) (s := X1.2) hG.wf hh hM (hb1.mono (hG.le G1 (by simp))) (.inl (by omega)) (by omega)) (fun v css R G _ _ => upV_den css)) (QOk_body _ _ _) (by first | exact .inl rfl | exact .inr ⟨_, _, rfl, rfl⟩) ?_
  rintro _ ⟨_, css, _, G2, ⟨rfl, rfl, rv2, rfl, hb2⟩, hcs, hle, rfl⟩
  clear hcs hle
  obtain ⟨A2, c2, rfl, hc21, hc22⟩ := hb2.form
  obtain ⟨X2, hX2⟩ : ∃ X, X = tk 4 X1.2 := ⟨_, rfl⟩
  rw [← hX2] at hb2 hc21 ⊢
  simp only [go_sem, simprocAttr]
  refine row_ok 42 5 ?_
  simp only [St.rowsTo]
  refine plain_ok (N := 3000) (callH_does [1, 2, 3] [] [⟨.slice none 0 0, 42, 5, 0, []⟩] [] (fun y css R' G' => y = .tuple #[] ∧ ∃ rv' cs', css = [[rv', .int .i64 (mny stB [] X2.2).2.f], [.pointer (some ⟨g, 0, none⟩)], cs'] ∧ cs'.length = (mkB1 X1.1 X2.1 (.slice none 0 0)).length ∧ ByG G' rv' (mny stB [] X2.2).2.l ∧ ∃ i, i ≤ 256 ∧ RepL 42 5 bktC okB_ id (mkB1 X1.1 X2.1) i (mny stB [] X2.2).1 cs' R' G') (upP g) rfl rfl (by kernel_rfl) rfl (dk rfl) rfl rfl (by simp [ids, Diff]) (by simp) (fun G hG hh hM => many_does (Rep := RepL 42 5 bktC okB_ id (mkB1 X1.1 X2.1)) (st := stB) (s := X2.2) (x := []) (cs := mkB1 X1.1 X2.1 (.slice none 0 0)) (R := [⟨.slice none 0 0, 42, 5, 0, []⟩]) (g := g) (gp := gp) (gx := gx) (tX := 30) (f := 43) (caps := #[.pointer (some ⟨gp, 0, none⟩), .pointer (some ⟨gx, 0, none⟩)]) (repL_ok (fun _ _ _ h _ => h)) hG.wf hh hM (hb2.mono (hG.le G2 (by simp))) ⟨none, 0, [], rfl, rfl, rfl, rfl, fun p hp => by cases hp⟩ (by kernel_rfl) (fun i x cs R s rv G hW hh hM hb hi hr _ => by simpa using dec1_does hW hh hM hb hi hr)) (fun v css R G h _ => by
    obtain ⟨_, rv', cs', rfl, _⟩ := h
    exact upP_den)) (QOk_body _ _ _) (by first | exact .inl rfl | exact .inr ⟨_, _, rfl, rfl⟩) ?_
  rintro _ ⟨_, css, R3, G3, ⟨rfl, rv3, cs3, rfl, hcl3, hb3, i3, hi3, B3, d3, l3, hx3, hli3, rfl, rfl, hok3⟩, hcs, hle, rfl⟩
  clear hcs hle hcl3
  obtain ⟨A3, c3, rfl, hc31, hc32⟩ := hb3.form
  obtain ⟨X3, hX3⟩ : ∃ X, X = mny stB [] X2.2 := ⟨_, rfl⟩
  rw [← hX3] at hx3 hb3 hc31 ⊢
  subst hli3
  simp only [go_sem, simprocAttr, mkB1, List.map_cons, List.map_nil]
  refine read_ok (R1 := []) rfl (fun F3 hleF3 hsl3 => ?_) (fun _ _ q => q) (by show (5 : Nat) ≠ 0; decide)
  simp only [St.seen, St.rowsTo, List.nil_append]
  have hB : BktsG F3 (.slice B3 l3.length d3) X3.1 := by
    rw [← hx3, List.map_id]
    exact sq_of_flat (R := BktG) (f := bktC) (fun x hx => ⟨rfl, hok3 x hx⟩) bktC_len hsl3
  refine row_ok 38 12 ?_
  simp only [St.rowsTo]
  refine plain_ok (N := 3000) (callH_does [1, 2, 3] [] [⟨.slice none 0 0, 38, 12, 0, []⟩] [] (fun y css R' G' => y = .tuple #[] ∧ ∃ rv' cs', css = [[rv', .int .i64 (mny stV [] X3.2).2.f], [.pointer (some ⟨g, 0, none⟩)], cs'] ∧ cs'.length = (mkV1 X1.1 X2.1 (.slice B3 l3.length d3) (.slice none 0 0)).length ∧ ByG G' rv' (mny stV [] X3.2).2.l ∧ ∃ i, i ≤ 256 ∧ RepL 38 12 verX okV_ (·.1) (mkV1 X1.1 X2.1 (.slice B3 l3.length d3)) i (mny stV [] X3.2).1 cs' R' G') (upP g) rfl rfl (by kernel_rfl) rfl (dk rfl) rfl rfl (by simp [ids, Diff]) (by simp) (fun G hG hh hM => many_does (Rep := RepL 38 12 verX okV_ (·.1) (mkV1 X1.1 X2.1 (.slice B3 l3.length d3))) (st := stV) (s := X3.2) (x := []) (cs := mkV1 X1.1 X2.1 (.slice B3 l3.length d3) (.slice none 0 0)) (R := [⟨.slice none 0 0, 38, 12, 0, []⟩]) (g := g) (gp := gp) (gx := gx) (tX := 30) (f := 46) (caps := #[.pointer (some ⟨gx, 0, none⟩), .pointer (some ⟨gp, 0, none⟩)]) (repL_ok (fun _ _ _ h hl => okV__mono h hl)) hG.wf hh hM (hb3.mono (hG.le G3 (by simp))) ⟨none, 0, [], rfl, rfl, rfl, rfl, fun p hp => by cases hp⟩ (by kernel_rfl) (fun i x cs R s rv G hW hh hM hb hi hr _ => by simpa using dec2_does hW hh hM hb hi hr)) (fun v css R G h _ => by
    obtain ⟨_, rv', cs', rfl, _⟩ := h
    exact upP_den)) (QOk_body _ _ _) (by first | exact .inl rfl | exact .inr ⟨_, _, rfl, rfl⟩) ?_
  rintro _ ⟨_, css, R4, G4, ⟨rfl, rv4, cs4, rfl, hcl4, hb4, i4, hi4, B4, d4, l4, hx4, hli4, rfl, rfl, hok4⟩, hcs, hle, rfl⟩
  clear hcs hle hcl4
  obtain ⟨A4, c4, rfl, hc41, hc42⟩ := hb4.form
  obtain ⟨X4, hX4⟩ : ∃ X, X = mny stV [] X3.2 := ⟨_, rfl⟩
  rw [← hX4] at hx4 hb4 hc41 ⊢
  subst hli4
  simp only [go_sem, simprocAttr, mkV1, List.map_cons, List.map_nil]
  refine read_ok (R1 := []) rfl (fun F4 hleF4 hsl4 => ?_) (fun _ _ q => q) (by show (12 : Nat) ≠ 0; decide)
  simp only [St.seen, St.rowsTo, List.nil_append]
  have hV : VersG F4 (.slice B4 l4.length d4) X4.1 := by
    rw [← hx4]
    exact vers_of hsl4 (fun p hp => (okV__mono (hok4 p hp) (hleF4 G4 (by simp))).1) (fun p hp => (hok4 p hp).2)
  refine row_ok 89 4 ?_
  simp only [St.rowsTo]
  refine plain_ok (N := 3000) (callH_does [1, 2, 3] [] [⟨.slice none 0 0, 89, 4, 0, []⟩] [] (fun y css R' G' => y = .tuple #[] ∧ ∃ rv' cs', css = [[rv', .int .i64 (mny stU [] X4.2).2.f], [.pointer (some ⟨g, 0, none⟩)], cs'] ∧ cs'.length = (mkU1 X1.1 X2.1 (.slice B3 l3.length d3) (.slice B4 l4.length d4) (.slice none 0 0)).length ∧ ByG G' rv' (mny stU [] X4.2).2.l ∧ ∃ i, i ≤ 256 ∧ RepL 89 4 upY okU_ (·.1) (mkU1 X1.1 X2.1 (.slice B3 l3.length d3) (.slice B4 l4.length d4)) i (mny stU [] X4.2).1 cs' R' G') (upP g) rfl rfl (by kernel_rfl) rfl (dk rfl) rfl rfl (by simp [ids, Diff]) (by simp) (fun G hG hh hM => many_does (Rep := RepL 89 4 upY okU_ (·.1) (mkU1 X1.1 X2.1 (.slice B3 l3.length d3) (.slice B4 l4.length d4))) (st := stU) (s := X4.2) (x := []) (cs := mkU1 X1.1 X2.1 (.slice B3 l3.length d3) (.slice B4 l4.length d4) (.slice none 0 0)) (R := [⟨.slice none 0 0, 89, 4, 0, []⟩]) (g := g) (gp := gp) (gx := gx) (tX := 30) (f := 48) (caps := #[.pointer (some ⟨gp, 0, none⟩), .pointer (some ⟨gx, 0, none⟩)]) (repL_ok (fun _ _ _ h hl => okU__mono h hl)) hG.wf hh hM (hb4.mono (hG.le G4 (by simp))) ⟨none, 0, [], rfl, rfl, rfl, rfl, fun p hp => by cases hp⟩ (by kernel_rfl) (fun i x cs R s rv G hW hh hM hb hi hr _ => by simpa using dec3_does hW hh hM hb hi hr)) (fun v css R G h _ => by
    obtain ⟨_, rv', cs', rfl, _⟩ := h
    exact upP_den)) (QOk_body _ _ _) (by first | exact .inl rfl | exact .inr ⟨_, _, rfl, rfl⟩) ?_
  rintro _ ⟨_, css, R5, G5, ⟨rfl, rv5, cs5, rfl, hcl5, hb5, i5, hi5, B5, d5, l5, hx5, hli5, rfl, rfl, hok5⟩, hcs, hle, rfl⟩
  clear hcs hle hcl5
  obtain ⟨A5, c5, rfl, hc51, hc52⟩ := hb5.form
  obtain ⟨X5, hX5⟩ : ∃ X, X = mny stU [] X4.2 := ⟨_, rfl⟩
  rw [← hX5] at hx5 hb5 hc51 ⊢
  subst hli5
  simp only [go_sem, simprocAttr, mkU1, List.map_cons, List.map_nil]
  refine read_ok (R1 := []) rfl (fun F5 hleF5 hsl5 => ?_) (fun _ _ q => q) (by show (4 : Nat) ≠ 0; decide)
  simp only [St.seen, St.rowsTo, List.nil_append]
  have hU : UplsG F5 (.slice B5 l5.length d5) X5.1 := by
    rw [← hx5]
    exact uplsY_of hsl5 (fun p hp => okU__mono (hok5 p hp) (hleF5 G5 (by simp)))
  refine row_ok 68 3 ?_
  simp only [St.rowsTo]
  refine plain_ok (N := 3000) (callH_does [1, 2, 3] [] [⟨.slice none 0 0, 68, 3, 0, []⟩] [] (fun y css R' G' => y = .tuple #[] ∧ ∃ rv' cs', css = [[rv', .int .i64 (mny stA [] X5.2).2.f], [.pointer (some ⟨g, 0, none⟩)], cs'] ∧ cs'.length = (mkA1 X1.1 X2.1 (.slice B3 l3.length d3) (.slice B4 l4.length d4) (.slice B5 l5.length d5) (.slice none 0 0)).length ∧ ByG G' rv' (mny stA [] X5.2).2.l ∧ ∃ i, i ≤ 256 ∧ RepL 68 3 askC okA_ id (mkA1 X1.1 X2.1 (.slice B3 l3.length d3) (.slice B4 l4.length d4) (.slice B5 l5.length d5)) i (mny stA [] X5.2).1 cs' R' G') (upP g) rfl rfl (by kernel_rfl) rfl (dk rfl) rfl rfl (by simp [ids, Diff]) (by simp) (fun G hG hh hM => many_does (Rep := RepL 68 3 askC okA_ id (mkA1 X1.1 X2.1 (.slice B3 l3.length d3) (.slice B4 l4.length d4) (.slice B5 l5.length d5))) (st := stA) (s := X5.2) (x := []) (cs := mkA1 X1.1 X2.1 (.slice B3 l3.length d3) (.slice B4 l4.length d4) (.slice B5 l5.length d5) (.slice none 0 0)) (R := [⟨.slice none 0 0, 68, 3, 0, []⟩]) (g := g) (gp := gp) (gx := gx) (tX := 30) (f := 51) (caps := #[.pointer (some ⟨gx, 0, none⟩), .pointer (some ⟨gp, 0, none⟩)]) (repL_ok (fun _ _ _ h _ => h)) hG.wf hh hM (hb5.mono (hG.le G5 (by simp))) ⟨none, 0, [], rfl, rfl, rfl, rfl, fun p hp => by cases hp⟩ (by kernel_rfl) (fun i x cs R s rv G hW hh hM hb hi hr _ => by simpa using dec4_does hW hh hM hb hi hr)) (fun v css R G h _ => by
    obtain ⟨_, rv', cs', rfl, _⟩ := h
    exact upP_den)) (QOk_body _ _ _) (by first | exact .inl rfl | exact .inr ⟨_, _, rfl, rfl⟩) ?_
  rintro _ ⟨_, css, R6, G6, ⟨rfl, rv6, cs6, rfl, hcl6, hb6, i6, hi6, B6, d6, l6, hx6, hli6, rfl, rfl, hok6⟩, hcs, hle, rfl⟩
  clear hcs hle hcl6
  obtain ⟨A6, c6, rfl, hc61, hc62⟩ := hb6.form
  obtain ⟨X6, hX6⟩ : ∃ X, X = mny stA [] X5.2 := ⟨_, rfl⟩
  rw [← hX6] at hx6 hb6 hc61 ⊢
  subst hli6
  simp only [go_sem, simprocAttr, mkA1, List.map_cons, List.map_nil]
  refine read_ok (R1 := []) rfl (fun F6 hleF6 hsl6 => ?_) (fun _ _ q => q) (by show (3 : Nat) ≠ 0; decide)
  simp only [St.seen, St.rowsTo, List.nil_append]
  have hA : AsksG F6 (.slice B6 l6.length d6) X6.1 := by
    rw [← hx6, List.map_id]
    exact sq_of_flat (R := AskG) (f := askC) (fun x hx => rfl) askC_len hsl6
  refine plain_ok (N := 3000) (callH_does ([1]) ([]) ([]) ([]) (fun y css R G => R = [] ∧ IntsG G y (its X6.2).1 ∧ ∃ rv', css = [[rv', .int .i64 (its X6.2).2.f]] ∧ ByG G rv' (its X6.2).2.l) upV rfl rfl (by kernel_rfl) rfl (dk rfl) rfl rfl (by simp [ids, Diff]) (by simp) (fun G hG hh hM => ints_does (s := X6.2) hG.wf hh hM (hb6.mono (hG.le G6 (by simp)))) (fun v css R G _ _ => upV_den css)) (QOk_body _ _ _) (by first | exact .inl rfl | exact .inr ⟨_, _, rfl, rfl⟩) ?_
  rintro _ ⟨_, css, _, G7, ⟨rfl, hiv7, rv7, rfl, hb7⟩, hcs, hle, rfl⟩
  clear hcs hle
  obtain ⟨A7, c7, rfl, hc71, hc72⟩ := hb7.form
  obtain ⟨X7, hX7⟩ : ∃ X, X = its X6.2 := ⟨_, rfl⟩
  rw [← hX7] at hb7 hc71 hiv7 ⊢
  obtain ⟨A9, c9, rfl, _⟩ := Sq.form hiv7
  simp only [go_sem, simprocAttr]
  refine plain_ok (N := 3000) (callH_does ([1]) ([]) ([]) ([]) (fun y css R G => R = [] ∧ y = .int .i64 (en X7.2).f ∧ ∃ rv', css = [[rv', .int .i64 (en X7.2).f]] ∧ ByG G rv' (en X7.2).l) upV rfl rfl (by kernel_rfl) rfl (dk rfl) rfl rfl (by simp [ids, Diff]) (by simp) (fun G hG hh hM => end_does (s := X7.2) hG.wf hh hM (hb7.mono (hG.le G7 (by simp)))) (fun v css R G _ _ => upV_den css)) (QOk_body _ _ _) (by first | exact .inl rfl | exact .inr ⟨_, _, rfl, rfl⟩) ?_
  rintro _ ⟨_, css, _, G8, ⟨rfl, rfl, rv8, rfl, hb8⟩, hcs, hle, rfl⟩
  clear hcs hle
  obtain ⟨A8, c8, rfl, hc81, hc82⟩ := hb8.form
  have e7 : dc7 ⟨l, 0⟩ = X7 := by
    subst hX7
    subst hX6
    subst hX5
    subst hX4
    subst hX3
    subst hX2
    subst hX1
    rfl
  obtain ⟨S, hS⟩ : ∃ S : Sta, S = ⟨X1.1, X2.1, X3.1, X4.1, X5.1, X6.1, X7.1⟩ := ⟨_, rfl⟩
  have eS : dcS ⟨l, 0⟩ = S := by
    subst hS
    subst hX7
    subst hX6
    subst hX5
    subst hX4
    subst hX3
    subst hX2
    subst hX1
    rfl
  have eE : dcE ⟨l, 0⟩ = if (en X7.2).f = 0 then errSt S else (en X7.2).f := by
    unfold dcE
    rw [e7, eS]
  have eD : decS l = if dcE ⟨l, 0⟩ = 0 then (S, 0) else (zeroS, dcE ⟨l, 0⟩) := by
    unfold decS
    rw [eS]
  have l3' : l3.length = X3.1.length := by rw [← hx3, List.length_map]
  have l4' : l4.length = X4.1.length := by rw [← hx4, List.length_map]
  have l5' : l5.length = X5.1.length := by rw [← hx5, List.length_map]
  have l6' : l6.length = X6.1.length := by rw [← hx6, List.length_map]
  clear hX1 hX2 hX3 hX4 hX5 hX6 hX7
  have hSt : ∀ G, F3.Le G → F4.Le G → F5.Le G → F6.Le G → G7.Le G → StaG G (.agg #[.int .i64 X1.1, .int .i64 X2.1, .slice B3 l3.length d3, .slice B4 l4.length d4, .slice B5 l5.length d5, .slice B6 l6.length d6, .slice A9 X7.1.length c9]) S := fun G q3 q4 q5 q6 q7 => by
    rw [hS]
    exact ⟨_, _, _, _, _, rfl, Sq.mono hB bktG_mono q3, Sq.mono hV verG_mono q4, Sq.mono hU uplG_mono q5, Sq.mono hA askG_mono q6, hiv7.mono q7⟩
  by_cases he : (en X7.2).f = 0
  · have q : decide ((en X7.2).f = 0) = true := decide_eq_true he
    rw [if_pos he] at eE
    rw [eD, eE]
    simp only [go_sem, simprocAttr, q]
    refine plain_ok (N := 3000) (call_does (fun y _ => y = .int .i64 (errSt S)) rfl rfl (by kernel_rfl) rfl (dk rfl) (fun G hG => check_does hG.wf (hSt G (hG.le F3 (by simp)) (hG.le F4 (by simp)) (hG.le F5 (by simp)) (hG.le F6 (by simp)) (hG.le G7 (by simp))))) (QOk_body _ _ _) (by first | exact .inl rfl | exact .inr ⟨_, _, rfl, rfl⟩) ?_
    rintro _ ⟨_, G10, rfl, hn10, rfl⟩
    clear hn10
    by_cases hz : errSt S = 0
    · have qz : decide (errSt S = 0) = true := decide_eq_true hz
      rw [if_pos hz]
      simp only [go_sem, simprocAttr, qz, Bool.not_true]
      refine fin_ret (G := G0) Tryz.results14 ?_
      simp only [go_sem, simprocAttr]
      intro aa w' _ hle
      exact ⟨_, rfl, hSt _ (hle F3 (by simp)) (hle F4 (by simp)) (hle F5 (by simp)) (hle F6 (by simp)) (hle G7 (by simp))⟩
    · have qz : decide (errSt S = 0) = false := decide_eq_false hz
      rw [if_neg hz]
      simp only [go_sem, simprocAttr, qz, Bool.not_false]
      refine fin_ret (G := G0) Tryz.results14 ?_
      simp only [go_sem, simprocAttr]
      intro aa w' _ hle
      exact ⟨_, rfl, staY_zero _⟩
  · have q : decide ((en X7.2).f = 0) = false := decide_eq_false he
    rw [if_neg he] at eE
    rw [eD, eE, if_neg he]
    simp only [go_sem, simprocAttr, q, Bool.not_false]
    refine fin_ret (G := G0) Tryz.results14 ?_
    simp only [go_sem, simprocAttr]
    intro aa w' _ hle
    exact ⟨_, rfl, staY_zero _⟩
end Go.Proofs.YtohdfcnjcpjdcaaGreat
/- The writer of bytes: put. Conditions: as each law states them. -/
namespace Go.Proofs.YtohdfcnjcpjdcaaGreat
open Go.RowKit
set_option linter.unusedSimpArgs false
theorem byteOf_enc (n : Int) : Value.int .u8 (HMod.hMod n 256) = enc8 (byteOf n) := by
  have h0 := Int.emod_nonneg n (b := 256) (by omega)
  have h1 := Int.emod_lt_of_pos n (b := 256) (by omega)
  have e2 : ((byteOf n).toNat : Int) = HMod.hMod n 256 := by
    unfold byteOf
    rw [UInt8.toNat_ofNat']
    omega
  unfold enc8
  rw [e2]
set_option maxRecDepth 100000 in
set_option maxHeartbeats 8000000 in
theorem put_does {g : Nat} {n : Int} {k : Nat} {wv : Value} {l : List UInt8} {G0 : GW} (hW : G0.Wf) (hh : HandsOk G0.w ⟨[⟨g, 82, [wv]⟩], [bytRow wv l]⟩) (hM : ∀ k, Hands.A ⟨[⟨g, 82, [wv]⟩], [bytRow wv l]⟩ k → G0.M k) (hk : k ≤ 4) (hl : l.length ≤ 8000000) :
    Calls Tryz.prog 33 #[.pointer (some ⟨g, 0, none⟩), .int .i64 n, .int .i64 (k : Int)] G0.w (RetH G0 ⟨[⟨g, 82, [wv]⟩], [bytRow wv l]⟩ fun _ css R G => ∃ wv', css = [[wv']] ∧ R = [bytRow wv' (l ++ numB n k)]) := by
  have hml := max_le
  refine enterH (n := 27) 3000 ([.c (.p 0 g 0), .c (.v (.int .i64 n)), .c (.v (.int .i64 (k : Int)))]) ([⟨0, g, 82, [.v wv]⟩]) rfl hW hh hM Tryz.func33 rfl Tryz.ntmps33 (by simp) ?_
  simp only [go_sem, simprocAttr]
  refine ⟨by omega, ?_⟩
  refine loop_ok (N := 3000) (ι := Nat × Value × List UInt8)
    (fun i => match i with | (r, v, a) => ⟨[(0, .c (.p 0 g 0)), (1, .c (.v (.int .i64 n))), (6, .c (.v (.int .i64 ((r : Int) - 1))))], [⟨0, g, 82, [.v v]⟩], [bytRow v a], [], [G0], 1⟩)
    (fun i => match i with | (r, _, a) => r ≤ k ∧ a ++ numB n r = l ++ numB n k ∧ a.length + r = l.length + k) (fun i => i.1) (QOk_body _ _ _) (k, wv, l) ⟨Nat.le_refl _, rfl, rfl⟩ (by simp only [go_sem, simprocAttr]; simp) ?_
  rintro ⟨r, v, a⟩ ⟨hr, ha, hla⟩
  simp only
  cases r with
  | zero =>
    have q1 : decide (0 ≤ ((0 : Nat) : Int) - 1) = false := decide_eq_false (by omega)
    have ha : a = l ++ numB n k := by rw [← ha]; simp [numB]
    simp only [go_sem, simprocAttr, q1]
    refine fin_retH (G := G0) Tryz.results33 ?_
    simp only [go_sem, simprocAttr]
    intro aa w' _ _
    exact ⟨_, rfl, by rw [ha]⟩
  | succ r =>
    have q1 : decide (0 ≤ ((r + 1 : Nat) : Int) - 1) = true := decide_eq_true (by omega)
    have e0 : ((r + 1 : Nat) : Int) - 1 = (r : Int) := by omega
    rw [e0] at q1 ⊢
    simp only [go_sem, simprocAttr, q1]
    refine draw_ok (N := 3000) ((.take 0 (.take 1 (.take 2 (.take 3 (.take 5 (.take 6 (.take 7 (.take 8 (.take 9 (.alt 4 (.alt 10 (.alt 11 (.take 12 (.take 13 (.alt 14 .done .last))) .last) .last) (.alt 10 (.alt 4 (.alt 11 (.take 12 (.take 13 (.alt 14 .done .last))) .last) .last) .last)))))))))))) [0] (QOk_body _ _ _) follows_mixed (by kernel_rfl) (by kernel_rfl) ?_
    simp only [go_sem, simprocAttr]
    refine ⟨by omega, ⟨by omega, by omega⟩, ?_, ?_⟩
    · intro g2
      simp only [pow8, byteOf_enc]
      refine any_ok2 (N := 3000) (append_does (R1 := []) (R2 := []) (n := a.length) (v := v) (xs := a.flatMap bytC) (m := 1) (news := [enc8 (byteOf (n / 256 ^ r))]) rfl tySlice44 tyApp5 rfl rfl rfl rfl (dk rfl) (by intro u hu; rw [List.mem_singleton.1 hu]; rfl) (by unfold maxLen; omega) (by omega) (fun G hG => tsl_blk hG (b := ⟨1, g2, 5, [.v (enc8 (byteOf (n / 256 ^ r)))]⟩) (by simp) rfl (by unfold maxLen; omega))) (QOk_body _ _ _) rfl (by first | exact .inl rfl | exact .inr ⟨_, _, rfl, rfl⟩) (by intro _ hK; first | (obtain ⟨_, _, _, _, rfl⟩ := hK; exact ⟨rfl, fun _ h => h⟩) | (obtain ⟨_, _, rfl⟩ := hK; exact ⟨rfl, fun _ h => h⟩) | (obtain ⟨_, _, _, _, _, _, rfl⟩ := hK; exact ⟨rfl, fun _ h => List.mem_cons_of_mem _ h⟩) | (obtain ⟨_, _, _, _, _, _, _, rfl⟩ := hK; exact ⟨rfl, fun _ h => List.mem_cons_of_mem _ h⟩) | (obtain rfl := hK; exact ⟨rfl, fun _ h => h⟩)) ?_
      rintro _ ⟨A', c', rfl⟩
      simp only [go_sem, simprocAttr]
      refine ⟨by omega, ?_⟩
      have e3 : a.length + 1 = (a ++ [byteOf (n / 256 ^ r)]).length := by simp
      exact again_ok (r, .slice A' (a.length + 1) c', a ++ [byteOf (n / 256 ^ r)]) ⟨by omega, by rw [← ha, numB]; simp, by rw [← e3]; omega⟩ (by show r < r + 1; omega) (by simp only [go_sem, simprocAttr]; simp [bytRow, bytC])
    · intro g2
      simp only [pow8, byteOf_enc]
      refine any_ok2 (N := 3000) (append_does (R1 := []) (R2 := []) (n := a.length) (v := v) (xs := a.flatMap bytC) (m := 1) (news := [enc8 (byteOf (n / 256 ^ r))]) rfl tySlice44 tyApp5 rfl rfl rfl rfl (dk rfl) (by intro u hu; rw [List.mem_singleton.1 hu]; rfl) (by unfold maxLen; omega) (by omega) (fun G hG => tsl_blk hG (b := ⟨1, g2, 5, [.v (enc8 (byteOf (n / 256 ^ r)))]⟩) (by simp) rfl (by unfold maxLen; omega))) (QOk_body _ _ _) rfl (by first | exact .inl rfl | exact .inr ⟨_, _, rfl, rfl⟩) (by intro _ hK; first | (obtain ⟨_, _, _, _, rfl⟩ := hK; exact ⟨rfl, fun _ h => h⟩) | (obtain ⟨_, _, rfl⟩ := hK; exact ⟨rfl, fun _ h => h⟩) | (obtain ⟨_, _, _, _, _, _, rfl⟩ := hK; exact ⟨rfl, fun _ h => List.mem_cons_of_mem _ h⟩) | (obtain ⟨_, _, _, _, _, _, _, rfl⟩ := hK; exact ⟨rfl, fun _ h => List.mem_cons_of_mem _ h⟩) | (obtain rfl := hK; exact ⟨rfl, fun _ h => h⟩)) ?_
      rintro _ ⟨A', c', rfl⟩
      simp only [go_sem, simprocAttr]
      refine ⟨by omega, ?_⟩
      have e3 : a.length + 1 = (a ++ [byteOf (n / 256 ^ r)]).length := by simp
      exact again_ok (r, .slice A' (a.length + 1) c', a ++ [byteOf (n / 256 ^ r)]) ⟨by omega, by rw [← ha, numB]; simp, by rw [← e3]; omega⟩ (by show r < r + 1; omega) (by simp only [go_sem, simprocAttr]; simp [bytRow, bytC])
end Go.Proofs.YtohdfcnjcpjdcaaGreat
/- The writer of bytes: text, bit, ints. Conditions: as each law states them. -/
namespace Go.Proofs.YtohdfcnjcpjdcaaGreat
open Go.RowKit
set_option linter.unusedSimpArgs false
/-- a text as bytes, its length ahead -/
def txB (t : ByteArray) : List UInt8 := numB (t.size : Int) 1 ++ t.data.toList
def btB (b : Bool) : List UInt8 := numB (if b then 1 else 0) 1
def itB (l : List Int) : List UInt8 := numB (l.length : Int) 1 ++ l.flatMap fun x => numB x 1
theorem txB_len (t : ByteArray) : (txB t).length = 1 + t.size := by rw [txB, List.length_append, numB_len, Array.length_toList]; rfl
theorem btB_len (b : Bool) : (btB b).length = 1 := numB_len _ _
theorem flatB_len : ∀ l : List Int, (l.flatMap fun x => numB x 1).length = l.length
  | [] => rfl
  | x :: l => by rw [List.flatMap_cons, List.length_append, numB_len, flatB_len l, List.length_cons]; omega
theorem itB_len (l : List Int) : (itB l).length = 1 + l.length := by rw [itB, List.length_append, numB_len, flatB_len]
theorem strC_byt (t : ByteArray) : Lib.strCells t = t.data.toList.flatMap bytC := by
  unfold Lib.strCells
  induction t.data.toList with
  | nil => rfl
  | cons a r ih => rw [List.map_cons, ih]; rfl
theorem bytRow_snoc (v : Value) (l : List UInt8) (t : ByteArray) : (⟨v, 5, 1, l.length + t.size, l.flatMap bytC ++ Lib.strCells t⟩ : Rw) = bytRow v (l ++ t.data.toList) := by
  rw [strC_byt, bytRow, List.length_append, List.flatMap_append, Array.length_toList]
  rfl
set_option maxRecDepth 100000 in
set_option maxHeartbeats 8000000 in
theorem wtext_does {g : Nat} {t : ByteArray} {wv : Value} {l : List UInt8} {G0 : GW} (hW : G0.Wf) (hh : HandsOk G0.w ⟨[⟨g, 82, [wv]⟩], [bytRow wv l]⟩) (hM : ∀ k, Hands.A ⟨[⟨g, 82, [wv]⟩], [bytRow wv l]⟩ k → G0.M k) (ht : t.size ≤ 1000) (hl : l.length ≤ 7900000) :
    Calls Tryz.prog 34 #[.pointer (some ⟨g, 0, none⟩), .string t] G0.w (RetH G0 ⟨[⟨g, 82, [wv]⟩], [bytRow wv l]⟩ fun _ css R G => ∃ wv', css = [[wv']] ∧ R = [bytRow wv' (l ++ txB t)]) := by
  have hml := max_le
  refine enterH (n := 17) 3000 ([.c (.p 0 g 0), .c (.v (.string t))]) ([⟨0, g, 82, [.v wv]⟩]) rfl hW hh hM Tryz.func34 rfl Tryz.ntmps34 (by simp) ?_
  simp only [go_sem, simprocAttr]
  refine plain_ok (N := 3000) (callH_does ([0]) ([]) ([bytRow wv l]) ([]) (fun _ css R G => ∃ wv', css = [[wv']] ∧ R = [bytRow wv' (l ++ numB (t.size : Int) 1)]) upV rfl rfl (by kernel_rfl) rfl (dk rfl) rfl rfl (by simp [ids, Diff]) (by simp) (fun G hG hh hM => put_does (n := (t.size : Int)) (k := 1) hG.wf hh hM (by omega) (by omega)) (fun v css R G _ _ => upV_den css)) (QOk_body _ _ _) (by first | exact .inl rfl | exact .inr ⟨_, _, rfl, rfl⟩) ?_
  rintro _ ⟨_, css, _, G1, ⟨w1, rfl, rfl⟩, hcs, hle, rfl⟩
  clear hcs hle
  obtain ⟨l1, hl1⟩ : ∃ X, X = l ++ numB (t.size : Int) 1 := ⟨_, rfl⟩
  rw [← hl1]
  have hn1 : l1.length = l.length + (numB (t.size : Int) 1).length := by rw [hl1, List.length_append]
  rw [numB_len] at hn1
  simp only [go_sem, simprocAttr]
  refine plain_ok (N := 3000) (appendStr_does (R1 := []) (R2 := []) (n := l1.length) (v := w1) (xs := l1.flatMap bytC) (bs := t) rfl tySlice44 (by kernel_rfl) tyApp5 rfl rfl rfl (dk rfl) (by unfold maxLen; omega) (by omega)) (QOk_body _ _ _) (by first | exact .inl rfl | exact .inr ⟨_, _, rfl, rfl⟩) ?_
  rintro _ ⟨A', c', rfl⟩
  simp only [go_sem, simprocAttr]
  refine fin_retH (G := G0) Tryz.results34 ?_
  simp only [go_sem, simprocAttr]
  intro aa w' _ _
  exact ⟨_, rfl, by rw [bytRow_snoc, hl1, List.append_assoc]; rfl⟩
set_option maxRecDepth 100000 in
set_option maxHeartbeats 8000000 in
theorem wbit_does {g : Nat} {b : Bool} {wv : Value} {l : List UInt8} {G0 : GW} (hW : G0.Wf) (hh : HandsOk G0.w ⟨[⟨g, 82, [wv]⟩], [bytRow wv l]⟩) (hM : ∀ k, Hands.A ⟨[⟨g, 82, [wv]⟩], [bytRow wv l]⟩ k → G0.M k) (hl : l.length ≤ 8000000) :
    Calls Tryz.prog 78 #[.pointer (some ⟨g, 0, none⟩), .bool b] G0.w (RetH G0 ⟨[⟨g, 82, [wv]⟩], [bytRow wv l]⟩ fun _ css R G => ∃ wv', css = [[wv']] ∧ R = [bytRow wv' (l ++ btB b)]) := by
  have hml := max_le
  refine enterH (n := 9) 3000 ([.c (.p 0 g 0), .c (.v (.bool b))]) ([⟨0, g, 82, [.v wv]⟩]) rfl hW hh hM Tryz.func78 rfl Tryz.ntmps78 (by simp) ?_
  cases b with
  | false =>
    simp only [go_sem, simprocAttr]
    refine plain_ok (N := 3000) (callH_does ([0]) ([]) ([bytRow wv l]) ([]) (fun _ css R G => ∃ wv', css = [[wv']] ∧ R = [bytRow wv' (l ++ numB 0 1)]) upV rfl rfl (by kernel_rfl) rfl (dk rfl) rfl rfl (by simp [ids, Diff]) (by simp) (fun G hG hh hM => put_does (n := 0) (k := 1) hG.wf hh hM (by omega) (by omega)) (fun v css R G _ _ => upV_den css)) (QOk_body _ _ _) (by first | exact .inl rfl | exact .inr ⟨_, _, rfl, rfl⟩) ?_
    rintro _ ⟨_, css, _, G1, ⟨w1, rfl, rfl⟩, hcs, hle, rfl⟩
    clear hcs hle
    obtain ⟨l1, hl1⟩ : ∃ X, X = l ++ numB 0 1 := ⟨_, rfl⟩
    rw [← hl1]
    have hn1 : l1.length = l.length + (numB 0 1).length := by rw [hl1, List.length_append]
    simp only [go_sem, simprocAttr]
    refine fin_retH (G := G0) Tryz.results78 ?_
    simp only [go_sem, simprocAttr]
    intro aa w' _ _
    exact ⟨_, rfl, by rw [hl1]; rfl⟩
  | true =>
    simp only [go_sem, simprocAttr]
    refine plain_ok (N := 3000) (callH_does ([0]) ([]) ([bytRow wv l]) ([]) (fun _ css R G => ∃ wv', css = [[wv']] ∧ R = [bytRow wv' (l ++ numB 1 1)]) upV rfl rfl (by kernel_rfl) rfl (dk rfl) rfl rfl (by simp [ids, Diff]) (by simp) (fun G hG hh hM => put_does (n := 1) (k := 1) hG.wf hh hM (by omega) (by omega)) (fun v css R G _ _ => upV_den css)) (QOk_body _ _ _) (by first | exact .inl rfl | exact .inr ⟨_, _, rfl, rfl⟩) ?_
    rintro _ ⟨_, css, _, G1, ⟨w1, rfl, rfl⟩, hcs, hle, rfl⟩
    clear hcs hle
    obtain ⟨l1, hl1⟩ : ∃ X, X = l ++ numB 1 1 := ⟨_, rfl⟩
    rw [← hl1]
    have hn1 : l1.length = l.length + (numB 1 1).length := by rw [hl1, List.length_append]
    simp only [go_sem, simprocAttr]
    refine fin_retH (G := G0) Tryz.results78 ?_
    simp only [go_sem, simprocAttr]
    intro aa w' _ _
    exact ⟨_, rfl, by rw [hl1]; rfl⟩
set_option maxRecDepth 100000 in
set_option maxHeartbeats 8000000 in
theorem wints_does {g : Nat} {lv : Value} {il : List Int} {wv : Value} {l : List UInt8} {G0 : GW} (hW : G0.Wf) (hh : HandsOk G0.w ⟨[⟨g, 82, [wv]⟩], [bytRow wv l]⟩) (hM : ∀ k, Hands.A ⟨[⟨g, 82, [wv]⟩], [bytRow wv l]⟩ k → G0.M k) (hi : IntsG G0 lv il) (hil : il.length ≤ 1000) (hl : l.length ≤ 7900000) :
    Calls Tryz.prog 39 #[.pointer (some ⟨g, 0, none⟩), lv] G0.w (RetH G0 ⟨[⟨g, 82, [wv]⟩], [bytRow wv l]⟩ fun _ css R G => ∃ wv', css = [[wv']] ∧ R = [bytRow wv' (l ++ itB il)]) := by
  obtain ⟨A, c, rfl, hc1, hc2⟩ := Sq.form hi
  have hml := max_le
  refine enterH (n := 20) 3000 ([.c (.p 0 g 0), .c (.v (.slice A il.length c))]) ([⟨0, g, 82, [.v wv]⟩]) rfl hW hh hM Tryz.func39 rfl Tryz.ntmps39 (by simp) ?_
  simp only [go_sem, simprocAttr]
  refine plain_ok (N := 3000) (callH_does ([0]) ([]) ([bytRow wv l]) ([]) (fun _ css R G => ∃ wv', css = [[wv']] ∧ R = [bytRow wv' (l ++ numB (il.length : Int) 1)]) upV rfl rfl (by kernel_rfl) rfl (dk rfl) rfl rfl (by simp [ids, Diff]) (by simp) (fun G hG hh hM => put_does (n := (il.length : Int)) (k := 1) hG.wf hh hM (by omega) (by omega)) (fun v css R G _ _ => upV_den css)) (QOk_body _ _ _) (by first | exact .inl rfl | exact .inr ⟨_, _, rfl, rfl⟩) ?_
  rintro _ ⟨_, css, _, G1, ⟨w1, rfl, rfl⟩, hcs, hle, rfl⟩
  clear hcs hle
  obtain ⟨l1, hl1⟩ : ∃ X, X = l ++ numB (il.length : Int) 1 := ⟨_, rfl⟩
  rw [← hl1]
  have hn1 : l1.length = l.length + (numB (il.length : Int) 1).length := by rw [hl1, List.length_append]
  rw [numB_len] at hn1
  simp only [go_sem, simprocAttr]
  refine loop_ok (N := 3000) (ι := Nat × Value × List UInt8)
    (fun i => match i with | (i, v, a) => ⟨[(0, .c (.p 0 g 0)), (10, .c (.v (.slice A il.length c))), (11, .c (.v (.int .i64 (il.length : Int)))), (12, .c (.v (.int .i64 (i : Int))))], [⟨0, g, 82, [.v v]⟩], [bytRow v a], [], [G0], 1⟩)
    (fun i => match i with | (i, _, a) => i ≤ il.length ∧ a ++ (il.drop i).flatMap (fun x => numB x 1) = l ++ itB il ∧ a.length + (il.length - i) = l1.length + il.length) (fun i => il.length - i.1) (QOk_body _ _ _) (0, w1, l1) ⟨Nat.zero_le _, by rw [hl1, List.append_assoc]; rfl, rfl⟩ (by simp only [go_sem, simprocAttr]; simp) ?_
  rintro ⟨i, v, a⟩ ⟨hr, ha, hla⟩
  simp only
  by_cases hlt : i < il.length
  · have q : decide ((i : Int) < (il.length : Int)) = true := decide_eq_true (by omega)
    obtain ⟨x, hx⟩ : ∃ x, il[i]? = some x := ⟨_, List.getElem?_eq_getElem hlt⟩
    have hdrop : il.drop i = x :: il.drop (i + 1) := by
      rw [List.drop_eq_getElem_cons hlt]
      congr 1
      rw [List.getElem?_eq_getElem hlt] at hx
      exact Option.some.inj hx
    simp only [go_sem, simprocAttr, q]
    refine plain_ok (N := 3000) (elem_does (R := IntG) (l := il) (m := i) rfl tySlice28 tySize3 rfl rfl (dk rfl) rfl hx (fun G hG => Sq.mono hi intG_mono (hG.le G0 (by simp)))) (QOk_body _ _ _) (by first | exact .inl rfl | exact .inr ⟨_, _, rfl, rfl⟩) ?_
    rintro _ ⟨gw, ow, cs, G9, hcl, hcs, rfl⟩
    obtain rfl := hcs
    simp only [go_sem, simprocAttr]
    refine plain_ok (N := 3000) (callH_does ([0]) ([]) ([bytRow v a]) ([]) (fun _ css R G => ∃ wv', css = [[wv']] ∧ R = [bytRow wv' (a ++ numB x 1)]) upV rfl rfl (by kernel_rfl) rfl (dk rfl) rfl rfl (by simp [ids, Diff]) (by simp) (fun G hG hh hM => put_does (n := x) (k := 1) hG.wf hh hM (by omega) (by omega)) (fun v css R G _ _ => upV_den css)) (QOk_body _ _ _) (by first | exact .inl rfl | exact .inr ⟨_, _, rfl, rfl⟩) ?_
    rintro _ ⟨_, css, _, G2, ⟨w2, rfl, rfl⟩, hcs, hle, rfl⟩
    clear hcs hle
    obtain ⟨l2, hl2⟩ : ∃ X, X = a ++ numB x 1 := ⟨_, rfl⟩
    rw [← hl2]
    have hn2 : l2.length = a.length + (numB x 1).length := by rw [hl2, List.length_append]
    rw [numB_len] at hn2
    simp only [go_sem, simprocAttr]
    refine ⟨by omega, ?_⟩
    exact again_ok (i + 1, w2, l2) ⟨hlt, by rw [hl2, List.append_assoc, ← ha, hdrop]; rfl, by show l2.length + (il.length - (i + 1)) = _; omega⟩ (by show il.length - (i + 1) < il.length - i; omega) (by simp only [go_sem, simprocAttr]; simp)
  · have q : decide ((i : Int) < (il.length : Int)) = false := decide_eq_false (by omega)
    simp only [go_sem, simprocAttr, q]
    refine fin_retH (G := G0) Tryz.results39 ?_
    simp only [go_sem, simprocAttr]
    intro aa w' _ _
    exact ⟨_, rfl, by rw [← ha, List.drop_eq_nil_of_le (by omega)]; simp⟩
end Go.Proofs.YtohdfcnjcpjdcaaGreat
/- The writer of bytes: rule, part, ask, version. Conditions: as each law states them. -/
namespace Go.Proofs.YtohdfcnjcpjdcaaGreat
open Go.RowKit
set_option linter.unusedSimpArgs false
def ruB (x : Rul) : List UInt8 := txB x.pre ++ (numB (x.freeze + 1) 4 ++ (numB (x.drop + 1) 4))
def ptB (x : Prt) : List UInt8 := numB (x.n) 1 ++ (numB (x.size) 2 ++ (itB x.secs))
def akB (x : Ask) : List UInt8 := numB (x.ver) 3 ++ (numB (x.days) 2 ++ (numB (x.cls) 1))
def vrB (x : Ver) : List UInt8 := numB (x.id) 3 ++ (txB x.bucket ++ (txB x.key ++ (btB x.null ++ (btB x.marker ++ (numB (x.size) 2 ++ (numB (x.time) 4 ++ (numB (x.tier) 1 ++ (itB x.secs ++ (numB (x.vol) 1 ++ (numB (x.at_) 2 ++ (numB (x.till) 4)))))))))))
set_option maxRecDepth 100000 in
set_option maxHeartbeats 8000000 in
theorem wrule_does {g : Nat} {x : Rul} {wv : Value} {l : List UInt8} {G0 : GW} (hW : G0.Wf) (hh : HandsOk G0.w ⟨[⟨g, 82, [wv]⟩], [bytRow wv l]⟩) (hM : ∀ k, Hands.A ⟨[⟨g, 82, [wv]⟩], [bytRow wv l]⟩ k → G0.M k) (ht : x.pre.size ≤ 1000) (hf : -1 ≤ x.freeze ∧ x.freeze < 4294967296) (hd : -1 ≤ x.drop ∧ x.drop < 4294967296) (hl : l.length ≤ 7000000) :
    Calls Tryz.prog 35 #[.pointer (some ⟨g, 0, none⟩), .agg #[.string x.pre, .int .i64 x.freeze, .int .i64 x.drop]] G0.w (RetH G0 ⟨[⟨g, 82, [wv]⟩], [bytRow wv l]⟩ fun _ css R G => ∃ wv', css = [[wv']] ∧ R = [bytRow wv' (l ++ ruB x)]) := by
  have hml := max_le
  refine enterH (n := 18) 3000 ([.c (.p 0 g 0), .c (.v (.agg #[.string x.pre, .int .i64 x.freeze, .int .i64 x.drop]))]) ([⟨0, g, 82, [.v wv]⟩]) rfl hW hh hM Tryz.func35 rfl Tryz.ntmps35 (by simp) ?_
  simp only [go_sem, simprocAttr]
  intro gb
  refine plain_ok (N := 3000) (callH_does ([0]) ([]) ([bytRow wv l]) ([]) (fun _ css R G => ∃ wv', css = [[wv']] ∧ R = [bytRow wv' (l ++ txB x.pre)]) upV rfl rfl (by kernel_rfl) rfl (dk rfl) rfl rfl (by simp [ids, Diff]) (by simp) (fun G hG hh hM => wtext_does (t := x.pre) hG.wf hh hM (ht) (by omega)) (fun v css R G _ _ => upV_den css)) (QOk_body _ _ _) (by first | exact .inl rfl | exact .inr ⟨_, _, rfl, rfl⟩) ?_
  rintro _ ⟨_, css, _, G1, ⟨w1, rfl, rfl⟩, hcs, hle, rfl⟩
  clear hcs hle
  obtain ⟨l1, hl1⟩ : ∃ X, X = l ++ txB x.pre := ⟨_, rfl⟩
  rw [← hl1]
  have hn1 : l1.length = l.length + (txB x.pre).length := by rw [hl1, List.length_append]
  rw [txB_len] at hn1
  simp only [go_sem, simprocAttr]
  refine ⟨by omega, ?_⟩
  refine plain_ok (N := 3000) (callH_does ([0]) ([]) ([bytRow w1 l1]) ([]) (fun _ css R G => ∃ wv', css = [[wv']] ∧ R = [bytRow wv' (l1 ++ numB (x.freeze + 1) 4)]) upV rfl rfl (by kernel_rfl) rfl (dk rfl) rfl rfl (by simp [ids, Diff]) (by simp) (fun G hG hh hM => put_does (n := x.freeze + 1) (k := 4) hG.wf hh hM (by omega) (by omega)) (fun v css R G _ _ => upV_den css)) (QOk_body _ _ _) (by first | exact .inl rfl | exact .inr ⟨_, _, rfl, rfl⟩) ?_
  rintro _ ⟨_, css, _, G2, ⟨w2, rfl, rfl⟩, hcs, hle, rfl⟩
  clear hcs hle
  obtain ⟨l2, hl2⟩ : ∃ X, X = l1 ++ numB (x.freeze + 1) 4 := ⟨_, rfl⟩
  rw [← hl2]
  have hn2 : l2.length = l1.length + (numB (x.freeze + 1) 4).length := by rw [hl2, List.length_append]
  rw [numB_len] at hn2
  simp only [go_sem, simprocAttr]
  refine ⟨by omega, ?_⟩
  refine plain_ok (N := 3000) (callH_does ([0]) ([]) ([bytRow w2 l2]) ([]) (fun _ css R G => ∃ wv', css = [[wv']] ∧ R = [bytRow wv' (l2 ++ numB (x.drop + 1) 4)]) upV rfl rfl (by kernel_rfl) rfl (dk rfl) rfl rfl (by simp [ids, Diff]) (by simp) (fun G hG hh hM => put_does (n := x.drop + 1) (k := 4) hG.wf hh hM (by omega) (by omega)) (fun v css R G _ _ => upV_den css)) (QOk_body _ _ _) (by first | exact .inl rfl | exact .inr ⟨_, _, rfl, rfl⟩) ?_
  rintro _ ⟨_, css, _, G3, ⟨w3, rfl, rfl⟩, hcs, hle, rfl⟩
  clear hcs hle
  obtain ⟨l3, hl3⟩ : ∃ X, X = l2 ++ numB (x.drop + 1) 4 := ⟨_, rfl⟩
  rw [← hl3]
  have hn3 : l3.length = l2.length + (numB (x.drop + 1) 4).length := by rw [hl3, List.length_append]
  rw [numB_len] at hn3
  simp only [go_sem, simprocAttr]
  refine fin_retH (G := G0) Tryz.results35 ?_
  simp only [go_sem, simprocAttr]
  intro aa w' _ _
  exact ⟨_, rfl, by rw [hl3, hl2, hl1]; simp only [List.append_assoc]; rfl⟩
set_option maxRecDepth 100000 in
set_option maxHeartbeats 8000000 in
theorem wpart_does {g : Nat} {x : Prt} {sv : Value} {wv : Value} {l : List UInt8} {G0 : GW} (hW : G0.Wf) (hh : HandsOk G0.w ⟨[⟨g, 82, [wv]⟩], [bytRow wv l]⟩) (hM : ∀ k, Hands.A ⟨[⟨g, 82, [wv]⟩], [bytRow wv l]⟩ k → G0.M k) (hi : IntsG G0 sv x.secs) (hs : x.secs.length ≤ 1000) (hl : l.length ≤ 7000000) :
    Calls Tryz.prog 37 #[.pointer (some ⟨g, 0, none⟩), .agg #[.int .i64 x.n, .int .i64 x.size, sv]] G0.w (RetH G0 ⟨[⟨g, 82, [wv]⟩], [bytRow wv l]⟩ fun _ css R G => ∃ wv', css = [[wv']] ∧ R = [bytRow wv' (l ++ ptB x)]) := by
  obtain ⟨A, c, rfl, hc1, hc2⟩ := Sq.form hi
  have hml := max_le
  refine enterH (n := 16) 3000 ([.c (.p 0 g 0), .c (.v (.agg #[.int .i64 x.n, .int .i64 x.size, .slice A x.secs.length c]))]) ([⟨0, g, 82, [.v wv]⟩]) rfl hW hh hM Tryz.func37 rfl Tryz.ntmps37 (by simp) ?_
  simp only [go_sem, simprocAttr]
  intro gb
  refine plain_ok (N := 3000) (callH_does ([0]) ([]) ([bytRow wv l]) ([]) (fun _ css R G => ∃ wv', css = [[wv']] ∧ R = [bytRow wv' (l ++ numB (x.n) 1)]) upV rfl rfl (by kernel_rfl) rfl (dk rfl) rfl rfl (by simp [ids, Diff]) (by simp) (fun G hG hh hM => put_does (n := x.n) (k := 1) hG.wf hh hM (by omega) (by omega)) (fun v css R G _ _ => upV_den css)) (QOk_body _ _ _) (by first | exact .inl rfl | exact .inr ⟨_, _, rfl, rfl⟩) ?_
  rintro _ ⟨_, css, _, G1, ⟨w1, rfl, rfl⟩, hcs, hle, rfl⟩
  clear hcs hle
  obtain ⟨l1, hl1⟩ : ∃ X, X = l ++ numB (x.n) 1 := ⟨_, rfl⟩
  rw [← hl1]
  have hn1 : l1.length = l.length + (numB (x.n) 1).length := by rw [hl1, List.length_append]
  rw [numB_len] at hn1
  simp only [go_sem, simprocAttr]
  refine plain_ok (N := 3000) (callH_does ([0]) ([]) ([bytRow w1 l1]) ([]) (fun _ css R G => ∃ wv', css = [[wv']] ∧ R = [bytRow wv' (l1 ++ numB (x.size) 2)]) upV rfl rfl (by kernel_rfl) rfl (dk rfl) rfl rfl (by simp [ids, Diff]) (by simp) (fun G hG hh hM => put_does (n := x.size) (k := 2) hG.wf hh hM (by omega) (by omega)) (fun v css R G _ _ => upV_den css)) (QOk_body _ _ _) (by first | exact .inl rfl | exact .inr ⟨_, _, rfl, rfl⟩) ?_
  rintro _ ⟨_, css, _, G2, ⟨w2, rfl, rfl⟩, hcs, hle, rfl⟩
  clear hcs hle
  obtain ⟨l2, hl2⟩ : ∃ X, X = l1 ++ numB (x.size) 2 := ⟨_, rfl⟩
  rw [← hl2]
  have hn2 : l2.length = l1.length + (numB (x.size) 2).length := by rw [hl2, List.length_append]
  rw [numB_len] at hn2
  simp only [go_sem, simprocAttr]
  refine plain_ok (N := 3000) (callH_does ([0]) ([]) ([bytRow w2 l2]) ([]) (fun _ css R G => ∃ wv', css = [[wv']] ∧ R = [bytRow wv' (l2 ++ itB x.secs)]) upV rfl rfl (by kernel_rfl) rfl (dk rfl) rfl rfl (by simp [ids, Diff]) (by simp) (fun G hG hh hM => wints_does (il := x.secs) hG.wf hh hM (hi.mono (hG.le G0 (by simp))) (hs) (by omega)) (fun v css R G _ _ => upV_den css)) (QOk_body _ _ _) (by first | exact .inl rfl | exact .inr ⟨_, _, rfl, rfl⟩) ?_
  rintro _ ⟨_, css, _, G3, ⟨w3, rfl, rfl⟩, hcs, hle, rfl⟩
  clear hcs hle
  obtain ⟨l3, hl3⟩ : ∃ X, X = l2 ++ itB x.secs := ⟨_, rfl⟩
  rw [← hl3]
  have hn3 : l3.length = l2.length + (itB x.secs).length := by rw [hl3, List.length_append]
  rw [itB_len] at hn3
  simp only [go_sem, simprocAttr]
  refine fin_retH (G := G0) Tryz.results37 ?_
  simp only [go_sem, simprocAttr]
  intro aa w' _ _
  exact ⟨_, rfl, by rw [hl3, hl2, hl1]; simp only [List.append_assoc]; rfl⟩
set_option maxRecDepth 100000 in
set_option maxHeartbeats 8000000 in
theorem wask_does {g : Nat} {x : Ask} {wv : Value} {l : List UInt8} {G0 : GW} (hW : G0.Wf) (hh : HandsOk G0.w ⟨[⟨g, 82, [wv]⟩], [bytRow wv l]⟩) (hM : ∀ k, Hands.A ⟨[⟨g, 82, [wv]⟩], [bytRow wv l]⟩ k → G0.M k) (hl : l.length ≤ 7000000) :
    Calls Tryz.prog 38 #[.pointer (some ⟨g, 0, none⟩), .agg #[.int .i64 x.ver, .int .i64 x.days, .int .i64 x.cls]] G0.w (RetH G0 ⟨[⟨g, 82, [wv]⟩], [bytRow wv l]⟩ fun _ css R G => ∃ wv', css = [[wv']] ∧ R = [bytRow wv' (l ++ akB x)]) := by
  have hml := max_le
  refine enterH (n := 16) 3000 ([.c (.p 0 g 0), .c (.v (.agg #[.int .i64 x.ver, .int .i64 x.days, .int .i64 x.cls]))]) ([⟨0, g, 82, [.v wv]⟩]) rfl hW hh hM Tryz.func38 rfl Tryz.ntmps38 (by simp) ?_
  simp only [go_sem, simprocAttr]
  intro gb
  refine plain_ok (N := 3000) (callH_does ([0]) ([]) ([bytRow wv l]) ([]) (fun _ css R G => ∃ wv', css = [[wv']] ∧ R = [bytRow wv' (l ++ numB (x.ver) 3)]) upV rfl rfl (by kernel_rfl) rfl (dk rfl) rfl rfl (by simp [ids, Diff]) (by simp) (fun G hG hh hM => put_does (n := x.ver) (k := 3) hG.wf hh hM (by omega) (by omega)) (fun v css R G _ _ => upV_den css)) (QOk_body _ _ _) (by first | exact .inl rfl | exact .inr ⟨_, _, rfl, rfl⟩) ?_
  rintro _ ⟨_, css, _, G1, ⟨w1, rfl, rfl⟩, hcs, hle, rfl⟩
  clear hcs hle
  obtain ⟨l1, hl1⟩ : ∃ X, X = l ++ numB (x.ver) 3 := ⟨_, rfl⟩
  rw [← hl1]
  have hn1 : l1.length = l.length + (numB (x.ver) 3).length := by rw [hl1, List.length_append]
  rw [numB_len] at hn1
  simp only [go_sem, simprocAttr]
  refine plain_ok (N := 3000) (callH_does ([0]) ([]) ([bytRow w1 l1]) ([]) (fun _ css R G => ∃ wv', css = [[wv']] ∧ R = [bytRow wv' (l1 ++ numB (x.days) 2)]) upV rfl rfl (by kernel_rfl) rfl (dk rfl) rfl rfl (by simp [ids, Diff]) (by simp) (fun G hG hh hM => put_does (n := x.days) (k := 2) hG.wf hh hM (by omega) (by omega)) (fun v css R G _ _ => upV_den css)) (QOk_body _ _ _) (by first | exact .inl rfl | exact .inr ⟨_, _, rfl, rfl⟩) ?_
  rintro _ ⟨_, css, _, G2, ⟨w2, rfl, rfl⟩, hcs, hle, rfl⟩
  clear hcs hle
  obtain ⟨l2, hl2⟩ : ∃ X, X = l1 ++ numB (x.days) 2 := ⟨_, rfl⟩
  rw [← hl2]
  have hn2 : l2.length = l1.length + (numB (x.days) 2).length := by rw [hl2, List.length_append]
  rw [numB_len] at hn2
  simp only [go_sem, simprocAttr]
  refine plain_ok (N := 3000) (callH_does ([0]) ([]) ([bytRow w2 l2]) ([]) (fun _ css R G => ∃ wv', css = [[wv']] ∧ R = [bytRow wv' (l2 ++ numB (x.cls) 1)]) upV rfl rfl (by kernel_rfl) rfl (dk rfl) rfl rfl (by simp [ids, Diff]) (by simp) (fun G hG hh hM => put_does (n := x.cls) (k := 1) hG.wf hh hM (by omega) (by omega)) (fun v css R G _ _ => upV_den css)) (QOk_body _ _ _) (by first | exact .inl rfl | exact .inr ⟨_, _, rfl, rfl⟩) ?_
  rintro _ ⟨_, css, _, G3, ⟨w3, rfl, rfl⟩, hcs, hle, rfl⟩
  clear hcs hle
  obtain ⟨l3, hl3⟩ : ∃ X, X = l2 ++ numB (x.cls) 1 := ⟨_, rfl⟩
  rw [← hl3]
  have hn3 : l3.length = l2.length + (numB (x.cls) 1).length := by rw [hl3, List.length_append]
  rw [numB_len] at hn3
  simp only [go_sem, simprocAttr]
  refine fin_retH (G := G0) Tryz.results38 ?_
  simp only [go_sem, simprocAttr]
  intro aa w' _ _
  exact ⟨_, rfl, by rw [hl3, hl2, hl1]; simp only [List.append_assoc]; rfl⟩
set_option maxRecDepth 100000 in
set_option maxHeartbeats 8000000 in
theorem wversion_does {g : Nat} {x : Ver} {sv : Value} {wv : Value} {l : List UInt8} {G0 : GW} (hW : G0.Wf) (hh : HandsOk G0.w ⟨[⟨g, 82, [wv]⟩], [bytRow wv l]⟩) (hM : ∀ k, Hands.A ⟨[⟨g, 82, [wv]⟩], [bytRow wv l]⟩ k → G0.M k) (hi : IntsG G0 sv x.secs) (hs : x.secs.length ≤ 1000) (hb : x.bucket.size ≤ 1000) (hk : x.key.size ≤ 1000) (hl : l.length ≤ 7000000) :
    Calls Tryz.prog 36 #[.pointer (some ⟨g, 0, none⟩), .agg (verV x sv).toArray] G0.w (RetH G0 ⟨[⟨g, 82, [wv]⟩], [bytRow wv l]⟩ fun _ css R G => ∃ wv', css = [[wv']] ∧ R = [bytRow wv' (l ++ vrB x)]) := by
  obtain ⟨A, c, rfl, hc1, hc2⟩ := Sq.form hi
  have hml := max_le
  refine enterH (n := 52) 3000 ([.c (.p 0 g 0), .c (.v (.agg (verV x (.slice A x.secs.length c)).toArray))]) ([⟨0, g, 82, [.v wv]⟩]) rfl hW hh hM Tryz.func36 rfl Tryz.ntmps36 (by simp) ?_
  simp only [go_sem, simprocAttr, verV]
  intro gb
  refine plain_ok (N := 3000) (callH_does ([0]) ([]) ([bytRow wv l]) ([]) (fun _ css R G => ∃ wv', css = [[wv']] ∧ R = [bytRow wv' (l ++ numB (x.id) 3)]) upV rfl rfl (by kernel_rfl) rfl (dk rfl) rfl rfl (by simp [ids, Diff]) (by simp) (fun G hG hh hM => put_does (n := x.id) (k := 3) hG.wf hh hM (by omega) (by omega)) (fun v css R G _ _ => upV_den css)) (QOk_body _ _ _) (by first | exact .inl rfl | exact .inr ⟨_, _, rfl, rfl⟩) ?_
  rintro _ ⟨_, css, _, G1, ⟨w1, rfl, rfl⟩, hcs, hle, rfl⟩
  clear hcs hle
  obtain ⟨l1, hl1⟩ : ∃ X, X = l ++ numB (x.id) 3 := ⟨_, rfl⟩
  rw [← hl1]
  have hn1 : l1.length = l.length + (numB (x.id) 3).length := by rw [hl1, List.length_append]
  rw [numB_len] at hn1
  simp only [go_sem, simprocAttr]
  refine plain_ok (N := 3000) (callH_does ([0]) ([]) ([bytRow w1 l1]) ([]) (fun _ css R G => ∃ wv', css = [[wv']] ∧ R = [bytRow wv' (l1 ++ txB x.bucket)]) upV rfl rfl (by kernel_rfl) rfl (dk rfl) rfl rfl (by simp [ids, Diff]) (by simp) (fun G hG hh hM => wtext_does (t := x.bucket) hG.wf hh hM (hb) (by omega)) (fun v css R G _ _ => upV_den css)) (QOk_body _ _ _) (by first | exact .inl rfl | exact .inr ⟨_, _, rfl, rfl⟩) ?_
  rintro _ ⟨_, css, _, G2, ⟨w2, rfl, rfl⟩, hcs, hle, rfl⟩
  clear hcs hle
  obtain ⟨l2, hl2⟩ : ∃ X, X = l1 ++ txB x.bucket := ⟨_, rfl⟩
  rw [← hl2]
  have hn2 : l2.length = l1.length + (txB x.bucket).length := by rw [hl2, List.length_append]
  rw [txB_len] at hn2
  simp only [go_sem, simprocAttr]
  refine plain_ok (N := 3000) (callH_does ([0]) ([]) ([bytRow w2 l2]) ([]) (fun _ css R G => ∃ wv', css = [[wv']] ∧ R = [bytRow wv' (l2 ++ txB x.key)]) upV rfl rfl (by kernel_rfl) rfl (dk rfl) rfl rfl (by simp [ids, Diff]) (by simp) (fun G hG hh hM => wtext_does (t := x.key) hG.wf hh hM (hk) (by omega)) (fun v css R G _ _ => upV_den css)) (QOk_body _ _ _) (by first | exact .inl rfl | exact .inr ⟨_, _, rfl, rfl⟩) ?_
  rintro _ ⟨_, css, _, G3, ⟨w3, rfl, rfl⟩, hcs, hle, rfl⟩
  clear hcs hle
  obtain ⟨l3, hl3⟩ : ∃ X, X = l2 ++ txB x.key := ⟨_, rfl⟩
  rw [← hl3]
  have hn3 : l3.length = l2.length + (txB x.key).length := by rw [hl3, List.length_append]
  rw [txB_len] at hn3
  simp only [go_sem, simprocAttr]
  refine plain_ok (N := 3000) (callH_does ([0]) ([]) ([bytRow w3 l3]) ([]) (fun _ css R G => ∃ wv', css = [[wv']] ∧ R = [bytRow wv' (l3 ++ btB x.null)]) upV rfl rfl (by kernel_rfl) rfl (dk rfl) rfl rfl (by simp [ids, Diff]) (by simp) (fun G hG hh hM => wbit_does (b := x.null) hG.wf hh hM (by omega)) (fun v css R G _ _ => upV_den css)) (QOk_body _ _ _) (by first | exact .inl rfl | exact .inr ⟨_, _, rfl, rfl⟩) ?_
  rintro _ ⟨_, css, _, G4, ⟨w4, rfl, rfl⟩, hcs, hle, rfl⟩
  clear hcs hle
  obtain ⟨l4, hl4⟩ : ∃ X, X = l3 ++ btB x.null := ⟨_, rfl⟩
  rw [← hl4]
  have hn4 : l4.length = l3.length + (btB x.null).length := by rw [hl4, List.length_append]
  rw [btB_len] at hn4
  simp only [go_sem, simprocAttr]
  refine plain_ok (N := 3000) (callH_does ([0]) ([]) ([bytRow w4 l4]) ([]) (fun _ css R G => ∃ wv', css = [[wv']] ∧ R = [bytRow wv' (l4 ++ btB x.marker)]) upV rfl rfl (by kernel_rfl) rfl (dk rfl) rfl rfl (by simp [ids, Diff]) (by simp) (fun G hG hh hM => wbit_does (b := x.marker) hG.wf hh hM (by omega)) (fun v css R G _ _ => upV_den css)) (QOk_body _ _ _) (by first | exact .inl rfl | exact .inr ⟨_, _, rfl, rfl⟩) ?_
  rintro _ ⟨_, css, _, G5, ⟨w5, rfl, rfl⟩, hcs, hle, rfl⟩
  clear hcs hle
  obtain ⟨l5, hl5⟩ : ∃ X, X = l4 ++ btB x.marker := ⟨_, rfl⟩
  rw [← hl5]
  have hn5 : l5.length = l4.length + (btB x.marker).length := by rw [hl5, List.length_append]
  rw [btB_len] at hn5
  simp only [go_sem, simprocAttr]
  refine plain_ok (N := 3000) (callH_does ([0]) ([]) ([bytRow w5 l5]) ([]) (fun _ css R G => ∃ wv', css = [[wv']] ∧ R = [bytRow wv' (l5 ++ numB (x.size) 2)]) upV rfl rfl (by kernel_rfl) rfl (dk rfl) rfl rfl (by simp [ids, Diff]) (by simp) (fun G hG hh hM => put_does (n := x.size) (k := 2) hG.wf hh hM (by omega) (by omega)) (fun v css R G _ _ => upV_den css)) (QOk_body _ _ _) (by first | exact .inl rfl | exact .inr ⟨_, _, rfl, rfl⟩) ?_
  rintro _ ⟨_, css, _, G6, ⟨w6, rfl, rfl⟩, hcs, hle, rfl⟩
  clear hcs hle
  obtain ⟨l6, hl6⟩ : ∃ X, X = l5 ++ numB (x.size) 2 := ⟨_, rfl⟩
  rw [← hl6]
  have hn6 : l6.length = l5.length + (numB (x.size) 2).length := by rw [hl6, List.length_append]
  rw [numB_len] at hn6
  simp only [go_sem, simprocAttr]
  refine plain_ok (N := 3000) (callH_does ([0]) ([]) ([bytRow w6 l6]) ([]) (fun _ css R G => ∃ wv', css = [[wv']] ∧ R = [bytRow wv' (l6 ++ numB (x.time) 4)]) upV rfl rfl (by kernel_rfl) rfl (dk rfl) rfl rfl (by simp [ids, Diff]) (by simp) (fun G hG hh hM => put_does (n := x.time) (k := 4) hG.wf hh hM (by omega) (by omega)) (fun v css R G _ _ => upV_den css)) (QOk_body _ _ _) (by first | exact .inl rfl | exact .inr ⟨_, _, rfl, rfl⟩) ?_
  rintro _ ⟨_, css, _, G7, ⟨w7, rfl, rfl⟩, hcs, hle, rfl⟩
  clear hcs hle
  obtain ⟨l7, hl7⟩ : ∃ X, X = l6 ++ numB (x.time) 4 := ⟨_, rfl⟩
  rw [← hl7]
  have hn7 : l7.length = l6.length + (numB (x.time) 4).length := by rw [hl7, List.length_append]
  rw [numB_len] at hn7
  simp only [go_sem, simprocAttr]
  refine plain_ok (N := 3000) (callH_does ([0]) ([]) ([bytRow w7 l7]) ([]) (fun _ css R G => ∃ wv', css = [[wv']] ∧ R = [bytRow wv' (l7 ++ numB (x.tier) 1)]) upV rfl rfl (by kernel_rfl) rfl (dk rfl) rfl rfl (by simp [ids, Diff]) (by simp) (fun G hG hh hM => put_does (n := x.tier) (k := 1) hG.wf hh hM (by omega) (by omega)) (fun v css R G _ _ => upV_den css)) (QOk_body _ _ _) (by first | exact .inl rfl | exact .inr ⟨_, _, rfl, rfl⟩) ?_
  rintro _ ⟨_, css, _, G8, ⟨w8, rfl, rfl⟩, hcs, hle, rfl⟩
  clear hcs hle
  obtain ⟨l8, hl8⟩ : ∃ X, X = l7 ++ numB (x.tier) 1 := ⟨_, rfl⟩
  rw [← hl8]
  have hn8 : l8.length = l7.length + (numB (x.tier) 1).length := by rw [hl8, List.length_append]
  rw [numB_len] at hn8
  simp only [go_sem, simprocAttr]
  refine plain_ok (N := 3000) (callH_does ([0]) ([]) ([bytRow w8 l8]) ([]) (fun _ css R G => ∃ wv', css = [[wv']] ∧ R = [bytRow wv' (l8 ++ itB x.secs)]) upV rfl rfl (by kernel_rfl) rfl (dk rfl) rfl rfl (by simp [ids, Diff]) (by simp) (fun G hG hh hM => wints_does (il := x.secs) hG.wf hh hM (hi.mono (hG.le G0 (by simp))) (hs) (by omega)) (fun v css R G _ _ => upV_den css)) (QOk_body _ _ _) (by first | exact .inl rfl | exact .inr ⟨_, _, rfl, rfl⟩) ?_
  rintro _ ⟨_, css, _, G9, ⟨w9, rfl, rfl⟩, hcs, hle, rfl⟩
  clear hcs hle
  obtain ⟨l9, hl9⟩ : ∃ X, X = l8 ++ itB x.secs := ⟨_, rfl⟩
  rw [← hl9]
  have hn9 : l9.length = l8.length + (itB x.secs).length := by rw [hl9, List.length_append]
  rw [itB_len] at hn9
  simp only [go_sem, simprocAttr]
  refine plain_ok (N := 3000) (callH_does ([0]) ([]) ([bytRow w9 l9]) ([]) (fun _ css R G => ∃ wv', css = [[wv']] ∧ R = [bytRow wv' (l9 ++ numB (x.vol) 1)]) upV rfl rfl (by kernel_rfl) rfl (dk rfl) rfl rfl (by simp [ids, Diff]) (by simp) (fun G hG hh hM => put_does (n := x.vol) (k := 1) hG.wf hh hM (by omega) (by omega)) (fun v css R G _ _ => upV_den css)) (QOk_body _ _ _) (by first | exact .inl rfl | exact .inr ⟨_, _, rfl, rfl⟩) ?_
  rintro _ ⟨_, css, _, G10, ⟨w10, rfl, rfl⟩, hcs, hle, rfl⟩
  clear hcs hle
  obtain ⟨l10, hl10⟩ : ∃ X, X = l9 ++ numB (x.vol) 1 := ⟨_, rfl⟩
  rw [← hl10]
  have hn10 : l10.length = l9.length + (numB (x.vol) 1).length := by rw [hl10, List.length_append]
  rw [numB_len] at hn10
  simp only [go_sem, simprocAttr]
  refine plain_ok (N := 3000) (callH_does ([0]) ([]) ([bytRow w10 l10]) ([]) (fun _ css R G => ∃ wv', css = [[wv']] ∧ R = [bytRow wv' (l10 ++ numB (x.at_) 2)]) upV rfl rfl (by kernel_rfl) rfl (dk rfl) rfl rfl (by simp [ids, Diff]) (by simp) (fun G hG hh hM => put_does (n := x.at_) (k := 2) hG.wf hh hM (by omega) (by omega)) (fun v css R G _ _ => upV_den css)) (QOk_body _ _ _) (by first | exact .inl rfl | exact .inr ⟨_, _, rfl, rfl⟩) ?_
  rintro _ ⟨_, css, _, G11, ⟨w11, rfl, rfl⟩, hcs, hle, rfl⟩
  clear hcs hle
  obtain ⟨l11, hl11⟩ : ∃ X, X = l10 ++ numB (x.at_) 2 := ⟨_, rfl⟩
  rw [← hl11]
  have hn11 : l11.length = l10.length + (numB (x.at_) 2).length := by rw [hl11, List.length_append]
  rw [numB_len] at hn11
  simp only [go_sem, simprocAttr]
  refine plain_ok (N := 3000) (callH_does ([0]) ([]) ([bytRow w11 l11]) ([]) (fun _ css R G => ∃ wv', css = [[wv']] ∧ R = [bytRow wv' (l11 ++ numB (x.till) 4)]) upV rfl rfl (by kernel_rfl) rfl (dk rfl) rfl rfl (by simp [ids, Diff]) (by simp) (fun G hG hh hM => put_does (n := x.till) (k := 4) hG.wf hh hM (by omega) (by omega)) (fun v css R G _ _ => upV_den css)) (QOk_body _ _ _) (by first | exact .inl rfl | exact .inr ⟨_, _, rfl, rfl⟩) ?_
  rintro _ ⟨_, css, _, G12, ⟨w12, rfl, rfl⟩, hcs, hle, rfl⟩
  clear hcs hle
  obtain ⟨l12, hl12⟩ : ∃ X, X = l11 ++ numB (x.till) 4 := ⟨_, rfl⟩
  rw [← hl12]
  have hn12 : l12.length = l11.length + (numB (x.till) 4).length := by rw [hl12, List.length_append]
  rw [numB_len] at hn12
  simp only [go_sem, simprocAttr]
  refine fin_retH (G := G0) Tryz.results36 ?_
  simp only [go_sem, simprocAttr]
  intro aa w' _ _
  exact ⟨_, rfl, by rw [hl12, hl11, hl10, hl9, hl8, hl7, hl6, hl5, hl4, hl3, hl2, hl1]; simp only [List.append_assoc]; rfl⟩
end Go.Proofs.YtohdfcnjcpjdcaaGreat
/- EncodeState. Conditions: as each law states them. -/
namespace Go.Proofs.YtohdfcnjcpjdcaaGreat
open Go.RowKit
set_option linter.unusedSimpArgs false
def bkB (x : Bkt) : List UInt8 := txB x.name ++ (numB x.mode 1 ++ ruB x.rule)
def upB (x : Upl) : List UInt8 := numB x.id 3 ++ (txB x.bucket ++ (txB x.key ++ (numB (x.parts.length : Int) 1 ++ x.parts.flatMap ptB)))
/-- a state as bytes -/
def staB (s : Sta) : List UInt8 := numB s.next 3 ++ (numB s.clock 4 ++ (numB (s.bkts.length : Int) 1 ++ (s.bkts.flatMap bkB ++ (numB (s.vers.length : Int) 1 ++ (s.vers.flatMap vrB ++ (numB (s.upls.length : Int) 1 ++ (s.upls.flatMap upB ++ (numB (s.queue.length : Int) 1 ++ (s.queue.flatMap akB ++ itB s.gone)))))))))
def encS (s : Sta) : List UInt8 × Int := if errSt s = 0 then (staB s, 0) else ([], errSt s)
theorem ruB_len (x : Rul) : (ruB x).length = x.pre.size + 9 := by simp only [ruB, List.length_append, numB_len, txB_len]; omega
theorem ptB_len (x : Prt) : (ptB x).length = x.secs.length + 4 := by simp only [ptB, List.length_append, numB_len, itB_len]; omega
theorem akB_len (x : Ask) : (akB x).length = 6 := by simp only [akB, List.length_append, numB_len]
theorem vrB_len (x : Ver) : (vrB x).length = x.bucket.size + x.key.size + x.secs.length + 22 := by simp only [vrB, List.length_append, numB_len, txB_len, btB_len, itB_len]; omega
theorem drop_get {α : Type} {l : List α} {i : Nat} {x : α} (h : l[i]? = some x) : l.drop i = x :: l.drop (i + 1) := by
  obtain ⟨hlt, e⟩ := List.getElem?_eq_some_iff.1 h
  rw [List.drop_eq_getElem_cons hlt, e]
/-- a state of no great size -/
structure Small (s : Sta) : Prop where
  bl : s.bkts.length ≤ 100
  vl : s.vers.length ≤ 100
  ul : s.upls.length ≤ 20
  ql : s.queue.length ≤ 1000
  gl : s.gone.length ≤ 1000
  b : ∀ x ∈ s.bkts, x.name.size ≤ 1000 ∧ x.rule.pre.size ≤ 1000 ∧ (-1 ≤ x.rule.freeze ∧ x.rule.freeze < 4294967296) ∧ (-1 ≤ x.rule.drop ∧ x.rule.drop < 4294967296)
  v : ∀ x ∈ s.vers, x.secs.length ≤ 1000 ∧ x.bucket.size ≤ 1000 ∧ x.key.size ≤ 1000
  u : ∀ x ∈ s.upls, x.bucket.size ≤ 1000 ∧ x.key.size ≤ 1000 ∧ x.parts.length ≤ 20 ∧ ∀ p ∈ x.parts, p.secs.length ≤ 1000
set_option maxRecDepth 100000 in
set_option maxHeartbeats 16000000 in
theorem encode_does {sv : Value} {s : Sta} {G0 : GW} (hW : G0.Wf) (hs : StaG G0 sv s) (hsm : errSt s = 0 → Small s) :
    Calls Tryz.prog 13 #[sv] G0.w (Ret G0 fun y G => ∃ bv, y = .tuple #[bv, .int .i64 (encS s).2] ∧ ByG G bv (encS s).1) := by
  obtain ⟨A1, c1, A2, c2, A3, c3, A4, c4, A5, c5, rfl, hP⟩ := hs.form
  have hml := max_le
  refine enterS (G := G0) (n := 137) 3000 hW Tryz.func13 rfl Tryz.ntmps13 (by simp) ?_
  simp only [go_sem, simprocAttr]
  intro gs
  refine plain_ok (N := 3000) (call_does (fun y _ => y = .int .i64 (errSt s)) rfl rfl (by kernel_rfl) rfl (dk rfl) (fun G hG => check_does hG.wf (hs.mono (hG.le G0 (by simp))))) (QOk_body _ _ _) (by first | exact .inl rfl | exact .inr ⟨_, _, rfl, rfl⟩) ?_
  rintro _ ⟨_, GC, rfl, hnC, rfl⟩
  clear hnC
  by_cases hz : errSt s = 0
  case neg =>
    have qz : decide (errSt s = 0) = false := decide_eq_false hz
    have e : encS s = ([], errSt s) := if_neg hz
    rw [e]
    simp only [go_sem, simprocAttr, qz, Bool.not_false]
    refine fin_ret (G := G0) Tryz.results13 ?_
    simp only [go_sem, simprocAttr]
    intro aa w' _ hle
    exact ⟨_, rfl, ByG.nil _⟩
  have qz : decide (errSt s = 0) = true := decide_eq_true hz
  have e : encS s = (staB s, 0) := if_pos hz
  rw [e]
  have hS := hsm hz
  have hbl := hS.bl
  have hvl := hS.vl
  have hul := hS.ul
  have hql := hS.ql
  have hgl := hS.gl
  simp only [go_sem, simprocAttr, qz, Bool.not_true]
  intro gw
  refine row_ok 5 1 ?_
  simp only [St.rowsTo]
  refine plain_ok (N := 3000) (callH_does ([1]) ([]) ([bytRow (.slice none 0 0) ([] : List UInt8)]) ([]) (fun _ css R G => ∃ wv', css = [[wv']] ∧ R = [bytRow wv' (([] : List UInt8) ++ numB (s.next) 3)]) upV rfl rfl (by kernel_rfl) rfl (dk rfl) rfl rfl (by simp [ids, Diff]) (by simp) (fun G hG hh hM => put_does (n := s.next) (k := 3) hG.wf hh hM (by omega) (by simp)) (fun v css R G _ _ => upV_den css)) (QOk_body _ _ _) (by first | exact .inl rfl | exact .inr ⟨_, _, rfl, rfl⟩) ?_
  rintro _ ⟨_, css, _, G1, ⟨w1, rfl, rfl⟩, hcs, hle, rfl⟩
  clear hcs hle
  obtain ⟨l1, hl1⟩ : ∃ X, X = ([] : List UInt8) ++ numB (s.next) 3 := ⟨_, rfl⟩
  rw [← hl1]
  have hn1 : l1.length = ([] : List UInt8).length + (numB (s.next) 3).length := by rw [hl1, List.length_append]
  rw [numB_len, List.length_nil] at hn1
  simp only [go_sem, simprocAttr]
  refine plain_ok (N := 3000) (callH_does ([1]) ([]) ([bytRow w1 l1]) ([]) (fun _ css R G => ∃ wv', css = [[wv']] ∧ R = [bytRow wv' (l1 ++ numB (s.clock) 4)]) upV rfl rfl (by kernel_rfl) rfl (dk rfl) rfl rfl (by simp [ids, Diff]) (by simp) (fun G hG hh hM => put_does (n := s.clock) (k := 4) hG.wf hh hM (by omega) (by omega)) (fun v css R G _ _ => upV_den css)) (QOk_body _ _ _) (by first | exact .inl rfl | exact .inr ⟨_, _, rfl, rfl⟩) ?_
  rintro _ ⟨_, css, _, G2, ⟨w2, rfl, rfl⟩, hcs, hle, rfl⟩
  clear hcs hle
  obtain ⟨l2, hl2⟩ : ∃ X, X = l1 ++ numB (s.clock) 4 := ⟨_, rfl⟩
  rw [← hl2]
  have hn2 : l2.length = l1.length + (numB (s.clock) 4).length := by rw [hl2, List.length_append]
  rw [numB_len] at hn2
  simp only [go_sem, simprocAttr]
  refine plain_ok (N := 3000) (callH_does ([1]) ([]) ([bytRow w2 l2]) ([]) (fun _ css R G => ∃ wv', css = [[wv']] ∧ R = [bytRow wv' (l2 ++ numB ((s.bkts.length : Int)) 1)]) upV rfl rfl (by kernel_rfl) rfl (dk rfl) rfl rfl (by simp [ids, Diff]) (by simp) (fun G hG hh hM => put_does (n := (s.bkts.length : Int)) (k := 1) hG.wf hh hM (by omega) (by omega)) (fun v css R G _ _ => upV_den css)) (QOk_body _ _ _) (by first | exact .inl rfl | exact .inr ⟨_, _, rfl, rfl⟩) ?_
  rintro _ ⟨_, css, _, G3, ⟨w3, rfl, rfl⟩, hcs, hle, rfl⟩
  clear hcs hle
  obtain ⟨l3, hl3⟩ : ∃ X, X = l2 ++ numB ((s.bkts.length : Int)) 1 := ⟨_, rfl⟩
  rw [← hl3]
  have hn3 : l3.length = l2.length + (numB ((s.bkts.length : Int)) 1).length := by rw [hl3, List.length_append]
  rw [numB_len] at hn3
  simp only [go_sem, simprocAttr]
  refine loop_ok (N := 3000) (ι := Nat × Value × List UInt8)
    (fun i => match i with | (i, v, a) => ⟨[(1, .c (.p 0 gs 0)), (5, .c (.p 1 gw 0)), (37, .c (.v (.slice A1 s.bkts.length c1))), (38, .c (.v (.int .i64 (s.bkts.length : Int)))), (39, .c (.v (.int .i64 (i : Int))))], [⟨1, gw, 82, [.v v]⟩, ⟨0, gs, 30, [.v (.int .i64 s.next), .v (.int .i64 s.clock), .v (.slice A1 s.bkts.length c1), .v (.slice A2 s.vers.length c2), .v (.slice A3 s.upls.length c3), .v (.slice A4 s.queue.length c4), .v (.slice A5 s.gone.length c5)]⟩], [bytRow v a], [], [G0], 2⟩)
    (fun i => match i with | (i, _, a) => i ≤ s.bkts.length ∧ a ++ (s.bkts.drop i).flatMap bkB = l3 ++ s.bkts.flatMap bkB ∧ a.length ≤ 8 + i * 2100) (fun i => s.bkts.length - i.1) (QOk_body _ _ _) (0, w3, l3) ⟨Nat.zero_le _, rfl, by show l3.length ≤ _; omega⟩ (by simp only [go_sem, simprocAttr]; simp) ?_
  rintro ⟨i1, v1, a1⟩ ⟨hr1, ha1, hla1⟩
  simp only
  by_cases hlt1 : i1 < s.bkts.length
  · have q : decide ((i1 : Int) < (s.bkts.length : Int)) = true := decide_eq_true (by omega)
    obtain ⟨x1, hx1⟩ : ∃ x, s.bkts[i1]? = some x := ⟨_, List.getElem?_eq_getElem hlt1⟩
    have hm1 : x1 ∈ s.bkts := List.mem_of_getElem? hx1
    have hdrop1 : s.bkts.drop i1 = x1 :: s.bkts.drop (i1 + 1) := drop_get hx1
    simp only [go_sem, simprocAttr, q]
    refine plain_ok (N := 3000) (elem_does (R := BktG) (l := s.bkts) (m := i1) rfl tySlice24 tySize42 rfl rfl (dk rfl) rfl hx1 (fun G hG => Sq.mono hP.bkts bktG_mono (hG.le G0 (by simp)))) (QOk_body _ _ _) (by first | exact .inl rfl | exact .inr ⟨_, _, rfl, rfl⟩) ?_
    rintro _ ⟨gx1, ox1, cs1, GE1, hcl1, hcs1, rfl⟩
    obtain ⟨rfl, _, _⟩ := hcs1
    obtain ⟨hb1, hb2, hb3, hb4⟩ := hS.b _ hm1
    simp only [go_sem, simprocAttr]
    intro gv
    have hi : i1 < s.bkts.length := hlt1
    refine plain_ok (N := 3000) (callH_does ([1]) ([]) ([bytRow v1 a1]) ([]) (fun _ css R G => ∃ wv', css = [[wv']] ∧ R = [bytRow wv' (a1 ++ txB x1.name)]) upV rfl rfl (by kernel_rfl) rfl (dk rfl) rfl rfl (by simp [ids, Diff]) (by simp) (fun G hG hh hM => wtext_does (t := x1.name) hG.wf hh hM (hb1) (by omega)) (fun v css R G _ _ => upV_den css)) (QOk_body _ _ _) (by first | exact .inl rfl | exact .inr ⟨_, _, rfl, rfl⟩) ?_
    rintro _ ⟨_, css, _, G11, ⟨w11, rfl, rfl⟩, hcs, hle, rfl⟩
    clear hcs hle
    obtain ⟨l11, hl11⟩ : ∃ X, X = a1 ++ txB x1.name := ⟨_, rfl⟩
    rw [← hl11]
    have hn11 : l11.length = a1.length + (txB x1.name).length := by rw [hl11, List.length_append]
    rw [txB_len] at hn11
    simp only [go_sem, simprocAttr]
    refine plain_ok (N := 3000) (callH_does ([1]) ([]) ([bytRow w11 l11]) ([]) (fun _ css R G => ∃ wv', css = [[wv']] ∧ R = [bytRow wv' (l11 ++ numB (x1.mode) 1)]) upV rfl rfl (by kernel_rfl) rfl (dk rfl) rfl rfl (by simp [ids, Diff]) (by simp) (fun G hG hh hM => put_does (n := x1.mode) (k := 1) hG.wf hh hM (by omega) (by omega)) (fun v css R G _ _ => upV_den css)) (QOk_body _ _ _) (by first | exact .inl rfl | exact .inr ⟨_, _, rfl, rfl⟩) ?_
    rintro _ ⟨_, css, _, G12, ⟨w12, rfl, rfl⟩, hcs, hle, rfl⟩
    clear hcs hle
    obtain ⟨l12, hl12⟩ : ∃ X, X = l11 ++ numB (x1.mode) 1 := ⟨_, rfl⟩
    rw [← hl12]
    have hn12 : l12.length = l11.length + (numB (x1.mode) 1).length := by rw [hl12, List.length_append]
    rw [numB_len] at hn12
    simp only [go_sem, simprocAttr]
    refine plain_ok (N := 3000) (callH_does ([1]) ([]) ([bytRow w12 l12]) ([]) (fun _ css R G => ∃ wv', css = [[wv']] ∧ R = [bytRow wv' (l12 ++ ruB x1.rule)]) upV rfl rfl (by kernel_rfl) rfl (dk rfl) rfl rfl (by simp [ids, Diff]) (by simp) (fun G hG hh hM => wrule_does (x := x1.rule) hG.wf hh hM hb2 hb3 hb4 (by omega)) (fun v css R G _ _ => upV_den css)) (QOk_body _ _ _) (by first | exact .inl rfl | exact .inr ⟨_, _, rfl, rfl⟩) ?_
    rintro _ ⟨_, css, _, G13, ⟨w13, rfl, rfl⟩, hcs, hle, rfl⟩
    clear hcs hle
    obtain ⟨l13, hl13⟩ : ∃ X, X = l12 ++ ruB x1.rule := ⟨_, rfl⟩
    rw [← hl13]
    have hn13 : l13.length = l12.length + (ruB x1.rule).length := by rw [hl13, List.length_append]
    rw [ruB_len] at hn13
    simp only [go_sem, simprocAttr]
    refine ⟨by omega, ?_⟩
    exact again_ok (i1 + 1, w13, l13) ⟨hi, by rw [hl13, hl12, hl11, ← ha1, hdrop1, List.flatMap_cons]; simp only [bkB, List.append_assoc], by show l13.length ≤ 8 + (i1 + 1) * 2100; omega⟩ (by show s.bkts.length - (i1 + 1) < s.bkts.length - i1; omega) (by simp only [go_sem, simprocAttr]; simp)
  have hge1 : s.bkts.length ≤ i1 := by omega
  have q1 : decide ((i1 : Int) < (s.bkts.length : Int)) = false := decide_eq_false (by omega)
  rw [List.drop_eq_nil_of_le hge1, List.flatMap_nil, List.append_nil] at ha1
  have hi1 : i1 = s.bkts.length := by omega
  subst hi1
  simp only [go_sem, simprocAttr, q1]
  refine plain_ok (N := 3000) (callH_does ([1]) ([]) ([bytRow v1 a1]) ([]) (fun _ css R G => ∃ wv', css = [[wv']] ∧ R = [bytRow wv' (a1 ++ numB ((s.vers.length : Int)) 1)]) upV rfl rfl (by kernel_rfl) rfl (dk rfl) rfl rfl (by simp [ids, Diff]) (by simp) (fun G hG hh hM => put_does (n := (s.vers.length : Int)) (k := 1) hG.wf hh hM (by omega) (by omega)) (fun v css R G _ _ => upV_den css)) (QOk_body _ _ _) (by first | exact .inl rfl | exact .inr ⟨_, _, rfl, rfl⟩) ?_
  rintro _ ⟨_, css, _, G20, ⟨w20, rfl, rfl⟩, hcs, hle, rfl⟩
  clear hcs hle
  obtain ⟨l20, hl20⟩ : ∃ X, X = a1 ++ numB ((s.vers.length : Int)) 1 := ⟨_, rfl⟩
  rw [← hl20]
  have hn20 : l20.length = a1.length + (numB ((s.vers.length : Int)) 1).length := by rw [hl20, List.length_append]
  rw [numB_len] at hn20
  simp only [go_sem, simprocAttr]
  refine loop_ok (N := 3000) (ι := Nat × Value × List UInt8)
    (fun i => match i with | (i, v, a) => ⟨[(1, .c (.p 0 gs 0)), (5, .c (.p 1 gw 0)), (62, .c (.v (.slice A2 s.vers.length c2))), (63, .c (.v (.int .i64 (s.vers.length : Int)))), (64, .c (.v (.int .i64 (i : Int))))], [⟨1, gw, 82, [.v v]⟩, ⟨0, gs, 30, [.v (.int .i64 s.next), .v (.int .i64 s.clock), .v (.slice A1 s.bkts.length c1), .v (.slice A2 s.vers.length c2), .v (.slice A3 s.upls.length c3), .v (.slice A4 s.queue.length c4), .v (.slice A5 s.gone.length c5)]⟩], [bytRow v a], [], [G0], 2⟩)
    (fun i => match i with | (i, _, a) => i ≤ s.vers.length ∧ a ++ (s.vers.drop i).flatMap vrB = l20 ++ s.vers.flatMap vrB ∧ a.length ≤ 220000 + i * 3100) (fun i => s.vers.length - i.1) (QOk_body _ _ _) (0, w20, l20) ⟨Nat.zero_le _, rfl, by show l20.length ≤ _; omega⟩ (by simp only [go_sem, simprocAttr]; simp) ?_
  rintro ⟨i2, v2, a2⟩ ⟨hr2, ha2, hla2⟩
  simp only
  by_cases hlt2 : i2 < s.vers.length
  · have q : decide ((i2 : Int) < (s.vers.length : Int)) = true := decide_eq_true (by omega)
    obtain ⟨x2, hx2⟩ : ∃ x, s.vers[i2]? = some x := ⟨_, List.getElem?_eq_getElem hlt2⟩
    have hm2 : x2 ∈ s.vers := List.mem_of_getElem? hx2
    have hdrop2 : s.vers.drop i2 = x2 :: s.vers.drop (i2 + 1) := drop_get hx2
    simp only [go_sem, simprocAttr, q]
    refine plain_ok (N := 3000) (elem_does (R := VerG) (l := s.vers) (m := i2) rfl tySlice25 tySize38 rfl rfl (dk rfl) rfl hx2 (fun G hG => Sq.mono hP.vers verG_mono (hG.le G0 (by simp)))) (QOk_body _ _ _) (by first | exact .inl rfl | exact .inr ⟨_, _, rfl, rfl⟩) ?_
    rintro _ ⟨gx2, ox2, cs2, GE2, hcl2, hcs2, rfl⟩
    obtain ⟨sv2, rfl, hi2, _, _⟩ := hcs2
    obtain ⟨AI2, ci2, rfl, _⟩ := Sq.form hi2
    obtain ⟨hv1, hv2, hv3⟩ := hS.v _ hm2
    simp only [go_sem, simprocAttr, verV]
    intro gv2
    have hi : i2 < s.vers.length := hlt2
    refine plain_ok (N := 3000) (callH_does ([1]) ([]) ([bytRow v2 a2]) ([]) (fun _ css R G => ∃ wv', css = [[wv']] ∧ R = [bytRow wv' (a2 ++ vrB x2)]) upV rfl rfl (by kernel_rfl) rfl (dk rfl) rfl rfl (by simp [ids, Diff]) (by simp) (fun G hG hh hM => wversion_does (x := x2) hG.wf hh hM (hi2.mono (hG.le GE2 (by simp))) hv1 hv2 hv3 (by omega)) (fun v css R G _ _ => upV_den css)) (QOk_body _ _ _) (by first | exact .inl rfl | exact .inr ⟨_, _, rfl, rfl⟩) ?_
    rintro _ ⟨_, css, _, G21, ⟨w21, rfl, rfl⟩, hcs, hle, rfl⟩
    clear hcs hle
    obtain ⟨l21, hl21⟩ : ∃ X, X = a2 ++ vrB x2 := ⟨_, rfl⟩
    rw [← hl21]
    have hn21 : l21.length = a2.length + (vrB x2).length := by rw [hl21, List.length_append]
    rw [vrB_len] at hn21
    simp only [go_sem, simprocAttr]
    refine ⟨by omega, ?_⟩
    exact again_ok (i2 + 1, w21, l21) ⟨hi, by rw [hl21, ← ha2, hdrop2, List.flatMap_cons]; simp only [List.append_assoc], by show l21.length ≤ 220000 + (i2 + 1) * 3100; omega⟩ (by show s.vers.length - (i2 + 1) < s.vers.length - i2; omega) (by simp only [go_sem, simprocAttr]; simp)
  have hge2 : s.vers.length ≤ i2 := by omega
  have q2 : decide ((i2 : Int) < (s.vers.length : Int)) = false := decide_eq_false (by omega)
  rw [List.drop_eq_nil_of_le hge2, List.flatMap_nil, List.append_nil] at ha2
  have hi2 : i2 = s.vers.length := by omega
  subst hi2
  simp only [go_sem, simprocAttr, q2]
  refine plain_ok (N := 3000) (callH_does ([1]) ([]) ([bytRow v2 a2]) ([]) (fun _ css R G => ∃ wv', css = [[wv']] ∧ R = [bytRow wv' (a2 ++ numB ((s.upls.length : Int)) 1)]) upV rfl rfl (by kernel_rfl) rfl (dk rfl) rfl rfl (by simp [ids, Diff]) (by simp) (fun G hG hh hM => put_does (n := (s.upls.length : Int)) (k := 1) hG.wf hh hM (by omega) (by omega)) (fun v css R G _ _ => upV_den css)) (QOk_body _ _ _) (by first | exact .inl rfl | exact .inr ⟨_, _, rfl, rfl⟩) ?_
  rintro _ ⟨_, css, _, G30, ⟨w30, rfl, rfl⟩, hcs, hle, rfl⟩
  clear hcs hle
  obtain ⟨l30, hl30⟩ : ∃ X, X = a2 ++ numB ((s.upls.length : Int)) 1 := ⟨_, rfl⟩
  rw [← hl30]
  have hn30 : l30.length = a2.length + (numB ((s.upls.length : Int)) 1).length := by rw [hl30, List.length_append]
  rw [numB_len] at hn30
  simp only [go_sem, simprocAttr]
  refine loop_ok (N := 3000) (ι := Nat × Value × List UInt8)
    (fun i => match i with | (i, v, a) => ⟨[(1, .c (.p 0 gs 0)), (5, .c (.p 1 gw 0)), (78, .c (.v (.slice A3 s.upls.length c3))), (79, .c (.v (.int .i64 (s.upls.length : Int)))), (80, .c (.v (.int .i64 (i : Int))))], [⟨1, gw, 82, [.v v]⟩, ⟨0, gs, 30, [.v (.int .i64 s.next), .v (.int .i64 s.clock), .v (.slice A1 s.bkts.length c1), .v (.slice A2 s.vers.length c2), .v (.slice A3 s.upls.length c3), .v (.slice A4 s.queue.length c4), .v (.slice A5 s.gone.length c5)]⟩], [bytRow v a], [], [G0], 2⟩)
    (fun i => match i with | (i, _, a) => i ≤ s.upls.length ∧ a ++ (s.upls.drop i).flatMap upB = l30 ++ s.upls.flatMap upB ∧ a.length ≤ 560000 + i * 25000) (fun i => s.upls.length - i.1) (QOk_body _ _ _) (0, w30, l30) ⟨Nat.zero_le _, rfl, by show l30.length ≤ _; omega⟩ (by simp only [go_sem, simprocAttr]; simp) ?_
  rintro ⟨i3, v3, a3⟩ ⟨hr3, ha3, hla3⟩
  simp only
  by_cases hlt3 : i3 < s.upls.length
  · have q : decide ((i3 : Int) < (s.upls.length : Int)) = true := decide_eq_true (by omega)
    obtain ⟨x3, hx3⟩ : ∃ x, s.upls[i3]? = some x := ⟨_, List.getElem?_eq_getElem hlt3⟩
    have hm3 : x3 ∈ s.upls := List.mem_of_getElem? hx3
    have hdrop3 : s.upls.drop i3 = x3 :: s.upls.drop (i3 + 1) := drop_get hx3
    simp only [go_sem, simprocAttr, q]
    refine plain_ok (N := 3000) (elem_does (R := UplG) (l := s.upls) (m := i3) rfl tySlice26 tySize89 rfl rfl (dk rfl) rfl hx3 (fun G hG => Sq.mono hP.upls uplG_mono (hG.le G0 (by simp)))) (QOk_body _ _ _) (by first | exact .inl rfl | exact .inr ⟨_, _, rfl, rfl⟩) ?_
    rintro _ ⟨gx3, ox3, cs3, GE3, hcl3, hcs3, rfl⟩
    obtain ⟨pv3, rfl, hp3, _, _⟩ := hcs3
    obtain ⟨AP, cp, rfl, _⟩ := Sq.form hp3
    obtain ⟨hu1, hu2, hu3, hu4⟩ := hS.u _ hm3
    simp only [go_sem, simprocAttr]
    intro gv3
    have hi : i3 < s.upls.length := hlt3
    refine plain_ok (N := 3000) (callH_does ([1]) ([]) ([bytRow v3 a3]) ([]) (fun _ css R G => ∃ wv', css = [[wv']] ∧ R = [bytRow wv' (a3 ++ numB (x3.id) 3)]) upV rfl rfl (by kernel_rfl) rfl (dk rfl) rfl rfl (by simp [ids, Diff]) (by simp) (fun G hG hh hM => put_does (n := x3.id) (k := 3) hG.wf hh hM (by omega) (by omega)) (fun v css R G _ _ => upV_den css)) (QOk_body _ _ _) (by first | exact .inl rfl | exact .inr ⟨_, _, rfl, rfl⟩) ?_
    rintro _ ⟨_, css, _, G31, ⟨w31, rfl, rfl⟩, hcs, hle, rfl⟩
    clear hcs hle
    obtain ⟨l31, hl31⟩ : ∃ X, X = a3 ++ numB (x3.id) 3 := ⟨_, rfl⟩
    rw [← hl31]
    have hn31 : l31.length = a3.length + (numB (x3.id) 3).length := by rw [hl31, List.length_append]
    rw [numB_len] at hn31
    simp only [go_sem, simprocAttr]
    refine plain_ok (N := 3000) (callH_does ([1]) ([]) ([bytRow w31 l31]) ([]) (fun _ css R G => ∃ wv', css = [[wv']] ∧ R = [bytRow wv' (l31 ++ txB x3.bucket)]) upV rfl rfl (by kernel_rfl) rfl (dk rfl) rfl rfl (by simp [ids, Diff]) (by simp) (fun G hG hh hM => wtext_does (t := x3.bucket) hG.wf hh hM (hu1) (by omega)) (fun v css R G _ _ => upV_den css)) (QOk_body _ _ _) (by first | exact .inl rfl | exact .inr ⟨_, _, rfl, rfl⟩) ?_
    rintro _ ⟨_, css, _, G32, ⟨w32, rfl, rfl⟩, hcs, hle, rfl⟩
    clear hcs hle
    obtain ⟨l32, hl32⟩ : ∃ X, X = l31 ++ txB x3.bucket := ⟨_, rfl⟩
    rw [← hl32]
    have hn32 : l32.length = l31.length + (txB x3.bucket).length := by rw [hl32, List.length_append]
    rw [txB_len] at hn32
    simp only [go_sem, simprocAttr]
    refine plain_ok (N := 3000) (callH_does ([1]) ([]) ([bytRow w32 l32]) ([]) (fun _ css R G => ∃ wv', css = [[wv']] ∧ R = [bytRow wv' (l32 ++ txB x3.key)]) upV rfl rfl (by kernel_rfl) rfl (dk rfl) rfl rfl (by simp [ids, Diff]) (by simp) (fun G hG hh hM => wtext_does (t := x3.key) hG.wf hh hM (hu2) (by omega)) (fun v css R G _ _ => upV_den css)) (QOk_body _ _ _) (by first | exact .inl rfl | exact .inr ⟨_, _, rfl, rfl⟩) ?_
    rintro _ ⟨_, css, _, G33, ⟨w33, rfl, rfl⟩, hcs, hle, rfl⟩
    clear hcs hle
    obtain ⟨l33, hl33⟩ : ∃ X, X = l32 ++ txB x3.key := ⟨_, rfl⟩
    rw [← hl33]
    have hn33 : l33.length = l32.length + (txB x3.key).length := by rw [hl33, List.length_append]
    rw [txB_len] at hn33
    simp only [go_sem, simprocAttr]
    refine plain_ok (N := 3000) (callH_does ([1]) ([]) ([bytRow w33 l33]) ([]) (fun _ css R G => ∃ wv', css = [[wv']] ∧ R = [bytRow wv' (l33 ++ numB ((x3.parts.length : Int)) 1)]) upV rfl rfl (by kernel_rfl) rfl (dk rfl) rfl rfl (by simp [ids, Diff]) (by simp) (fun G hG hh hM => put_does (n := (x3.parts.length : Int)) (k := 1) hG.wf hh hM (by omega) (by omega)) (fun v css R G _ _ => upV_den css)) (QOk_body _ _ _) (by first | exact .inl rfl | exact .inr ⟨_, _, rfl, rfl⟩) ?_
    rintro _ ⟨_, css, _, G34, ⟨w34, rfl, rfl⟩, hcs, hle, rfl⟩
    clear hcs hle
    obtain ⟨l34, hl34⟩ : ∃ X, X = l33 ++ numB ((x3.parts.length : Int)) 1 := ⟨_, rfl⟩
    rw [← hl34]
    have hn34 : l34.length = l33.length + (numB ((x3.parts.length : Int)) 1).length := by rw [hl34, List.length_append]
    rw [numB_len] at hn34
    simp only [go_sem, simprocAttr]
    refine loop_ok (N := 3000) (ι := Nat × Value × List UInt8)
      (fun i => match i with | (i, v, a) => ⟨[(1, .c (.p 0 gs 0)), (5, .c (.p 1 gw 0)), (102, .c (.v (.slice AP x3.parts.length cp))), (103, .c (.v (.int .i64 (x3.parts.length : Int)))), (104, .c (.v (.int .i64 (i : Int)))), (78, .c (.v (.slice A3 s.upls.length c3))), (79, .c (.v (.int .i64 (s.upls.length : Int)))), (80, .c (.v (.int .i64 (i3 : Int))))], [⟨1, gw, 82, [.v v]⟩, ⟨0, gs, 30, [.v (.int .i64 s.next), .v (.int .i64 s.clock), .v (.slice A1 s.bkts.length c1), .v (.slice A2 s.vers.length c2), .v (.slice A3 s.upls.length c3), .v (.slice A4 s.queue.length c4), .v (.slice A5 s.gone.length c5)]⟩], [bytRow v a], [], [GE3, G0], 3⟩)
      (fun i => match i with | (i, _, a) => i ≤ x3.parts.length ∧ a ++ (x3.parts.drop i).flatMap ptB = l34 ++ x3.parts.flatMap ptB ∧ a.length ≤ l34.length + i * 1100) (fun i => x3.parts.length - i.1) (QOk_body _ _ _) (0, w34, l34) ⟨Nat.zero_le _, rfl, by show l34.length ≤ _; omega⟩ (by simp only [go_sem, simprocAttr]; simp) ?_
    rintro ⟨i4, v4, a4⟩ ⟨hr4, ha4, hla4⟩
    simp only
    by_cases hlt4 : i4 < x3.parts.length
    · have q : decide ((i4 : Int) < (x3.parts.length : Int)) = true := decide_eq_true (by omega)
      obtain ⟨x4, hx4⟩ : ∃ x, x3.parts[i4]? = some x := ⟨_, List.getElem?_eq_getElem hlt4⟩
      have hm4 : x4 ∈ x3.parts := List.mem_of_getElem? hx4
      have hdrop4 : x3.parts.drop i4 = x4 :: x3.parts.drop (i4 + 1) := drop_get hx4
      simp only [go_sem, simprocAttr, q]
      refine plain_ok (N := 3000) (elem_does (R := PrtG) (l := x3.parts) (m := i4) rfl tySlice87 tySize70 rfl rfl (dk rfl) rfl hx4 (fun G hG => Sq.mono hp3 prtG_mono (hG.le GE3 (by simp)))) (QOk_body _ _ _) (by first | exact .inl rfl | exact .inr ⟨_, _, rfl, rfl⟩) ?_
      rintro _ ⟨gx4, ox4, cs4, GE4, hcl4, hcs4, rfl⟩
      obtain ⟨sv4, rfl, hi4⟩ := hcs4
      obtain ⟨AI4, ci4, rfl, _⟩ := Sq.form hi4
      have hp4 := hu4 _ hm4
      simp only [go_sem, simprocAttr]
      intro gv4
      have hi : i4 < x3.parts.length := hlt4
      refine plain_ok (N := 3000) (callH_does ([1]) ([]) ([bytRow v4 a4]) ([]) (fun _ css R G => ∃ wv', css = [[wv']] ∧ R = [bytRow wv' (a4 ++ ptB x4)]) upV rfl rfl (by kernel_rfl) rfl (dk rfl) rfl rfl (by simp [ids, Diff]) (by simp) (fun G hG hh hM => wpart_does (x := x4) hG.wf hh hM (hi4.mono (hG.le GE4 (by simp))) hp4 (by omega)) (fun v css R G _ _ => upV_den css)) (QOk_body _ _ _) (by first | exact .inl rfl | exact .inr ⟨_, _, rfl, rfl⟩) ?_
      rintro _ ⟨_, css, _, G41, ⟨w41, rfl, rfl⟩, hcs, hle, rfl⟩
      clear hcs hle
      obtain ⟨l41, hl41⟩ : ∃ X, X = a4 ++ ptB x4 := ⟨_, rfl⟩
      rw [← hl41]
      have hn41 : l41.length = a4.length + (ptB x4).length := by rw [hl41, List.length_append]
      rw [ptB_len] at hn41
      simp only [go_sem, simprocAttr]
      refine ⟨by omega, ?_⟩
      exact again_ok (i4 + 1, w41, l41) ⟨hi, by rw [hl41, ← ha4, hdrop4, List.flatMap_cons]; simp only [List.append_assoc], by show l41.length ≤ l34.length + (i4 + 1) * 1100; omega⟩ (by show x3.parts.length - (i4 + 1) < x3.parts.length - i4; omega) (by simp only [go_sem, simprocAttr]; simp)
    have hge4 : x3.parts.length ≤ i4 := by omega
    have q4 : decide ((i4 : Int) < (x3.parts.length : Int)) = false := decide_eq_false (by omega)
    rw [List.drop_eq_nil_of_le hge4, List.flatMap_nil, List.append_nil] at ha4
    have hi4 : i4 = x3.parts.length := by omega
    subst hi4
    simp only [go_sem, simprocAttr, q4]
    refine ⟨by omega, ?_⟩
    exact again_ok (i3 + 1, v4, a4) ⟨hi, by rw [ha4, hl34, hl33, hl32, hl31, ← ha3, hdrop3, List.flatMap_cons]; simp only [upB, List.append_assoc], by show a4.length ≤ 560000 + (i3 + 1) * 25000; omega⟩ (by show s.upls.length - (i3 + 1) < s.upls.length - i3; omega) (by simp only [go_sem, simprocAttr]; simp)
  have hge3 : s.upls.length ≤ i3 := by omega
  have q3 : decide ((i3 : Int) < (s.upls.length : Int)) = false := decide_eq_false (by omega)
  rw [List.drop_eq_nil_of_le hge3, List.flatMap_nil, List.append_nil] at ha3
  have hi3 : i3 = s.upls.length := by omega
  subst hi3
  simp only [go_sem, simprocAttr, q3]
  refine plain_ok (N := 3000) (callH_does ([1]) ([]) ([bytRow v3 a3]) ([]) (fun _ css R G => ∃ wv', css = [[wv']] ∧ R = [bytRow wv' (a3 ++ numB ((s.queue.length : Int)) 1)]) upV rfl rfl (by kernel_rfl) rfl (dk rfl) rfl rfl (by simp [ids, Diff]) (by simp) (fun G hG hh hM => put_does (n := (s.queue.length : Int)) (k := 1) hG.wf hh hM (by omega) (by omega)) (fun v css R G _ _ => upV_den css)) (QOk_body _ _ _) (by first | exact .inl rfl | exact .inr ⟨_, _, rfl, rfl⟩) ?_
  rintro _ ⟨_, css, _, G50, ⟨w50, rfl, rfl⟩, hcs, hle, rfl⟩
  clear hcs hle
  obtain ⟨l50, hl50⟩ : ∃ X, X = a3 ++ numB ((s.queue.length : Int)) 1 := ⟨_, rfl⟩
  rw [← hl50]
  have hn50 : l50.length = a3.length + (numB ((s.queue.length : Int)) 1).length := by rw [hl50, List.length_append]
  rw [numB_len] at hn50
  simp only [go_sem, simprocAttr]
  refine loop_ok (N := 3000) (ι := Nat × Value × List UInt8)
    (fun i => match i with | (i, v, a) => ⟨[(1, .c (.p 0 gs 0)), (5, .c (.p 1 gw 0)), (119, .c (.v (.slice A4 s.queue.length c4))), (120, .c (.v (.int .i64 (s.queue.length : Int)))), (121, .c (.v (.int .i64 (i : Int))))], [⟨1, gw, 82, [.v v]⟩, ⟨0, gs, 30, [.v (.int .i64 s.next), .v (.int .i64 s.clock), .v (.slice A1 s.bkts.length c1), .v (.slice A2 s.vers.length c2), .v (.slice A3 s.upls.length c3), .v (.slice A4 s.queue.length c4), .v (.slice A5 s.gone.length c5)]⟩], [bytRow v a], [], [G0], 2⟩)
    (fun i => match i with | (i, _, a) => i ≤ s.queue.length ∧ a ++ (s.queue.drop i).flatMap akB = l50 ++ s.queue.flatMap akB ∧ a.length ≤ 1100000 + i * 6) (fun i => s.queue.length - i.1) (QOk_body _ _ _) (0, w50, l50) ⟨Nat.zero_le _, rfl, by show l50.length ≤ _; omega⟩ (by simp only [go_sem, simprocAttr]; simp) ?_
  rintro ⟨i5, v5, a5⟩ ⟨hr5, ha5, hla5⟩
  simp only
  by_cases hlt5 : i5 < s.queue.length
  · have q : decide ((i5 : Int) < (s.queue.length : Int)) = true := decide_eq_true (by omega)
    obtain ⟨x5, hx5⟩ : ∃ x, s.queue[i5]? = some x := ⟨_, List.getElem?_eq_getElem hlt5⟩
    have hm5 : x5 ∈ s.queue := List.mem_of_getElem? hx5
    have hdrop5 : s.queue.drop i5 = x5 :: s.queue.drop (i5 + 1) := drop_get hx5
    simp only [go_sem, simprocAttr, q]
    refine plain_ok (N := 3000) (elem_does (R := AskG) (l := s.queue) (m := i5) rfl tySlice27 tySize68 rfl rfl (dk rfl) rfl hx5 (fun G hG => Sq.mono hP.queue askG_mono (hG.le G0 (by simp)))) (QOk_body _ _ _) (by first | exact .inl rfl | exact .inr ⟨_, _, rfl, rfl⟩) ?_
    rintro _ ⟨gx5, ox5, cs5, GE5, hcl5, hcs5, rfl⟩
    obtain rfl := hcs5
    simp only [go_sem, simprocAttr]
    intro gv
    have hi : i5 < s.queue.length := hlt5
    refine plain_ok (N := 3000) (callH_does ([1]) ([]) ([bytRow v5 a5]) ([]) (fun _ css R G => ∃ wv', css = [[wv']] ∧ R = [bytRow wv' (a5 ++ akB x5)]) upV rfl rfl (by kernel_rfl) rfl (dk rfl) rfl rfl (by simp [ids, Diff]) (by simp) (fun G hG hh hM => wask_does (x := x5) hG.wf hh hM (by omega)) (fun v css R G _ _ => upV_den css)) (QOk_body _ _ _) (by first | exact .inl rfl | exact .inr ⟨_, _, rfl, rfl⟩) ?_
    rintro _ ⟨_, css, _, G51, ⟨w51, rfl, rfl⟩, hcs, hle, rfl⟩
    clear hcs hle
    obtain ⟨l51, hl51⟩ : ∃ X, X = a5 ++ akB x5 := ⟨_, rfl⟩
    rw [← hl51]
    have hn51 : l51.length = a5.length + (akB x5).length := by rw [hl51, List.length_append]
    rw [akB_len] at hn51
    simp only [go_sem, simprocAttr]
    refine ⟨by omega, ?_⟩
    exact again_ok (i5 + 1, w51, l51) ⟨hi, by rw [hl51, ← ha5, hdrop5, List.flatMap_cons]; simp only [List.append_assoc], by show l51.length ≤ 1100000 + (i5 + 1) * 6; omega⟩ (by show s.queue.length - (i5 + 1) < s.queue.length - i5; omega) (by simp only [go_sem, simprocAttr]; simp)
  have hge5 : s.queue.length ≤ i5 := by omega
  have q5 : decide ((i5 : Int) < (s.queue.length : Int)) = false := decide_eq_false (by omega)
  rw [List.drop_eq_nil_of_le hge5, List.flatMap_nil, List.append_nil] at ha5
  have hi5 : i5 = s.queue.length := by omega
  subst hi5
  simp only [go_sem, simprocAttr, q5]
  refine plain_ok (N := 3000) (callH_does ([1]) ([]) ([bytRow v5 a5]) ([]) (fun _ css R G => ∃ wv', css = [[wv']] ∧ R = [bytRow wv' (a5 ++ itB s.gone)]) upV rfl rfl (by kernel_rfl) rfl (dk rfl) rfl rfl (by simp [ids, Diff]) (by simp) (fun G hG hh hM => wints_does (il := s.gone) hG.wf hh hM (Sq.mono hP.gone intG_mono (hG.le G0 (by simp))) hgl (by omega)) (fun v css R G _ _ => upV_den css)) (QOk_body _ _ _) (by first | exact .inl rfl | exact .inr ⟨_, _, rfl, rfl⟩) ?_
  rintro _ ⟨_, css, _, G60, ⟨w60, rfl, rfl⟩, hcs, hle, rfl⟩
  clear hcs hle
  obtain ⟨l60, hl60⟩ : ∃ X, X = a5 ++ itB s.gone := ⟨_, rfl⟩
  rw [← hl60]
  have hn60 : l60.length = a5.length + (itB s.gone).length := by rw [hl60, List.length_append]
  rw [itB_len] at hn60
  simp only [go_sem, simprocAttr]
  refine read_ok (R1 := []) rfl (fun GB hleB hslB => ?_) (fun _ _ q => q) (by show (1 : Nat) ≠ 0; decide)
  have hb : ByG GB w60 l60 := by
    have h9 : Sl GB 5 1 l60.length w60 (l60.flatMap bytC) := hslB
    rw [bytC_flat] at h9
    exact h9
  have hl : l60 = staB s := by
    rw [hl60, ha5, hl50, ha3, hl30, ha2, hl20, ha1, hl3, hl2, hl1]
    simp only [staB, List.append_assoc, List.nil_append]
  refine fin_ret (G := G0) Tryz.results13 ?_
  simp only [go_sem, simprocAttr]
  intro aa w' _ hle
  exact ⟨_, rfl, hl ▸ hb.mono (hle GB (by simp))⟩
end Go.Proofs.YtohdfcnjcpjdcaaGreat
/- What is read without a fault is what is written of it: in plain words. Conditions: as each law states them. -/
namespace Go.Proofs.YtohdfcnjcpjdcaaGreat
/-- what a reader reads without a fault, a writer writes again -/
def Fix {α : Type} (rd : RS → α × RS) (wr : α → List UInt8) : Prop := ∀ s, (rd s).2.f = 0 → s.f = 0 ∧ s.l = wr (rd s).1 ++ (rd s).2.l
def bk1 (s : RS) := tx s
def bk2 (s : RS) := tk 1 (bk1 s).2
def bk3 (s : RS) := rl (bk2 s).2
end Go.Proofs.YtohdfcnjcpjdcaaGreat
/- A state that may be is of no great size. Conditions: as each law states them. -/
namespace Go.Proofs.YtohdfcnjcpjdcaaGreat
theorem incr_len {α : Type} (f : α → Int) : ∀ (l : List α) (m M : Int), l.Pairwise (fun a b => f a < f b) → (∀ x ∈ l, m ≤ f x ∧ f x ≤ M) → (l.length : Int) ≤ M - m + 1 ∨ l = []
  | [], _, _, _, _ => .inr rfl
  | x :: r, m, M, hp, h => by
    left
    obtain ⟨h1, h2⟩ := List.pairwise_cons.1 hp
    have hx := h x List.mem_cons_self
    rw [List.length_cons]
    rcases incr_len f r (f x + 1) M h2 (fun y hy => ⟨by have := h1 y hy; omega, (h y (List.mem_cons_of_mem _ hy)).2⟩) with q | q
    · omega
    · subst q
      simp only [List.length_nil]
      omega
theorem goneY_len : ∀ (l : List Int) (p : Option Int), p.getD (-1) ≤ 7 → chain goneBad p l = true → (l.length : Int) ≤ 7 - p.getD (-1)
  | [], p, hp, _ => by simp only [List.length_nil]; omega
  | x :: r, p, hp, h => by
    unfold chain at h
    obtain ⟨h1, h2⟩ := Bool.and_eq_true_iff.1 h
    have h1' : goneBad p x = false := by simpa using h1
    unfold goneBad at h1'
    simp only [Bool.or_eq_false_iff, decide_eq_false_iff_not] at h1'
    obtain ⟨⟨q1, q2⟩, q3⟩ := h1'
    have h3 := goneY_len r (some x) (by show x ≤ 7; omega) h2
    have h4 : p.getD (-1) < x := by
      cases p with
      | none => show (-1 : Int) < x; omega
      | some q =>
        have q3' : decide (x ≤ q) = false := q3
        have := of_decide_eq_false q3'
        show q < x
        omega
    have h5 : (r.length : Int) ≤ 7 - x := h3
    rw [List.length_cons]
    omega
theorem name_size {t : ByteArray} {m : Int} (h : nameErr t m = 0) : (t.size : Int) ≤ m := by
  unfold nameErr at h
  split at h
  · exact absurd h (by decide)
  · rename_i hc
    simp only [Bool.or_eq_true, decide_eq_true_eq] at hc
    omega
theorem secsOf_600 {n : Int} (h0 : 0 ≤ n) (h : n ≤ 600) : secsOf n ≤ 10 := by
  unfold secsOf
  have : (n + 63).tdiv 64 = (n + 63) / 64 := Int.tdiv_eq_ediv_of_nonneg (by omega)
  omega
theorem bkt_small {s : Sta} (h : bktsB s.bkts = true) {b : Bkt} (hb : b ∈ s.bkts) : b.name.size ≤ 1000 ∧ b.rule.pre.size ≤ 1000 ∧ (-1 ≤ b.rule.freeze ∧ b.rule.freeze < 4294967296) ∧ (-1 ≤ b.rule.drop ∧ b.rule.drop < 4294967296) := by
  obtain ⟨h1, _⟩ := Bool.and_eq_true_iff.1 h
  obtain ⟨i, hi⟩ := List.getElem?_of_mem hb
  have h2 := chain_at h1 hi
  unfold bktBad bktOut at h2
  simp only [Bool.or_eq_false_iff, Bool.not_eq_false', decide_eq_true_eq, decide_eq_false_iff_not] at h2
  obtain ⟨⟨⟨⟨q1, _⟩, _⟩, q2⟩, _⟩ := h2
  have n1 := name_size q1
  unfold rulErr at q2
  split at q2
  · exact absurd q2 (by decide)
  rename_i r1
  split at q2
  · exact absurd q2 (by decide)
  split at q2
  · exact absurd q2 (by decide)
  rename_i r3
  unfold rulOut at r3
  simp only [decide_eq_true_eq] at r1
  simp only [Bool.or_eq_true, decide_eq_true_eq, not_or] at r3
  omega
theorem good_small {s : Sta} (h : Good s) : Small s := by
  have hbl : s.bkts.length ≤ 4 := by
    obtain ⟨_, q⟩ := Bool.and_eq_true_iff.1 h.bkts
    have := of_decide_eq_true q
    omega
  have hin : ∀ t, bktIn s t = true → t.size ≤ 1000 := fun t ht => by
    obtain ⟨b, hb, rfl⟩ := (bktIn_iff h.bkts).1 ht
    exact (bkt_small h.bkts hb).1
  have hgl := goneY_len s.gone none (by decide) h.gone
  have hgl' : (s.gone.length : Int) ≤ 7 - -1 := hgl
  have hvl := h.vlen
  have hul := h.ulen
  have hql := h.queue.len
  refine ⟨by omega, by omega, by omega, by omega, by omega, fun x hx => bkt_small h.bkts hx, fun v hv => ?_, fun v hv => ?_⟩
  · obtain ⟨h1, h2⟩ := h.snd v hv
    unfold verOut at h1
    simp only [Bool.or_eq_false_iff, Bool.not_eq_false', decide_eq_true_eq, decide_eq_false_iff_not] at h1
    obtain ⟨⟨⟨⟨⟨q1, q2⟩, _⟩, _⟩, _⟩, _⟩ := h1
    have n1 := name_size q2
    refine ⟨?_, hin _ q1, by omega⟩
    rcases h2 with ⟨_, hm⟩ | ⟨_, s0, s1, ht⟩
    · unfold markB at hm
      simp only [Bool.and_eq_true, decide_eq_true_eq] at hm
      omega
    · have := secsOf_600 s0 s1
      rcases ht with ⟨_, _, e⟩ | ⟨_, _, _, e⟩ | ⟨_, _, _, _, e⟩
      · omega
      · rw [e]; simp
      · omega
  · have h1 := h.out v hv
    unfold uplOut at h1
    simp only [Bool.or_eq_false_iff, Bool.not_eq_false', decide_eq_true_eq, decide_eq_false_iff_not] at h1
    obtain ⟨⟨⟨q1, q2⟩, _⟩, _⟩ := h1
    have n1 := name_size q2
    obtain ⟨p1, p2⟩ := h.prt v hv
    have hp : ∀ p ∈ v.parts, (1 ≤ p.n ∧ p.n ≤ 5) ∧ p.secs.length ≤ 1000 := fun p hp => by
      obtain ⟨a1, a2⟩ := p1 p hp
      unfold prtOut at a1
      simp only [Bool.or_eq_false_iff, decide_eq_false_iff_not] at a1
      obtain ⟨⟨⟨b1, b2⟩, b3⟩, b4⟩ := a1
      have := secsOf_600 (n := p.size) (by omega) (by omega)
      exact ⟨⟨by omega, by omega⟩, by omega⟩
    refine ⟨hin _ q1, by omega, ?_, fun p h => (hp p h).2⟩
    rcases incr_len (·.n) v.parts 1 5 p2 (fun p h => (hp p h).1) with q | q
    · omega
    · rw [q]; simp
theorem err_small {s : Sta} (h : errSt s = 0) : Small s := by
  refine good_small (okSt_good.1 ?_)
  unfold errSt at h
  split at h
  · assumption
  · exact absurd h (by decide)
end Go.Proofs.YtohdfcnjcpjdcaaGreat
