/- 'icehousekeep.RecordBare' returns true. Conditions: as the law states them. -/
import Derived.Test.YtohdfcnjcpjdcaaDoorQ9q
import Derived.Test.YtohdfcnjcpjdcaaDoorE1q
namespace Go.Proofs.YtohdfcnjcpjdcaaDoor
open Go.RowKit
set_option linter.unusedSimpArgs false
theorem chk_fit {r : Rec} (hk : 1 ≤ r.kind ∧ r.kind ≤ 14) (hF : Fits r) (hb : ¬ Bare r) : chk r = 4 := by
  have hne : chk r ≠ 0 := fun h => hb (okRc_iff.1 (chk_iff.1 h)).2.2
  obtain ⟨f1, f2, f3, f4, ⟨g1, g2, g3⟩, ⟨v1, v2, v3, _, _, v4, v5, v6, v7, v8, v9, v10⟩, ⟨a1, a2, a3⟩, ⟨p1, p2, p3⟩, f9, f10, f11⟩ := hF
  have hr : rangeB r = false := by
    have h1 : oneB r = true := by unfold oneB; rw [fitsB_iff, mem5]; exact ⟨by omega, by omega, by omega, by omega, by omega⟩
    have h2 : twoB r = true := by unfold twoB; rw [fitsB_iff, mem5]; exact ⟨by omega, by omega, by omega, by omega, by omega⟩
    have h3 : threeB r = true := by unfold threeB; rw [fitsB_iff, mem3]; exact ⟨by omega, by omega, by omega⟩
    have h4 : fourB r = true := by
      unfold fourB
      rw [Bool.and_eq_true, Bool.and_eq_true, decide_eq_true_eq, decide_eq_true_eq, fitsB_iff, mem5]
      exact ⟨⟨⟨by omega, by omega, by omega, by omega, by omega⟩, by omega⟩, by omega⟩
    unfold rangeB
    rw [h1, h2, h3, h4]
    rfl
  have n1 : namesB r.secs [r.name, r.key, r.rule.pre, r.ver.bucket, r.ver.key] = true := namesB_iff.2 ⟨f9, by rw [mem5]; exact ⟨f2, f3, g1, v2, v3⟩⟩
  have n2 : namesB r.ver.secs [] = true := namesB_iff.2 ⟨v7, fun _ h => absurd h List.not_mem_nil⟩
  have n3 : namesB r.part.secs [] = true := namesB_iff.2 ⟨p3, fun _ h => absurd h List.not_mem_nil⟩
  have hk' := kindB_iff.2 hk
  unfold chk at hne ⊢
  rw [if_neg (by rw [hk']; decide), if_neg (by rw [hr]; decide), if_neg (by rw [n1, n2, n3]; decide)] at hne ⊢
  by_cases hx : bareB (kd r.kind) r = false
  · rw [if_pos hx]
  · rw [if_neg hx] at hne
    exact absurd rfl hne
theorem chk_range {r : Rec} (hk : 1 ≤ r.kind ∧ r.kind ≤ 14) (h : rangeB r = true) : chk r = 2 := by
  have hk' := kindB_iff.2 hk
  unfold chk
  rw [if_neg (by rw [hk']; decide), if_pos h]
theorem chk_kind {r : Rec} (h : 14 < r.kind) : chk r = 3 := by
  unfold chk
  rw [if_pos]
  unfold kindB
  rw [Bool.or_eq_true, decide_eq_true_eq, decide_eq_true_eq]
  exact .inr h
section
variable {P : Program} {E : Env} {σ : St} {o : Oper}
/-- how many elements a literal of the call's own has -/
theorem lenLit_does {x : Operand} {t e id g o' n c : Nat} (ho : o.op = .call ⟨.builtin .len, #[x], #[t]⟩) (ht : tSlice P t = some e) (hx : ev σ x = some (.c (.s id g o' n c))) (hd : dOk E o.dst) :
    Does P E σ o (fun σ' => σ' = σ.put o.dst (.c (.v (.int .i64 (n : Int))))) := by
  intro a w Q next hr hn
  have hx' : a.eval x = .slice (some ⟨g, o', none⟩) n c := ev_den hr.see hx
  have hrun : (execOp a.eval o).run P w = .ok (.value (.int .i64 (n : Int))) w := by
    unfold execOp
    simp [ho, hx', resolve, invoke, builtin, Builtin.len_, run_underlying (tSlice_spec ht), goInt]
  exact wp_of_value hrun (hn _ _ _ rfl (hr.put o.dst (.c (.v (.int .i64 (n : Int)))) (dOk_lt hd)))
end
/-- the odd records -/
def odd (k : Int) : List Rec := [{ rec0 9 with id := 1, n := 1 + k }, { rec0 13 with id := 1 + k }, { rec0 1 with name := ⟨#[97]⟩, key := ⟨#[98]⟩ }, { rec0 14 with at_ := 1 + k }, { rec0 5 with secs := [1] }, { rec0 13 with n := -1 - k }, { rec0 14 with vol := 256 + k }, { rec0 9 with id := 16777216 + k }, { rec0 3 with rule := ⟨⟨#[]⟩, -2 - k, 0⟩ }, { rec0 (15 + k) with id := 0 }]
def oddE : List Int := [4, 4, 4, 4, 4, 2, 2, 2, 2, 3]
theorem fits0 {i : Int} : Fits (rec0 i) := ⟨⟨by show (0 : Int) ≤ 0; decide, by show (0 : Int) < _; decide⟩, by show (0 : Nat) < _; decide, by show (0 : Nat) < _; decide, ⟨by show (0 : Int) ≤ 0; decide, by show (0 : Int) < _; decide⟩, okRl_no, okVr_no, okAk_no, okPt_no, ⟨by show (0 : Nat) < _; decide, fun _ h => absurd h List.not_mem_nil⟩, ⟨by show (0 : Int) ≤ 0; decide, by show (0 : Int) < _; decide⟩, ⟨by show (0 : Int) ≤ 0; decide, by show (0 : Int) < _; decide⟩⟩
theorem odd_0 {k : Int} (h0 : 0 ≤ k) (h1 : k < 1000) : chk ({ rec0 9 with id := 1, n := 1 + k }) = 4 :=
  chk_fit ⟨by show (1 : Int) ≤ 9; decide, by show (9 : Int) ≤ 14; decide⟩ { (fits0 (i := 9)) with id := ⟨by show (0 : Int) ≤ 1; decide, by show (1 : Int) < _; decide⟩, n := ⟨by show 0 ≤ 1 + k; omega, by show 1 + k < _; omega⟩ } (fun b => by have := b.n rfl; have h : 1 + k = 0 := this; omega)
theorem odd_1 {k : Int} (h0 : 0 ≤ k) (h1 : k < 1000) : chk ({ rec0 13 with id := 1 + k }) = 4 :=
  chk_fit ⟨by show (1 : Int) ≤ 13; decide, by show (13 : Int) ≤ 14; decide⟩ { (fits0 (i := 13)) with id := ⟨by show 0 ≤ 1 + k; omega, by show 1 + k < _; omega⟩ } (fun b => by have := b.id rfl; have h : 1 + k = 0 := this; omega)
theorem odd_2 {k : Int} (h0 : 0 ≤ k) (h1 : k < 1000) : chk ({ rec0 1 with name := ⟨#[97]⟩, key := ⟨#[98]⟩ }) = 4 :=
  chk_fit ⟨by show (1 : Int) ≤ 1; decide, by show (1 : Int) ≤ 14; decide⟩ { (fits0 (i := 1)) with name := by show (1 : Nat) < 256; decide, key := by show (1 : Nat) < 256; decide } (fun b => by have h := congrArg ByteArray.size (b.key rfl); exact absurd h (by show ¬ (1 : Nat) = 0; decide))
theorem odd_3 {k : Int} (h0 : 0 ≤ k) (h1 : k < 1000) : chk ({ rec0 14 with at_ := 1 + k }) = 4 :=
  chk_fit ⟨by show (1 : Int) ≤ 14; decide, by show (14 : Int) ≤ 14; decide⟩ { (fits0 (i := 14)) with at_ := ⟨by show 0 ≤ 1 + k; omega, by show 1 + k < _; omega⟩ } (fun b => by have := b.at_ rfl; have h : 1 + k = 0 := this; omega)
theorem odd_4 {k : Int} (h0 : 0 ≤ k) (h1 : k < 1000) : chk ({ rec0 5 with secs := [1] }) = 4 :=
  chk_fit ⟨by show (1 : Int) ≤ 5; decide, by show (5 : Int) ≤ 14; decide⟩ { (fits0 (i := 5)) with secs := ⟨by show (1 : Nat) < 256; decide, fun z hz => by have h : z = 1 := (by simpa using hz); rw [h]; exact ⟨by decide, by decide⟩⟩ } (fun b => by have h := b.secs rfl; exact absurd h (by show ¬ [1] = ([] : List Int); simp))
theorem odd_5 {k : Int} (h0 : 0 ≤ k) (h1 : k < 1000) : chk ({ rec0 13 with n := -1 - k }) = 2 :=
  chk_range ⟨by show (1 : Int) ≤ 13; decide, by show (13 : Int) ≤ 14; decide⟩ (by
    cases hr : rangeB ({ rec0 13 with n := -1 - k }) with
    | true => rfl
    | false =>
      exfalso
      unfold rangeB at hr
      simp only [Bool.or_eq_false_iff, Bool.not_eq_false'] at hr
      obtain ⟨⟨⟨h1', h2'⟩, h3'⟩, h4'⟩ := hr
      unfold fourB at h4'
      rw [Bool.and_eq_true, Bool.and_eq_true] at h4'
      have := (fitsB_iff.1 h4'.1.1) _ List.mem_cons_self
      have h : 0 ≤ -1 - k := this.1
      omega)
theorem odd_6 {k : Int} (h0 : 0 ≤ k) (h1 : k < 1000) : chk ({ rec0 14 with vol := 256 + k }) = 2 :=
  chk_range ⟨by show (1 : Int) ≤ 14; decide, by show (14 : Int) ≤ 14; decide⟩ (by
    cases hr : rangeB ({ rec0 14 with vol := 256 + k }) with
    | true => rfl
    | false =>
      exfalso
      unfold rangeB at hr
      simp only [Bool.or_eq_false_iff, Bool.not_eq_false'] at hr
      obtain ⟨⟨⟨h1', h2'⟩, h3'⟩, h4'⟩ := hr
      have := (fitsB_iff.1 h1') _ List.mem_cons_self
      have h : 256 + k ≤ 255 := this.2
      omega)
theorem odd_7 {k : Int} (h0 : 0 ≤ k) (h1 : k < 1000) : chk ({ rec0 9 with id := 16777216 + k }) = 2 :=
  chk_range ⟨by show (1 : Int) ≤ 9; decide, by show (9 : Int) ≤ 14; decide⟩ (by
    cases hr : rangeB ({ rec0 9 with id := 16777216 + k }) with
    | true => rfl
    | false =>
      exfalso
      unfold rangeB at hr
      simp only [Bool.or_eq_false_iff, Bool.not_eq_false'] at hr
      obtain ⟨⟨⟨h1', h2'⟩, h3'⟩, h4'⟩ := hr
      have := (fitsB_iff.1 h3') _ List.mem_cons_self
      have h : 16777216 + k ≤ 16777215 := this.2
      omega)
theorem odd_8 {k : Int} (h0 : 0 ≤ k) (h1 : k < 1000) : chk ({ rec0 3 with rule := ⟨⟨#[]⟩, -2 - k, 0⟩ }) = 2 :=
  chk_range ⟨by show (1 : Int) ≤ 3; decide, by show (3 : Int) ≤ 14; decide⟩ (by
    cases hr : rangeB ({ rec0 3 with rule := ⟨⟨#[]⟩, -2 - k, 0⟩ }) with
    | true => rfl
    | false =>
      exfalso
      unfold rangeB at hr
      simp only [Bool.or_eq_false_iff, Bool.not_eq_false'] at hr
      obtain ⟨⟨⟨h1', h2'⟩, h3'⟩, h4'⟩ := hr
      unfold fourB at h4'
      rw [Bool.and_eq_true, Bool.and_eq_true, decide_eq_true_eq] at h4'
      have h : -1 ≤ -2 - k := h4'.1.2
      omega)
theorem odd_9 {k : Int} (h0 : 0 ≤ k) (h1 : k < 1000) : chk ({ rec0 (15 + k) with id := 0 }) = 3 :=
  chk_kind (by show 14 < 15 + k; omega)
theorem RxsG.one {G : GW} {v : Value} {r : Rec} {vs ps ss : Value} (h : Sl G 33 29 1 v (recV r vs ps ss)) (hx : RxG G r vs ps ss) (hf : i64 (r.rule.freeze + 1)) (hd : i64 (r.rule.drop + 1)) : RxsG G v [r] := by
  refine ⟨[recV r vs ps ss], ⟨rfl, fun cs hcs => by rw [List.mem_singleton.1 hcs]; rfl, fun i cs x h1 h2 => ?_⟩, by rw [List.flatten_cons, List.flatten_nil, List.append_nil]; exact h⟩
  cases i with
  | zero => cases h1; cases h2; exact ⟨vs, ps, ss, rfl, hx, hf, hd⟩
  | succ i => cases h1
theorem ints0 (G : GW) : IntsG G (.slice none 0 0) [] := IntsG.of (l := []) (Sl.nil _ _ _)
theorem encE_does {lv : Value} {l : List Rec} {G0 : GW} (hW : G0.Wf) (h : RxsG G0 lv l) (hK : KindsG G0) :
    Calls Tryd.prog 6 #[lv] G0.w (Ret G0 fun y _ => ∃ A n c, y = .tuple #[.slice A n c, .int .i64 (encR l).2]) :=
  (enc_does hW h hK).mono fun e w' ⟨v, he, ⟨bv, hv, hb⟩, hc⟩ => by
    obtain ⟨A, c, rfl, _⟩ := hb.form
    exact ⟨v, he, ⟨A, _, c, hv⟩, hc⟩
theorem encR_one {r : Rec} (h : chk r ≠ 0) : (encR [r]).2 = chk r := by
  unfold encR
  rw [if_neg (by show ¬ 255 < 1; decide), encL, if_neg h]
set_option maxRecDepth 100000 in
set_option maxHeartbeats 64000000 in
theorem recordBare_ret {w : World} (a : Int) (ha : i64 a) (b : Int) (hb : i64 b) (hK : KindsG ⟨Non, w⟩) :
    Calls Tryd.prog 3 #[.int .i64 a, .int .i64 b] w (Ret ⟨Non, w⟩ fun v _ => v = .bool true) := by
  have hml := max_le
  refine enterS (G := ⟨Non, w⟩) (n := 74) 3000 (fun _ h => h.elim) Tryd.func3 rfl Tryd.ntmps3 (by simp) ?_
  simp only [go_sem, simprocAttr]
  refine plain_ok (N := 3000) (call_does (fun y _ => y = .int .i64 (pick b 1000)) rfl rfl (by kernel_rfl) rfl (dk rfl) (fun G hG => picked_does hG.wf hb (by decide) (by decide))) (QOk_body _ _ _) (by first | exact .inl rfl | exact .inr ⟨_, _, rfl, rfl⟩) ?_
  rintro _ ⟨_, G1, rfl, hn1, rfl⟩
  clear hn1
  have hpb := pick_bd b 1000 (by decide)
  generalize pick b 1000 = k at hpb ⊢
  obtain ⟨k0, k1⟩ := hpb
  simp only [go_sem, simprocAttr]
  refine ⟨by omega, by omega, by omega, fun gS => ⟨by omega, by omega, by omega, by omega, by omega, fun gR gE => ?_⟩⟩
  refine plain_ok (N := 3000) (lenLit_does rfl tySlice34 rfl (dk rfl)) (QOk_body _ _ _) (by first | exact .inl rfl | exact .inr ⟨_, _, rfl, rfl⟩) ?_
  rintro _ rfl
  simp only [go_sem, simprocAttr]
  refine plain_ok (N := 3000) (call_does (fun y _ => y = .int .i64 (pick a 10)) rfl rfl (by kernel_rfl) rfl (dk rfl) (fun G hG => picked_does hG.wf ha (by decide) (by decide))) (QOk_body _ _ _) (by first | exact .inl rfl | exact .inr ⟨_, _, rfl, rfl⟩) ?_
  rintro _ ⟨_, G2, rfl, hn2, rfl⟩
  clear hn2
  have hpa := pick_bd a 10 (by decide)
  generalize pick a 10 = i at hpa ⊢
  have hi : i = 0 ∨ i = 1 ∨ i = 2 ∨ i = 3 ∨ i = 4 ∨ i = 5 ∨ i = 6 ∨ i = 7 ∨ i = 8 ∨ i = 9 := by omega
  have hKs : ∀ (G : GW) (ks : List Nat), (⟨Non, w⟩ : GW).Le G → KindsG (G.sub ks) := fun G ks h => BlkG.mono hK (h.trans (GW.le_sub _ _))
  rcases hi with rfl | rfl | rfl | rfl | rfl | rfl | rfl | rfl | rfl | rfl
  · have hc : chk ({ rec0 9 with id := 1, n := 1 + k }) = 4 := odd_0 k0 k1
    have he : (encR [{ rec0 9 with id := 1, n := 1 + k }]).2 = 4 := (encR_one (by rw [hc]; decide)).trans hc
    simp only [go_sem, simprocAttr]
    refine plain_ok (N := 3000) (lit_elem_does (m := 0) rfl tySlice34 tySize33 rfl rfl (dk rfl) rfl (by decide)) (QOk_body _ _ _) (by first | exact .inl rfl | exact .inr ⟨_, _, rfl, rfl⟩) ?_
    rintro _ rfl
    simp only [go_sem, simprocAttr]
    intro gC
    refine plain_ok (N := 3000) (call_does (fun y _ => ∃ A n c, y = .tuple #[.slice A n c, .int .i64 4]) rfl rfl (by kernel_rfl) rfl (dk rfl) (fun G hG => Ret.anyM (M' := (G.sub [gC, gS]).M) (T := fun y => ∃ A n c, y = .tuple #[.slice A n c, .int .i64 4]) (he ▸ encE_does (l := [{ rec0 9 with id := 1, n := 1 + k }]) (G0 := G.sub [gC, gS]) (hG.wf.sub [gC, gS]) (RxsG.one (r := { rec0 9 with id := 1, n := 1 + k }) (vs := (.slice none 0 0)) (ps := (.slice none 0 0)) (ss := (.slice none 0 0)) (hG.slG (ks := [gC, gS]) List.mem_cons_self (by simp) rfl (by show (1 : Nat) ≤ maxLen; unfold maxLen; omega)) ⟨ints0 _, ints0 _, ints0 _⟩ ⟨by show _ ≤ (0 : Int) + 1; omega, by show (0 : Int) + 1 ≤ _; omega⟩ ⟨by show _ ≤ (0 : Int) + 1; omega, by show (0 : Int) + 1 ≤ _; omega⟩) (hKs _ _ (hG.le ⟨Non, w⟩ (by simp)))))) (QOk_body _ _ _) (by first | exact .inl rfl | exact .inr ⟨_, _, rfl, rfl⟩) ?_
    rintro _ ⟨_, G3, ⟨AE, nE, cE, rfl⟩, hn3, rfl⟩
    clear hn3
    simp only [go_sem, simprocAttr]
    refine draw_ok (N := 3000) (.take 0 (.take 1 (.take 2 (.take 3 (.take 5 (.take 6 (.take 7 (.take 8 (.alt 4 (.take 9 (.take 10 (.take 11 (.take 12 (.take 13 (.take 14 (.take 15 (.take 16 (.take 17 (.take 18 .done)))))))))) .last))))))))) [] (QOk_body _ _ _) follows_mixed (by kernel_rfl) (by kernel_rfl) ?_
    simp only [go_sem, simprocAttr]
    refine take_lit (m := 0) rfl tySlice34 tySize33 rfl rfl (dk rfl) rfl (by decide) ?_
    simp only [go_sem, simprocAttr]
    refine take_lit (m := 0) rfl tySlice36 tySize35 rfl rfl (dk rfl) rfl (by decide) ?_
    simp only [go_sem, simprocAttr]
    refine anyc_ok (N := 3000) (call_does (fun y _ => y = .int .i64 4) rfl rfl (by kernel_rfl) rfl (dk rfl) (fun G hG => Ret.anyM (M' := (G.sub [gS]).M) (T := fun y => y = .int .i64 4) (by have h9 := chkRec_does (r := { rec0 9 with id := 1, n := 1 + k }) (vs := (.slice none 0 0)) (ps := (.slice none 0 0)) (ss := (.slice none 0 0)) (G0 := G.sub [gS]) (hG.wf.sub [gS]) ⟨ints0 _, ints0 _, ints0 _⟩ (hKs _ _ (hG.le ⟨Non, w⟩ (by simp))) ⟨by show _ ≤ (0 : Int) + 1; omega, by show (0 : Int) + 1 ≤ _; omega⟩ ⟨by show _ ≤ (0 : Int) + 1; omega, by show (0 : Int) + 1 ≤ _; omega⟩; rw [hc] at h9; exact h9))) (QOk_body _ _ _) rfl (by first | exact .inl rfl | exact .inr ⟨_, _, rfl, rfl⟩) ?_
    rintro _ ⟨_, G4, rfl, hn4, rfl⟩
    clear hn4
    simp only [go_sem, simprocAttr]
    refine take_lit (m := 0) rfl tySlice36 tySize35 rfl rfl (dk rfl) rfl (by decide) ?_
    simp only [go_sem, simprocAttr]
    refine fin_ret (G := ⟨Non, w⟩) Tryd.results3 ?_
    simp only [go_sem, simprocAttr]
    intro aa w' _ hle
    rfl
  · have hc : chk ({ rec0 13 with id := 1 + k }) = 4 := odd_1 k0 k1
    have he : (encR [{ rec0 13 with id := 1 + k }]).2 = 4 := (encR_one (by rw [hc]; decide)).trans hc
    simp only [go_sem, simprocAttr]
    refine plain_ok (N := 3000) (lit_elem_does (m := 1) rfl tySlice34 tySize33 rfl rfl (dk rfl) rfl (by decide)) (QOk_body _ _ _) (by first | exact .inl rfl | exact .inr ⟨_, _, rfl, rfl⟩) ?_
    rintro _ rfl
    simp only [go_sem, simprocAttr]
    intro gC
    refine plain_ok (N := 3000) (call_does (fun y _ => ∃ A n c, y = .tuple #[.slice A n c, .int .i64 4]) rfl rfl (by kernel_rfl) rfl (dk rfl) (fun G hG => Ret.anyM (M' := (G.sub [gC, gS]).M) (T := fun y => ∃ A n c, y = .tuple #[.slice A n c, .int .i64 4]) (he ▸ encE_does (l := [{ rec0 13 with id := 1 + k }]) (G0 := G.sub [gC, gS]) (hG.wf.sub [gC, gS]) (RxsG.one (r := { rec0 13 with id := 1 + k }) (vs := (.slice none 0 0)) (ps := (.slice none 0 0)) (ss := (.slice none 0 0)) (hG.slG (ks := [gC, gS]) List.mem_cons_self (by simp) rfl (by show (1 : Nat) ≤ maxLen; unfold maxLen; omega)) ⟨ints0 _, ints0 _, ints0 _⟩ ⟨by show _ ≤ (0 : Int) + 1; omega, by show (0 : Int) + 1 ≤ _; omega⟩ ⟨by show _ ≤ (0 : Int) + 1; omega, by show (0 : Int) + 1 ≤ _; omega⟩) (hKs _ _ (hG.le ⟨Non, w⟩ (by simp)))))) (QOk_body _ _ _) (by first | exact .inl rfl | exact .inr ⟨_, _, rfl, rfl⟩) ?_
    rintro _ ⟨_, G3, ⟨AE, nE, cE, rfl⟩, hn3, rfl⟩
    clear hn3
    simp only [go_sem, simprocAttr]
    refine draw_ok (N := 3000) (.take 0 (.take 1 (.take 2 (.take 3 (.take 5 (.take 6 (.take 7 (.take 8 (.alt 4 (.take 9 (.take 10 (.take 11 (.take 12 (.take 13 (.take 14 (.take 15 (.take 16 (.take 17 (.take 18 .done)))))))))) .last))))))))) [] (QOk_body _ _ _) follows_mixed (by kernel_rfl) (by kernel_rfl) ?_
    simp only [go_sem, simprocAttr]
    refine take_lit (m := 1) rfl tySlice34 tySize33 rfl rfl (dk rfl) rfl (by decide) ?_
    simp only [go_sem, simprocAttr]
    refine take_lit (m := 1) rfl tySlice36 tySize35 rfl rfl (dk rfl) rfl (by decide) ?_
    simp only [go_sem, simprocAttr]
    refine anyc_ok (N := 3000) (call_does (fun y _ => y = .int .i64 4) rfl rfl (by kernel_rfl) rfl (dk rfl) (fun G hG => Ret.anyM (M' := (G.sub [gS]).M) (T := fun y => y = .int .i64 4) (by have h9 := chkRec_does (r := { rec0 13 with id := 1 + k }) (vs := (.slice none 0 0)) (ps := (.slice none 0 0)) (ss := (.slice none 0 0)) (G0 := G.sub [gS]) (hG.wf.sub [gS]) ⟨ints0 _, ints0 _, ints0 _⟩ (hKs _ _ (hG.le ⟨Non, w⟩ (by simp))) ⟨by show _ ≤ (0 : Int) + 1; omega, by show (0 : Int) + 1 ≤ _; omega⟩ ⟨by show _ ≤ (0 : Int) + 1; omega, by show (0 : Int) + 1 ≤ _; omega⟩; rw [hc] at h9; exact h9))) (QOk_body _ _ _) rfl (by first | exact .inl rfl | exact .inr ⟨_, _, rfl, rfl⟩) ?_
    rintro _ ⟨_, G4, rfl, hn4, rfl⟩
    clear hn4
    simp only [go_sem, simprocAttr]
    refine take_lit (m := 1) rfl tySlice36 tySize35 rfl rfl (dk rfl) rfl (by decide) ?_
    simp only [go_sem, simprocAttr]
    refine fin_ret (G := ⟨Non, w⟩) Tryd.results3 ?_
    simp only [go_sem, simprocAttr]
    intro aa w' _ hle
    rfl
  · have hc : chk ({ rec0 1 with name := ⟨#[97]⟩, key := ⟨#[98]⟩ }) = 4 := odd_2 k0 k1
    have he : (encR [{ rec0 1 with name := ⟨#[97]⟩, key := ⟨#[98]⟩ }]).2 = 4 := (encR_one (by rw [hc]; decide)).trans hc
    simp only [go_sem, simprocAttr]
    refine plain_ok (N := 3000) (lit_elem_does (m := 2) rfl tySlice34 tySize33 rfl rfl (dk rfl) rfl (by decide)) (QOk_body _ _ _) (by first | exact .inl rfl | exact .inr ⟨_, _, rfl, rfl⟩) ?_
    rintro _ rfl
    simp only [go_sem, simprocAttr]
    intro gC
    refine plain_ok (N := 3000) (call_does (fun y _ => ∃ A n c, y = .tuple #[.slice A n c, .int .i64 4]) rfl rfl (by kernel_rfl) rfl (dk rfl) (fun G hG => Ret.anyM (M' := (G.sub [gC, gS]).M) (T := fun y => ∃ A n c, y = .tuple #[.slice A n c, .int .i64 4]) (he ▸ encE_does (l := [{ rec0 1 with name := ⟨#[97]⟩, key := ⟨#[98]⟩ }]) (G0 := G.sub [gC, gS]) (hG.wf.sub [gC, gS]) (RxsG.one (r := { rec0 1 with name := ⟨#[97]⟩, key := ⟨#[98]⟩ }) (vs := (.slice none 0 0)) (ps := (.slice none 0 0)) (ss := (.slice none 0 0)) (hG.slG (ks := [gC, gS]) List.mem_cons_self (by simp) rfl (by show (1 : Nat) ≤ maxLen; unfold maxLen; omega)) ⟨ints0 _, ints0 _, ints0 _⟩ ⟨by show _ ≤ (0 : Int) + 1; omega, by show (0 : Int) + 1 ≤ _; omega⟩ ⟨by show _ ≤ (0 : Int) + 1; omega, by show (0 : Int) + 1 ≤ _; omega⟩) (hKs _ _ (hG.le ⟨Non, w⟩ (by simp)))))) (QOk_body _ _ _) (by first | exact .inl rfl | exact .inr ⟨_, _, rfl, rfl⟩) ?_
    rintro _ ⟨_, G3, ⟨AE, nE, cE, rfl⟩, hn3, rfl⟩
    clear hn3
    simp only [go_sem, simprocAttr]
    refine draw_ok (N := 3000) (.take 0 (.take 1 (.take 2 (.take 3 (.take 5 (.take 6 (.take 7 (.take 8 (.alt 4 (.take 9 (.take 10 (.take 11 (.take 12 (.take 13 (.take 14 (.take 15 (.take 16 (.take 17 (.take 18 .done)))))))))) .last))))))))) [] (QOk_body _ _ _) follows_mixed (by kernel_rfl) (by kernel_rfl) ?_
    simp only [go_sem, simprocAttr]
    refine take_lit (m := 2) rfl tySlice34 tySize33 rfl rfl (dk rfl) rfl (by decide) ?_
    simp only [go_sem, simprocAttr]
    refine take_lit (m := 2) rfl tySlice36 tySize35 rfl rfl (dk rfl) rfl (by decide) ?_
    simp only [go_sem, simprocAttr]
    refine anyc_ok (N := 3000) (call_does (fun y _ => y = .int .i64 4) rfl rfl (by kernel_rfl) rfl (dk rfl) (fun G hG => Ret.anyM (M' := (G.sub [gS]).M) (T := fun y => y = .int .i64 4) (by have h9 := chkRec_does (r := { rec0 1 with name := ⟨#[97]⟩, key := ⟨#[98]⟩ }) (vs := (.slice none 0 0)) (ps := (.slice none 0 0)) (ss := (.slice none 0 0)) (G0 := G.sub [gS]) (hG.wf.sub [gS]) ⟨ints0 _, ints0 _, ints0 _⟩ (hKs _ _ (hG.le ⟨Non, w⟩ (by simp))) ⟨by show _ ≤ (0 : Int) + 1; omega, by show (0 : Int) + 1 ≤ _; omega⟩ ⟨by show _ ≤ (0 : Int) + 1; omega, by show (0 : Int) + 1 ≤ _; omega⟩; rw [hc] at h9; exact h9))) (QOk_body _ _ _) rfl (by first | exact .inl rfl | exact .inr ⟨_, _, rfl, rfl⟩) ?_
    rintro _ ⟨_, G4, rfl, hn4, rfl⟩
    clear hn4
    simp only [go_sem, simprocAttr]
    refine take_lit (m := 2) rfl tySlice36 tySize35 rfl rfl (dk rfl) rfl (by decide) ?_
    simp only [go_sem, simprocAttr]
    refine fin_ret (G := ⟨Non, w⟩) Tryd.results3 ?_
    simp only [go_sem, simprocAttr]
    intro aa w' _ hle
    rfl
  · have hc : chk ({ rec0 14 with at_ := 1 + k }) = 4 := odd_3 k0 k1
    have he : (encR [{ rec0 14 with at_ := 1 + k }]).2 = 4 := (encR_one (by rw [hc]; decide)).trans hc
    simp only [go_sem, simprocAttr]
    refine plain_ok (N := 3000) (lit_elem_does (m := 3) rfl tySlice34 tySize33 rfl rfl (dk rfl) rfl (by decide)) (QOk_body _ _ _) (by first | exact .inl rfl | exact .inr ⟨_, _, rfl, rfl⟩) ?_
    rintro _ rfl
    simp only [go_sem, simprocAttr]
    intro gC
    refine plain_ok (N := 3000) (call_does (fun y _ => ∃ A n c, y = .tuple #[.slice A n c, .int .i64 4]) rfl rfl (by kernel_rfl) rfl (dk rfl) (fun G hG => Ret.anyM (M' := (G.sub [gC, gS]).M) (T := fun y => ∃ A n c, y = .tuple #[.slice A n c, .int .i64 4]) (he ▸ encE_does (l := [{ rec0 14 with at_ := 1 + k }]) (G0 := G.sub [gC, gS]) (hG.wf.sub [gC, gS]) (RxsG.one (r := { rec0 14 with at_ := 1 + k }) (vs := (.slice none 0 0)) (ps := (.slice none 0 0)) (ss := (.slice none 0 0)) (hG.slG (ks := [gC, gS]) List.mem_cons_self (by simp) rfl (by show (1 : Nat) ≤ maxLen; unfold maxLen; omega)) ⟨ints0 _, ints0 _, ints0 _⟩ ⟨by show _ ≤ (0 : Int) + 1; omega, by show (0 : Int) + 1 ≤ _; omega⟩ ⟨by show _ ≤ (0 : Int) + 1; omega, by show (0 : Int) + 1 ≤ _; omega⟩) (hKs _ _ (hG.le ⟨Non, w⟩ (by simp)))))) (QOk_body _ _ _) (by first | exact .inl rfl | exact .inr ⟨_, _, rfl, rfl⟩) ?_
    rintro _ ⟨_, G3, ⟨AE, nE, cE, rfl⟩, hn3, rfl⟩
    clear hn3
    simp only [go_sem, simprocAttr]
    refine draw_ok (N := 3000) (.take 0 (.take 1 (.take 2 (.take 3 (.take 5 (.take 6 (.take 7 (.take 8 (.alt 4 (.take 9 (.take 10 (.take 11 (.take 12 (.take 13 (.take 14 (.take 15 (.take 16 (.take 17 (.take 18 .done)))))))))) .last))))))))) [] (QOk_body _ _ _) follows_mixed (by kernel_rfl) (by kernel_rfl) ?_
    simp only [go_sem, simprocAttr]
    refine take_lit (m := 3) rfl tySlice34 tySize33 rfl rfl (dk rfl) rfl (by decide) ?_
    simp only [go_sem, simprocAttr]
    refine take_lit (m := 3) rfl tySlice36 tySize35 rfl rfl (dk rfl) rfl (by decide) ?_
    simp only [go_sem, simprocAttr]
    refine anyc_ok (N := 3000) (call_does (fun y _ => y = .int .i64 4) rfl rfl (by kernel_rfl) rfl (dk rfl) (fun G hG => Ret.anyM (M' := (G.sub [gS]).M) (T := fun y => y = .int .i64 4) (by have h9 := chkRec_does (r := { rec0 14 with at_ := 1 + k }) (vs := (.slice none 0 0)) (ps := (.slice none 0 0)) (ss := (.slice none 0 0)) (G0 := G.sub [gS]) (hG.wf.sub [gS]) ⟨ints0 _, ints0 _, ints0 _⟩ (hKs _ _ (hG.le ⟨Non, w⟩ (by simp))) ⟨by show _ ≤ (0 : Int) + 1; omega, by show (0 : Int) + 1 ≤ _; omega⟩ ⟨by show _ ≤ (0 : Int) + 1; omega, by show (0 : Int) + 1 ≤ _; omega⟩; rw [hc] at h9; exact h9))) (QOk_body _ _ _) rfl (by first | exact .inl rfl | exact .inr ⟨_, _, rfl, rfl⟩) ?_
    rintro _ ⟨_, G4, rfl, hn4, rfl⟩
    clear hn4
    simp only [go_sem, simprocAttr]
    refine take_lit (m := 3) rfl tySlice36 tySize35 rfl rfl (dk rfl) rfl (by decide) ?_
    simp only [go_sem, simprocAttr]
    refine fin_ret (G := ⟨Non, w⟩) Tryd.results3 ?_
    simp only [go_sem, simprocAttr]
    intro aa w' _ hle
    rfl
  · have hc : chk ({ rec0 5 with secs := [1] }) = 4 := odd_4 k0 k1
    have he : (encR [{ rec0 5 with secs := [1] }]).2 = 4 := (encR_one (by rw [hc]; decide)).trans hc
    simp only [go_sem, simprocAttr]
    refine plain_ok (N := 3000) (lit_elem_does (m := 4) rfl tySlice34 tySize33 rfl rfl (dk rfl) rfl (by decide)) (QOk_body _ _ _) (by first | exact .inl rfl | exact .inr ⟨_, _, rfl, rfl⟩) ?_
    rintro _ rfl
    simp only [go_sem, simprocAttr]
    intro gC
    refine plain_ok (N := 3000) (call_does (fun y _ => ∃ A n c, y = .tuple #[.slice A n c, .int .i64 4]) rfl rfl (by kernel_rfl) rfl (dk rfl) (fun G hG => Ret.anyM (M' := (G.sub [gC, gS]).M) (T := fun y => ∃ A n c, y = .tuple #[.slice A n c, .int .i64 4]) (he ▸ encE_does (l := [{ rec0 5 with secs := [1] }]) (G0 := G.sub [gC, gS]) (hG.wf.sub [gC, gS]) (RxsG.one (r := { rec0 5 with secs := [1] }) (vs := (.slice none 0 0)) (ps := (.slice none 0 0)) (ss := (.slice (some ⟨gS, 0, none⟩) 1 1)) (hG.slG (ks := [gC, gS]) List.mem_cons_self (by simp) rfl (by show (1 : Nat) ≤ maxLen; unfold maxLen; omega)) ⟨ints0 _, ints0 _, IntsG.of (l := [1]) (hG.slG (ks := [gC, gS]) (List.mem_cons_of_mem _ (List.mem_cons_of_mem _ (List.mem_cons_of_mem _ List.mem_cons_self))) (by simp) rfl (by show (1 : Nat) ≤ maxLen; unfold maxLen; omega))⟩ ⟨by show _ ≤ (0 : Int) + 1; omega, by show (0 : Int) + 1 ≤ _; omega⟩ ⟨by show _ ≤ (0 : Int) + 1; omega, by show (0 : Int) + 1 ≤ _; omega⟩) (hKs _ _ (hG.le ⟨Non, w⟩ (by simp)))))) (QOk_body _ _ _) (by first | exact .inl rfl | exact .inr ⟨_, _, rfl, rfl⟩) ?_
    rintro _ ⟨_, G3, ⟨AE, nE, cE, rfl⟩, hn3, rfl⟩
    clear hn3
    simp only [go_sem, simprocAttr]
    refine draw_ok (N := 3000) (.take 0 (.take 1 (.take 2 (.take 3 (.take 5 (.take 6 (.take 7 (.take 8 (.alt 4 (.take 9 (.take 10 (.take 11 (.take 12 (.take 13 (.take 14 (.take 15 (.take 16 (.take 17 (.take 18 .done)))))))))) .last))))))))) [] (QOk_body _ _ _) follows_mixed (by kernel_rfl) (by kernel_rfl) ?_
    simp only [go_sem, simprocAttr]
    refine take_lit (m := 4) rfl tySlice34 tySize33 rfl rfl (dk rfl) rfl (by decide) ?_
    simp only [go_sem, simprocAttr]
    refine take_lit (m := 4) rfl tySlice36 tySize35 rfl rfl (dk rfl) rfl (by decide) ?_
    simp only [go_sem, simprocAttr]
    refine anyc_ok (N := 3000) (call_does (fun y _ => y = .int .i64 4) rfl rfl (by kernel_rfl) rfl (dk rfl) (fun G hG => Ret.anyM (M' := (G.sub [gS]).M) (T := fun y => y = .int .i64 4) (by have h9 := chkRec_does (r := { rec0 5 with secs := [1] }) (vs := (.slice none 0 0)) (ps := (.slice none 0 0)) (ss := (.slice (some ⟨gS, 0, none⟩) 1 1)) (G0 := G.sub [gS]) (hG.wf.sub [gS]) ⟨ints0 _, ints0 _, IntsG.of (l := [1]) (hG.slG (ks := [gS]) (List.mem_cons_of_mem _ (List.mem_cons_of_mem _ (List.mem_cons_of_mem _ List.mem_cons_self))) (by simp) rfl (by show (1 : Nat) ≤ maxLen; unfold maxLen; omega))⟩ (hKs _ _ (hG.le ⟨Non, w⟩ (by simp))) ⟨by show _ ≤ (0 : Int) + 1; omega, by show (0 : Int) + 1 ≤ _; omega⟩ ⟨by show _ ≤ (0 : Int) + 1; omega, by show (0 : Int) + 1 ≤ _; omega⟩; rw [hc] at h9; exact h9))) (QOk_body _ _ _) rfl (by first | exact .inl rfl | exact .inr ⟨_, _, rfl, rfl⟩) ?_
    rintro _ ⟨_, G4, rfl, hn4, rfl⟩
    clear hn4
    simp only [go_sem, simprocAttr]
    refine take_lit (m := 4) rfl tySlice36 tySize35 rfl rfl (dk rfl) rfl (by decide) ?_
    simp only [go_sem, simprocAttr]
    refine fin_ret (G := ⟨Non, w⟩) Tryd.results3 ?_
    simp only [go_sem, simprocAttr]
    intro aa w' _ hle
    rfl
  · have hc : chk ({ rec0 13 with n := -1 - k }) = 2 := odd_5 k0 k1
    have he : (encR [{ rec0 13 with n := -1 - k }]).2 = 2 := (encR_one (by rw [hc]; decide)).trans hc
    simp only [go_sem, simprocAttr]
    refine plain_ok (N := 3000) (lit_elem_does (m := 5) rfl tySlice34 tySize33 rfl rfl (dk rfl) rfl (by decide)) (QOk_body _ _ _) (by first | exact .inl rfl | exact .inr ⟨_, _, rfl, rfl⟩) ?_
    rintro _ rfl
    simp only [go_sem, simprocAttr]
    intro gC
    refine plain_ok (N := 3000) (call_does (fun y _ => ∃ A n c, y = .tuple #[.slice A n c, .int .i64 2]) rfl rfl (by kernel_rfl) rfl (dk rfl) (fun G hG => Ret.anyM (M' := (G.sub [gC, gS]).M) (T := fun y => ∃ A n c, y = .tuple #[.slice A n c, .int .i64 2]) (he ▸ encE_does (l := [{ rec0 13 with n := -1 - k }]) (G0 := G.sub [gC, gS]) (hG.wf.sub [gC, gS]) (RxsG.one (r := { rec0 13 with n := -1 - k }) (vs := (.slice none 0 0)) (ps := (.slice none 0 0)) (ss := (.slice none 0 0)) (hG.slG (ks := [gC, gS]) List.mem_cons_self (by simp) rfl (by show (1 : Nat) ≤ maxLen; unfold maxLen; omega)) ⟨ints0 _, ints0 _, ints0 _⟩ ⟨by show _ ≤ (0 : Int) + 1; omega, by show (0 : Int) + 1 ≤ _; omega⟩ ⟨by show _ ≤ (0 : Int) + 1; omega, by show (0 : Int) + 1 ≤ _; omega⟩) (hKs _ _ (hG.le ⟨Non, w⟩ (by simp)))))) (QOk_body _ _ _) (by first | exact .inl rfl | exact .inr ⟨_, _, rfl, rfl⟩) ?_
    rintro _ ⟨_, G3, ⟨AE, nE, cE, rfl⟩, hn3, rfl⟩
    clear hn3
    simp only [go_sem, simprocAttr]
    refine draw_ok (N := 3000) (.take 0 (.take 1 (.take 2 (.take 3 (.take 5 (.take 6 (.take 7 (.take 8 (.alt 4 (.take 9 (.take 10 (.take 11 (.take 12 (.take 13 (.take 14 (.take 15 (.take 16 (.take 17 (.take 18 .done)))))))))) .last))))))))) [] (QOk_body _ _ _) follows_mixed (by kernel_rfl) (by kernel_rfl) ?_
    simp only [go_sem, simprocAttr]
    refine take_lit (m := 5) rfl tySlice34 tySize33 rfl rfl (dk rfl) rfl (by decide) ?_
    simp only [go_sem, simprocAttr]
    refine take_lit (m := 5) rfl tySlice36 tySize35 rfl rfl (dk rfl) rfl (by decide) ?_
    simp only [go_sem, simprocAttr]
    refine anyc_ok (N := 3000) (call_does (fun y _ => y = .int .i64 2) rfl rfl (by kernel_rfl) rfl (dk rfl) (fun G hG => Ret.anyM (M' := (G.sub [gS]).M) (T := fun y => y = .int .i64 2) (by have h9 := chkRec_does (r := { rec0 13 with n := -1 - k }) (vs := (.slice none 0 0)) (ps := (.slice none 0 0)) (ss := (.slice none 0 0)) (G0 := G.sub [gS]) (hG.wf.sub [gS]) ⟨ints0 _, ints0 _, ints0 _⟩ (hKs _ _ (hG.le ⟨Non, w⟩ (by simp))) ⟨by show _ ≤ (0 : Int) + 1; omega, by show (0 : Int) + 1 ≤ _; omega⟩ ⟨by show _ ≤ (0 : Int) + 1; omega, by show (0 : Int) + 1 ≤ _; omega⟩; rw [hc] at h9; exact h9))) (QOk_body _ _ _) rfl (by first | exact .inl rfl | exact .inr ⟨_, _, rfl, rfl⟩) ?_
    rintro _ ⟨_, G4, rfl, hn4, rfl⟩
    clear hn4
    simp only [go_sem, simprocAttr]
    refine take_lit (m := 5) rfl tySlice36 tySize35 rfl rfl (dk rfl) rfl (by decide) ?_
    simp only [go_sem, simprocAttr]
    refine fin_ret (G := ⟨Non, w⟩) Tryd.results3 ?_
    simp only [go_sem, simprocAttr]
    intro aa w' _ hle
    rfl
  · have hc : chk ({ rec0 14 with vol := 256 + k }) = 2 := odd_6 k0 k1
    have he : (encR [{ rec0 14 with vol := 256 + k }]).2 = 2 := (encR_one (by rw [hc]; decide)).trans hc
    simp only [go_sem, simprocAttr]
    refine plain_ok (N := 3000) (lit_elem_does (m := 6) rfl tySlice34 tySize33 rfl rfl (dk rfl) rfl (by decide)) (QOk_body _ _ _) (by first | exact .inl rfl | exact .inr ⟨_, _, rfl, rfl⟩) ?_
    rintro _ rfl
    simp only [go_sem, simprocAttr]
    intro gC
    refine plain_ok (N := 3000) (call_does (fun y _ => ∃ A n c, y = .tuple #[.slice A n c, .int .i64 2]) rfl rfl (by kernel_rfl) rfl (dk rfl) (fun G hG => Ret.anyM (M' := (G.sub [gC, gS]).M) (T := fun y => ∃ A n c, y = .tuple #[.slice A n c, .int .i64 2]) (he ▸ encE_does (l := [{ rec0 14 with vol := 256 + k }]) (G0 := G.sub [gC, gS]) (hG.wf.sub [gC, gS]) (RxsG.one (r := { rec0 14 with vol := 256 + k }) (vs := (.slice none 0 0)) (ps := (.slice none 0 0)) (ss := (.slice none 0 0)) (hG.slG (ks := [gC, gS]) List.mem_cons_self (by simp) rfl (by show (1 : Nat) ≤ maxLen; unfold maxLen; omega)) ⟨ints0 _, ints0 _, ints0 _⟩ ⟨by show _ ≤ (0 : Int) + 1; omega, by show (0 : Int) + 1 ≤ _; omega⟩ ⟨by show _ ≤ (0 : Int) + 1; omega, by show (0 : Int) + 1 ≤ _; omega⟩) (hKs _ _ (hG.le ⟨Non, w⟩ (by simp)))))) (QOk_body _ _ _) (by first | exact .inl rfl | exact .inr ⟨_, _, rfl, rfl⟩) ?_
    rintro _ ⟨_, G3, ⟨AE, nE, cE, rfl⟩, hn3, rfl⟩
    clear hn3
    simp only [go_sem, simprocAttr]
    refine draw_ok (N := 3000) (.take 0 (.take 1 (.take 2 (.take 3 (.take 5 (.take 6 (.take 7 (.take 8 (.alt 4 (.take 9 (.take 10 (.take 11 (.take 12 (.take 13 (.take 14 (.take 15 (.take 16 (.take 17 (.take 18 .done)))))))))) .last))))))))) [] (QOk_body _ _ _) follows_mixed (by kernel_rfl) (by kernel_rfl) ?_
    simp only [go_sem, simprocAttr]
    refine take_lit (m := 6) rfl tySlice34 tySize33 rfl rfl (dk rfl) rfl (by decide) ?_
    simp only [go_sem, simprocAttr]
    refine take_lit (m := 6) rfl tySlice36 tySize35 rfl rfl (dk rfl) rfl (by decide) ?_
    simp only [go_sem, simprocAttr]
    refine anyc_ok (N := 3000) (call_does (fun y _ => y = .int .i64 2) rfl rfl (by kernel_rfl) rfl (dk rfl) (fun G hG => Ret.anyM (M' := (G.sub [gS]).M) (T := fun y => y = .int .i64 2) (by have h9 := chkRec_does (r := { rec0 14 with vol := 256 + k }) (vs := (.slice none 0 0)) (ps := (.slice none 0 0)) (ss := (.slice none 0 0)) (G0 := G.sub [gS]) (hG.wf.sub [gS]) ⟨ints0 _, ints0 _, ints0 _⟩ (hKs _ _ (hG.le ⟨Non, w⟩ (by simp))) ⟨by show _ ≤ (0 : Int) + 1; omega, by show (0 : Int) + 1 ≤ _; omega⟩ ⟨by show _ ≤ (0 : Int) + 1; omega, by show (0 : Int) + 1 ≤ _; omega⟩; rw [hc] at h9; exact h9))) (QOk_body _ _ _) rfl (by first | exact .inl rfl | exact .inr ⟨_, _, rfl, rfl⟩) ?_
    rintro _ ⟨_, G4, rfl, hn4, rfl⟩
    clear hn4
    simp only [go_sem, simprocAttr]
    refine take_lit (m := 6) rfl tySlice36 tySize35 rfl rfl (dk rfl) rfl (by decide) ?_
    simp only [go_sem, simprocAttr]
    refine fin_ret (G := ⟨Non, w⟩) Tryd.results3 ?_
    simp only [go_sem, simprocAttr]
    intro aa w' _ hle
    rfl
  · have hc : chk ({ rec0 9 with id := 16777216 + k }) = 2 := odd_7 k0 k1
    have he : (encR [{ rec0 9 with id := 16777216 + k }]).2 = 2 := (encR_one (by rw [hc]; decide)).trans hc
    simp only [go_sem, simprocAttr]
    refine plain_ok (N := 3000) (lit_elem_does (m := 7) rfl tySlice34 tySize33 rfl rfl (dk rfl) rfl (by decide)) (QOk_body _ _ _) (by first | exact .inl rfl | exact .inr ⟨_, _, rfl, rfl⟩) ?_
    rintro _ rfl
    simp only [go_sem, simprocAttr]
    intro gC
    refine plain_ok (N := 3000) (call_does (fun y _ => ∃ A n c, y = .tuple #[.slice A n c, .int .i64 2]) rfl rfl (by kernel_rfl) rfl (dk rfl) (fun G hG => Ret.anyM (M' := (G.sub [gC, gS]).M) (T := fun y => ∃ A n c, y = .tuple #[.slice A n c, .int .i64 2]) (he ▸ encE_does (l := [{ rec0 9 with id := 16777216 + k }]) (G0 := G.sub [gC, gS]) (hG.wf.sub [gC, gS]) (RxsG.one (r := { rec0 9 with id := 16777216 + k }) (vs := (.slice none 0 0)) (ps := (.slice none 0 0)) (ss := (.slice none 0 0)) (hG.slG (ks := [gC, gS]) List.mem_cons_self (by simp) rfl (by show (1 : Nat) ≤ maxLen; unfold maxLen; omega)) ⟨ints0 _, ints0 _, ints0 _⟩ ⟨by show _ ≤ (0 : Int) + 1; omega, by show (0 : Int) + 1 ≤ _; omega⟩ ⟨by show _ ≤ (0 : Int) + 1; omega, by show (0 : Int) + 1 ≤ _; omega⟩) (hKs _ _ (hG.le ⟨Non, w⟩ (by simp)))))) (QOk_body _ _ _) (by first | exact .inl rfl | exact .inr ⟨_, _, rfl, rfl⟩) ?_
    rintro _ ⟨_, G3, ⟨AE, nE, cE, rfl⟩, hn3, rfl⟩
    clear hn3
    simp only [go_sem, simprocAttr]
    refine draw_ok (N := 3000) (.take 0 (.take 1 (.take 2 (.take 3 (.take 5 (.take 6 (.take 7 (.take 8 (.alt 4 (.take 9 (.take 10 (.take 11 (.take 12 (.take 13 (.take 14 (.take 15 (.take 16 (.take 17 (.take 18 .done)))))))))) .last))))))))) [] (QOk_body _ _ _) follows_mixed (by kernel_rfl) (by kernel_rfl) ?_
    simp only [go_sem, simprocAttr]
    refine take_lit (m := 7) rfl tySlice34 tySize33 rfl rfl (dk rfl) rfl (by decide) ?_
    simp only [go_sem, simprocAttr]
    refine take_lit (m := 7) rfl tySlice36 tySize35 rfl rfl (dk rfl) rfl (by decide) ?_
    simp only [go_sem, simprocAttr]
    refine anyc_ok (N := 3000) (call_does (fun y _ => y = .int .i64 2) rfl rfl (by kernel_rfl) rfl (dk rfl) (fun G hG => Ret.anyM (M' := (G.sub [gS]).M) (T := fun y => y = .int .i64 2) (by have h9 := chkRec_does (r := { rec0 9 with id := 16777216 + k }) (vs := (.slice none 0 0)) (ps := (.slice none 0 0)) (ss := (.slice none 0 0)) (G0 := G.sub [gS]) (hG.wf.sub [gS]) ⟨ints0 _, ints0 _, ints0 _⟩ (hKs _ _ (hG.le ⟨Non, w⟩ (by simp))) ⟨by show _ ≤ (0 : Int) + 1; omega, by show (0 : Int) + 1 ≤ _; omega⟩ ⟨by show _ ≤ (0 : Int) + 1; omega, by show (0 : Int) + 1 ≤ _; omega⟩; rw [hc] at h9; exact h9))) (QOk_body _ _ _) rfl (by first | exact .inl rfl | exact .inr ⟨_, _, rfl, rfl⟩) ?_
    rintro _ ⟨_, G4, rfl, hn4, rfl⟩
    clear hn4
    simp only [go_sem, simprocAttr]
    refine take_lit (m := 7) rfl tySlice36 tySize35 rfl rfl (dk rfl) rfl (by decide) ?_
    simp only [go_sem, simprocAttr]
    refine fin_ret (G := ⟨Non, w⟩) Tryd.results3 ?_
    simp only [go_sem, simprocAttr]
    intro aa w' _ hle
    rfl
  · have hc : chk ({ rec0 3 with rule := ⟨⟨#[]⟩, -2 - k, 0⟩ }) = 2 := odd_8 k0 k1
    have he : (encR [{ rec0 3 with rule := ⟨⟨#[]⟩, -2 - k, 0⟩ }]).2 = 2 := (encR_one (by rw [hc]; decide)).trans hc
    simp only [go_sem, simprocAttr]
    refine plain_ok (N := 3000) (lit_elem_does (m := 8) rfl tySlice34 tySize33 rfl rfl (dk rfl) rfl (by decide)) (QOk_body _ _ _) (by first | exact .inl rfl | exact .inr ⟨_, _, rfl, rfl⟩) ?_
    rintro _ rfl
    simp only [go_sem, simprocAttr]
    intro gC
    refine plain_ok (N := 3000) (call_does (fun y _ => ∃ A n c, y = .tuple #[.slice A n c, .int .i64 2]) rfl rfl (by kernel_rfl) rfl (dk rfl) (fun G hG => Ret.anyM (M' := (G.sub [gC, gS]).M) (T := fun y => ∃ A n c, y = .tuple #[.slice A n c, .int .i64 2]) (he ▸ encE_does (l := [{ rec0 3 with rule := ⟨⟨#[]⟩, -2 - k, 0⟩ }]) (G0 := G.sub [gC, gS]) (hG.wf.sub [gC, gS]) (RxsG.one (r := { rec0 3 with rule := ⟨⟨#[]⟩, -2 - k, 0⟩ }) (vs := (.slice none 0 0)) (ps := (.slice none 0 0)) (ss := (.slice none 0 0)) (hG.slG (ks := [gC, gS]) List.mem_cons_self (by simp) rfl (by show (1 : Nat) ≤ maxLen; unfold maxLen; omega)) ⟨ints0 _, ints0 _, ints0 _⟩ ⟨by show _ ≤ (-2 - k : Int) + 1; omega, by show (-2 - k : Int) + 1 ≤ _; omega⟩ ⟨by show _ ≤ (0 : Int) + 1; omega, by show (0 : Int) + 1 ≤ _; omega⟩) (hKs _ _ (hG.le ⟨Non, w⟩ (by simp)))))) (QOk_body _ _ _) (by first | exact .inl rfl | exact .inr ⟨_, _, rfl, rfl⟩) ?_
    rintro _ ⟨_, G3, ⟨AE, nE, cE, rfl⟩, hn3, rfl⟩
    clear hn3
    simp only [go_sem, simprocAttr]
    refine draw_ok (N := 3000) (.take 0 (.take 1 (.take 2 (.take 3 (.take 5 (.take 6 (.take 7 (.take 8 (.alt 4 (.take 9 (.take 10 (.take 11 (.take 12 (.take 13 (.take 14 (.take 15 (.take 16 (.take 17 (.take 18 .done)))))))))) .last))))))))) [] (QOk_body _ _ _) follows_mixed (by kernel_rfl) (by kernel_rfl) ?_
    simp only [go_sem, simprocAttr]
    refine take_lit (m := 8) rfl tySlice34 tySize33 rfl rfl (dk rfl) rfl (by decide) ?_
    simp only [go_sem, simprocAttr]
    refine take_lit (m := 8) rfl tySlice36 tySize35 rfl rfl (dk rfl) rfl (by decide) ?_
    simp only [go_sem, simprocAttr]
    refine anyc_ok (N := 3000) (call_does (fun y _ => y = .int .i64 2) rfl rfl (by kernel_rfl) rfl (dk rfl) (fun G hG => Ret.anyM (M' := (G.sub [gS]).M) (T := fun y => y = .int .i64 2) (by have h9 := chkRec_does (r := { rec0 3 with rule := ⟨⟨#[]⟩, -2 - k, 0⟩ }) (vs := (.slice none 0 0)) (ps := (.slice none 0 0)) (ss := (.slice none 0 0)) (G0 := G.sub [gS]) (hG.wf.sub [gS]) ⟨ints0 _, ints0 _, ints0 _⟩ (hKs _ _ (hG.le ⟨Non, w⟩ (by simp))) ⟨by show _ ≤ (-2 - k : Int) + 1; omega, by show (-2 - k : Int) + 1 ≤ _; omega⟩ ⟨by show _ ≤ (0 : Int) + 1; omega, by show (0 : Int) + 1 ≤ _; omega⟩; rw [hc] at h9; exact h9))) (QOk_body _ _ _) rfl (by first | exact .inl rfl | exact .inr ⟨_, _, rfl, rfl⟩) ?_
    rintro _ ⟨_, G4, rfl, hn4, rfl⟩
    clear hn4
    simp only [go_sem, simprocAttr]
    refine take_lit (m := 8) rfl tySlice36 tySize35 rfl rfl (dk rfl) rfl (by decide) ?_
    simp only [go_sem, simprocAttr]
    refine fin_ret (G := ⟨Non, w⟩) Tryd.results3 ?_
    simp only [go_sem, simprocAttr]
    intro aa w' _ hle
    rfl
  · have hc : chk ({ rec0 (15 + k) with id := 0 }) = 3 := odd_9 k0 k1
    have he : (encR [{ rec0 (15 + k) with id := 0 }]).2 = 3 := (encR_one (by rw [hc]; decide)).trans hc
    simp only [go_sem, simprocAttr]
    refine plain_ok (N := 3000) (lit_elem_does (m := 9) rfl tySlice34 tySize33 rfl rfl (dk rfl) rfl (by decide)) (QOk_body _ _ _) (by first | exact .inl rfl | exact .inr ⟨_, _, rfl, rfl⟩) ?_
    rintro _ rfl
    simp only [go_sem, simprocAttr]
    intro gC
    refine plain_ok (N := 3000) (call_does (fun y _ => ∃ A n c, y = .tuple #[.slice A n c, .int .i64 3]) rfl rfl (by kernel_rfl) rfl (dk rfl) (fun G hG => Ret.anyM (M' := (G.sub [gC, gS]).M) (T := fun y => ∃ A n c, y = .tuple #[.slice A n c, .int .i64 3]) (he ▸ encE_does (l := [{ rec0 (15 + k) with id := 0 }]) (G0 := G.sub [gC, gS]) (hG.wf.sub [gC, gS]) (RxsG.one (r := { rec0 (15 + k) with id := 0 }) (vs := (.slice none 0 0)) (ps := (.slice none 0 0)) (ss := (.slice none 0 0)) (hG.slG (ks := [gC, gS]) List.mem_cons_self (by simp) rfl (by show (1 : Nat) ≤ maxLen; unfold maxLen; omega)) ⟨ints0 _, ints0 _, ints0 _⟩ ⟨by show _ ≤ (0 : Int) + 1; omega, by show (0 : Int) + 1 ≤ _; omega⟩ ⟨by show _ ≤ (0 : Int) + 1; omega, by show (0 : Int) + 1 ≤ _; omega⟩) (hKs _ _ (hG.le ⟨Non, w⟩ (by simp)))))) (QOk_body _ _ _) (by first | exact .inl rfl | exact .inr ⟨_, _, rfl, rfl⟩) ?_
    rintro _ ⟨_, G3, ⟨AE, nE, cE, rfl⟩, hn3, rfl⟩
    clear hn3
    simp only [go_sem, simprocAttr]
    refine draw_ok (N := 3000) (.take 0 (.take 1 (.take 2 (.take 3 (.take 5 (.take 6 (.take 7 (.take 8 (.alt 4 (.take 9 (.take 10 (.take 11 (.take 12 (.take 13 (.take 14 (.take 15 (.take 16 (.take 17 (.take 18 .done)))))))))) .last))))))))) [] (QOk_body _ _ _) follows_mixed (by kernel_rfl) (by kernel_rfl) ?_
    simp only [go_sem, simprocAttr]
    refine take_lit (m := 9) rfl tySlice34 tySize33 rfl rfl (dk rfl) rfl (by decide) ?_
    simp only [go_sem, simprocAttr]
    refine take_lit (m := 9) rfl tySlice36 tySize35 rfl rfl (dk rfl) rfl (by decide) ?_
    simp only [go_sem, simprocAttr]
    refine anyc_ok (N := 3000) (call_does (fun y _ => y = .int .i64 3) rfl rfl (by kernel_rfl) rfl (dk rfl) (fun G hG => Ret.anyM (M' := (G.sub [gS]).M) (T := fun y => y = .int .i64 3) (by have h9 := chkRec_does (r := { rec0 (15 + k) with id := 0 }) (vs := (.slice none 0 0)) (ps := (.slice none 0 0)) (ss := (.slice none 0 0)) (G0 := G.sub [gS]) (hG.wf.sub [gS]) ⟨ints0 _, ints0 _, ints0 _⟩ (hKs _ _ (hG.le ⟨Non, w⟩ (by simp))) ⟨by show _ ≤ (0 : Int) + 1; omega, by show (0 : Int) + 1 ≤ _; omega⟩ ⟨by show _ ≤ (0 : Int) + 1; omega, by show (0 : Int) + 1 ≤ _; omega⟩; rw [hc] at h9; exact h9))) (QOk_body _ _ _) rfl (by first | exact .inl rfl | exact .inr ⟨_, _, rfl, rfl⟩) ?_
    rintro _ ⟨_, G4, rfl, hn4, rfl⟩
    clear hn4
    simp only [go_sem, simprocAttr]
    refine take_lit (m := 9) rfl tySlice36 tySize35 rfl rfl (dk rfl) rfl (by decide) ?_
    simp only [go_sem, simprocAttr]
    refine fin_ret (G := ⟨Non, w⟩) Tryd.results3 ?_
    simp only [go_sem, simprocAttr]
    intro aa w' _ hle
    rfl
theorem recordBare_walk (a : Int) (ha : i64 a) (b : Int) (hb : i64 b) {w : World} (hK : KindsG ⟨Non, w⟩) : Calls Tryd.prog 3 #[.int .i64 a, .int .i64 b] w fun e w' => e = .returned (.bool true) ∧ Below w.heap.size w w' :=
  (recordBare_ret a ha b hb hK).mono fun e w' ⟨v, he, hv, hc⟩ => ⟨by rw [he, hv], hc.below⟩
end Go.Proofs.YtohdfcnjcpjdcaaDoor
