/- What is read without a fault is what is written of it: in plain words. Conditions: as each law states them. -/
import Derived.Test.YtohdfcnjcpjdcaaDoorW10q
namespace Go.Proofs.YtohdfcnjcpjdcaaDoor
open Go.RowKit
set_option linter.unusedSimpArgs false
/-- what a reader reads without a fault, a writer writes again -/
def Fix {α : Type} (rd : RS → α × RS) (wr : α → List UInt8) : Prop := ∀ s, (rd s).2.f = 0 → s.f = 0 ∧ s.l = wr (rd s).1 ++ (rd s).2.l
theorem fix_tk (k : Nat) : Fix (tk k) (fun n => numB n k) := by
  intro s h
  unfold tk at h ⊢
  by_cases hl : s.l.length < k
  · rw [if_pos hl] at h
    exfalso
    have h' : (if s.f = 0 then (5 : Int) else s.f) = 0 := h
    split at h'
    · omega
    · contradiction
  · rw [if_neg hl] at h ⊢
    refine ⟨h, ?_⟩
    have e := numB_valB (s.l.take k)
    rw [List.length_take, Nat.min_eq_left (by omega)] at e
    show s.l = numB (valB (s.l.take k)) k ++ s.l.drop k
    rw [e, List.take_append_drop]
theorem fix_tx : Fix tx txB := by
  intro s h
  unfold tx at h ⊢
  have hb := tk1_bd s
  by_cases hl : ((tk 1 s).2.l.length : Int) < (tk 1 s).1
  · rw [if_pos hl] at h
    exfalso
    obtain ⟨_, h2⟩ := fix_tk _ _ h
    have h3 := congrArg List.length h2
    rw [List.length_append, numB_len] at h3
    omega
  · rw [if_neg hl] at h ⊢
    obtain ⟨h1, h2⟩ := fix_tk 1 s h
    refine ⟨h1, ?_⟩
    have e : ((ByteArray.mk ((tk 1 s).2.l.take (tk 1 s).1.toNat).toArray).size : Int) = (tk 1 s).1 := by
      show ((((tk 1 s).2.l.take (tk 1 s).1.toNat).toArray.size : Nat) : Int) = _
      rw [List.size_toArray, List.length_take, Nat.min_eq_left (by omega)]
      omega
    show s.l = (numB ((ByteArray.mk ((tk 1 s).2.l.take (tk 1 s).1.toNat).toArray).size : Int) 1 ++ (tk 1 s).2.l.take (tk 1 s).1.toNat) ++ (tk 1 s).2.l.drop (tk 1 s).1.toNat
    rw [e, List.append_assoc, List.take_append_drop]
    exact h2
theorem fix_bt : Fix bt btB := by
  intro s h
  unfold bt at h ⊢
  have hb := tk1_bd s
  by_cases hc : (decide (1 < (tk 1 s).1) && decide ((tk 1 s).2.f = 0)) = true
  · simp only [hc, if_true] at h
    exact absurd h (by decide)
  · simp only [hc] at h ⊢
    obtain ⟨h1, h2⟩ := fix_tk 1 s h
    refine ⟨h1, ?_⟩
    have hle : (tk 1 s).1 ≤ 1 := by
      have h0 : (tk 1 s).2.f = 0 := h
      rw [h0] at hc
      simp at hc
      omega
    have e : (if decide ((tk 1 s).1 = 1) = true then (1 : Int) else 0) = (tk 1 s).1 := by
      by_cases q : (tk 1 s).1 = 1
      · rw [if_pos (decide_eq_true q)]; omega
      · rw [if_neg (by simp [q])]; omega
    show s.l = numB (if decide ((tk 1 s).1 = 1) = true then (1 : Int) else 0) 1 ++ (tk 1 s).2.l
    rw [e]
    exact h2
theorem fix_mn {α : Type} {rd : RS → α × RS} {wr : α → List UInt8} (h : Fix rd wr) {st : List α → RS → List α × RS} (hst : ∀ a s, st a s = (a ++ [(rd s).1], (rd s).2)) :
    ∀ (n : Nat) (a : List α) (s : RS), (mn st n a s).2.f = 0 → s.f = 0 ∧ ∃ xs, (mn st n a s).1 = a ++ xs ∧ xs.length = n ∧ s.l = xs.flatMap wr ++ (mn st n a s).2.l
  | 0, a, s, hf => ⟨hf, [], by simp [mn], rfl, by simp [mn]⟩
  | n + 1, a, s, hf => by
    by_cases h0 : s.f = 0
    · rw [mn, if_pos h0, hst] at hf
      obtain ⟨h1, xs, h2, h3, h4⟩ := fix_mn h hst n (a ++ [(rd s).1]) (rd s).2 hf
      obtain ⟨h5, h6⟩ := h s h1
      refine ⟨h0, (rd s).1 :: xs, ?_, by rw [List.length_cons, h3], ?_⟩
      · rw [mn, if_pos h0, hst, h2, List.append_assoc]
        rfl
      · rw [mn, if_pos h0, hst, List.flatMap_cons, List.append_assoc, ← h4]
        exact h6
    · rw [mn, if_neg h0] at hf
      exact absurd hf h0
theorem fix_mny {α : Type} {rd : RS → α × RS} {wr : α → List UInt8} (h : Fix rd wr) {st : List α → RS → List α × RS} (hst : ∀ a s, st a s = (a ++ [(rd s).1], (rd s).2)) :
    Fix (mny st []) (fun l => numB (l.length : Int) 1 ++ l.flatMap wr) := by
  intro s hf
  unfold mny at hf ⊢
  obtain ⟨h1, xs, h2, h3, h4⟩ := fix_mn h hst _ _ _ hf
  obtain ⟨h5, h6⟩ := fix_tk 1 s h1
  have hb := tk1_bd s
  refine ⟨h5, ?_⟩
  have e : ((mn st (tk 1 s).1.toNat [] (tk 1 s).2).1.length : Int) = (tk 1 s).1 := by
    rw [h2, List.nil_append, h3]
    omega
  show s.l = (numB ((mn st (tk 1 s).1.toNat [] (tk 1 s).2).1.length : Int) 1 ++ (mn st (tk 1 s).1.toNat [] (tk 1 s).2).1.flatMap wr) ++ _
  rw [e, h2, List.nil_append, List.append_assoc, ← h4]
  exact h6
theorem fix_its : Fix its itB := fix_mny (fix_tk 1) fun _ _ => rfl
theorem fix_rl : Fix rl ruB := by
  intro s h
  obtain ⟨h3, e3⟩ := fix_tk 4 _ h
  obtain ⟨h2, e2⟩ := fix_tk 4 _ h3
  obtain ⟨h1, e1⟩ := fix_tx _ h2
  refine ⟨h1, ?_⟩
  unfold ruB rl
  simp only [Int.sub_add_cancel, List.append_assoc]
  rw [← e3, ← e2]
  exact e1
theorem fixAt {α : Type} {rd : RS → α × RS} {wr : α → List UInt8} (h : Fix rd wr) {b : RS} {x : α × RS} (e : x = rd b) (hf : x.2.f = 0) : b.f = 0 ∧ b.l = wr x.1 ++ x.2.l := by
  subst e
  exact h b hf
theorem fix_pt : Fix pt ptB := by
  intro s h
  have eb : (pt s).2 = (pt3 s).2 := by simp only [pt]
  rw [eb] at h ⊢
  obtain ⟨h3, e3⟩ := fixAt (b := (pt2 s).2) (x := pt3 s) fix_its rfl h
  obtain ⟨h2, e2⟩ := fixAt (b := (pt1 s).2) (x := pt2 s) (fix_tk 2) rfl h3
  obtain ⟨h1, e1⟩ := fixAt (b := s) (x := pt1 s) (fix_tk 1) rfl h2
  refine ⟨h1, ?_⟩
  have ea : ptB (pt s).1 = (fun n => numB n 1) (pt1 s).1 ++ ((fun n => numB n 2) (pt2 s).1 ++ (itB (pt3 s).1)) := by simp only [ptB, pt]
  rw [ea, e1, e2, e3]
  simp only [List.append_assoc]
theorem fix_ak : Fix ak akB := by
  intro s h
  have eb : (ak s).2 = (ak3 s).2 := by simp only [ak]
  rw [eb] at h ⊢
  obtain ⟨h3, e3⟩ := fixAt (b := (ak2 s).2) (x := ak3 s) (fix_tk 1) rfl h
  obtain ⟨h2, e2⟩ := fixAt (b := (ak1 s).2) (x := ak2 s) (fix_tk 2) rfl h3
  obtain ⟨h1, e1⟩ := fixAt (b := s) (x := ak1 s) (fix_tk 3) rfl h2
  refine ⟨h1, ?_⟩
  have ea : akB (ak s).1 = (fun n => numB n 3) (ak1 s).1 ++ ((fun n => numB n 2) (ak2 s).1 ++ ((fun n => numB n 1) (ak3 s).1)) := by simp only [akB, ak]
  rw [ea, e1, e2, e3]
  simp only [List.append_assoc]
theorem fix_vr : Fix vr vrB := by
  intro s h
  have eb : (vr s).2 = (vr12 s).2 := by simp only [vr]
  rw [eb] at h ⊢
  obtain ⟨h12, e12⟩ := fixAt (b := (vr11 s).2) (x := vr12 s) (fix_tk 4) rfl h
  obtain ⟨h11, e11⟩ := fixAt (b := (vr10 s).2) (x := vr11 s) (fix_tk 2) rfl h12
  obtain ⟨h10, e10⟩ := fixAt (b := (vr9 s).2) (x := vr10 s) (fix_tk 1) rfl h11
  obtain ⟨h9, e9⟩ := fixAt (b := (vr8 s).2) (x := vr9 s) fix_its rfl h10
  obtain ⟨h8, e8⟩ := fixAt (b := (vr7 s).2) (x := vr8 s) (fix_tk 1) rfl h9
  obtain ⟨h7, e7⟩ := fixAt (b := (vr6 s).2) (x := vr7 s) (fix_tk 4) rfl h8
  obtain ⟨h6, e6⟩ := fixAt (b := (vr5 s).2) (x := vr6 s) (fix_tk 2) rfl h7
  obtain ⟨h5, e5⟩ := fixAt (b := (vr4 s).2) (x := vr5 s) fix_bt rfl h6
  obtain ⟨h4, e4⟩ := fixAt (b := (vr3 s).2) (x := vr4 s) fix_bt rfl h5
  obtain ⟨h3, e3⟩ := fixAt (b := (vr2 s).2) (x := vr3 s) fix_tx rfl h4
  obtain ⟨h2, e2⟩ := fixAt (b := (vr1 s).2) (x := vr2 s) fix_tx rfl h3
  obtain ⟨h1, e1⟩ := fixAt (b := s) (x := vr1 s) (fix_tk 3) rfl h2
  refine ⟨h1, ?_⟩
  have ea : vrB (vr s).1 = (fun n => numB n 3) (vr1 s).1 ++ (txB (vr2 s).1 ++ (txB (vr3 s).1 ++ (btB (vr4 s).1 ++ (btB (vr5 s).1 ++ ((fun n => numB n 2) (vr6 s).1 ++ ((fun n => numB n 4) (vr7 s).1 ++ ((fun n => numB n 1) (vr8 s).1 ++ (itB (vr9 s).1 ++ ((fun n => numB n 1) (vr10 s).1 ++ ((fun n => numB n 2) (vr11 s).1 ++ ((fun n => numB n 4) (vr12 s).1))))))))))) := by simp only [vrB, vr]
  rw [ea, e1, e2, e3, e4, e5, e6, e7, e8, e9, e10, e11, e12]
  simp only [List.append_assoc]
end Go.Proofs.YtohdfcnjcpjdcaaDoor
