/- Which records may be written, in plain words; lists of records as bytes. Conditions: as each law states them. -/
import Derived.Test.YtohdfcnjcpjdcaaDoorQ6q
namespace Go.Proofs.YtohdfcnjcpjdcaaDoor
open Go.RowKit
theorem fitsB_iff {m : Int} {l : List Int} : fitsB m l = true ↔ ∀ n ∈ l, 0 ≤ n ∧ n ≤ m := by
  unfold fitsB
  rw [Bool.not_eq_true', List.any_eq_false]
  constructor
  · intro h n hn
    have := h n hn
    simp only [Bool.or_eq_true, decide_eq_true_eq] at this
    omega
  · intro h n hn
    have := h n hn
    simp only [Bool.or_eq_true, decide_eq_true_eq]
    omega
theorem namesB_iff {s : List Int} {l : List ByteArray} : namesB s l = true ↔ (s.length < 256 ∧ ∀ z ∈ s, 0 ≤ z ∧ z < 256) ∧ ∀ t ∈ l, t.size < 256 := by
  unfold namesB
  rw [Bool.and_eq_true, Bool.and_eq_true, decide_eq_true_eq, fitsB_iff, Bool.not_eq_true', List.any_eq_false]
  constructor
  · rintro ⟨⟨h1, h2⟩, h3⟩
    refine ⟨⟨by omega, fun z hz => ?_⟩, fun t ht => ?_⟩
    · have := h2 z hz; omega
    · have := h3 t ht
      simp only [decide_eq_true_eq] at this
      omega
  · rintro ⟨⟨h1, h2⟩, h3⟩
    refine ⟨⟨by omega, fun z hz => ?_⟩, fun t ht => ?_⟩
    · have := h2 z hz; omega
    · have := h3 t ht
      simp only [decide_eq_true_eq]
      omega
theorem mem3 {α : Type} {p : α → Prop} {a b c : α} : (∀ x ∈ [a, b, c], p x) ↔ p a ∧ p b ∧ p c := by simp
theorem mem5 {α : Type} {p : α → Prop} {a b c d e : α} : (∀ x ∈ [a, b, c, d, e], p x) ↔ p a ∧ p b ∧ p c ∧ p d ∧ p e := by simp
theorem noT_iff (t : ByteArray) : (t.toList == noT.toList) = true ↔ t = noT := by rw [strE, decide_eq_true_eq, strE_iff]
theorem toL_inj {a b : ByteArray} (h : a.toList = b.toList) : a = b := by
  rw [ByteArray.toList_eq, ByteArray.toList_eq] at h
  obtain ⟨⟨x⟩⟩ := a
  obtain ⟨⟨y⟩⟩ := b
  exact congrArg (fun l => ByteArray.mk (Array.mk l)) h
theorem ruleB_iff (a b : Rul) : ruleB a b = true ↔ a = b := by
  obtain ⟨a1, a2, a3⟩ := a
  obtain ⟨b1, b2, b3⟩ := b
  unfold ruleB
  simp only [Bool.and_eq_true, beq_iff_eq, Rul.mk.injEq]
  constructor
  · rintro ⟨h1, h2, h3⟩
    exact ⟨toL_inj h1, h2, h3⟩
  · rintro ⟨rfl, rfl, rfl⟩
    exact ⟨rfl, rfl, rfl⟩
theorem askB_iff (a b : Ask) : askB a b = true ↔ a = b := by
  obtain ⟨a1, a2, a3⟩ := a
  obtain ⟨b1, b2, b3⟩ := b
  unfold askB
  simp only [Bool.and_eq_true, beq_iff_eq, Ask.mk.injEq]
theorem or_imp {a b : Bool} {p : Prop} (h : b = true ↔ p) : (a || b) = true ↔ (a = false → p) := by
  rw [Bool.or_eq_true, h]
  cases a <;> simp
theorem bareB_iff {r : Rec} : bareB (kd r.kind) r = true ↔ Bare r := by
  unfold bareB b4B
  simp only [Bool.and_eq_true]
  rw [or_imp (p := r.id = 0) decide_eq_true_iff, or_imp (p := r.n = 0) decide_eq_true_iff, or_imp (noT_iff r.name), or_imp (noT_iff r.key), or_imp (ruleB_iff r.rule noR), or_imp (empty_iff r.ver), or_imp (askB_iff r.ask noA), or_imp (nothing_iff r.part),
    or_imp (p := r.secs = []) (by rw [decide_eq_true_iff]; constructor; · intro h; exact List.eq_nil_of_length_eq_zero (by omega)
                                  · intro h; rw [h]; rfl), or_imp (p := r.vol = 0) decide_eq_true_iff, or_imp (p := r.at_ = 0) decide_eq_true_iff]
  constructor
  · rintro ⟨⟨⟨⟨⟨⟨⟨⟨⟨⟨h1, h2⟩, h3⟩, h4⟩, h5⟩, h6⟩, h7⟩, h8⟩, h9⟩, h10⟩, h11⟩
    exact ⟨h1, h3, h4, h2, h5, h6, h7, h8, h9, h10, h11⟩
  · rintro ⟨h1, h3, h4, h2, h5, h6, h7, h8, h9, h10, h11⟩
    exact ⟨⟨⟨⟨⟨⟨⟨⟨⟨⟨h1, h2⟩, h3⟩, h4⟩, h5⟩, h6⟩, h7⟩, h8⟩, h9⟩, h10⟩, h11⟩
theorem kindB_iff {r : Rec} : kindB r = false ↔ 1 ≤ r.kind ∧ r.kind ≤ 14 := by
  unfold kindB
  rw [Bool.or_eq_false_iff, decide_eq_false_iff_not, decide_eq_false_iff_not]
  omega
theorem chk_iff {r : Rec} : chk r = 0 ↔ okRc r := by
  rw [okRc_iff]
  have hbf : ∀ b : Bool, b = false ∨ b = true := fun b => by cases b <;> simp
  constructor
  · intro h
    unfold chk at h
    rcases hbf (kindB r) with hk | hk
    · rw [if_neg (by rw [hk]; decide)] at h
      rcases hbf (rangeB r) with hr | hr
      · rw [if_neg (by rw [hr]; decide)] at h
        split at h
        · exact absurd h (by decide)
        · rename_i hn
          split at h
          · exact absurd h (by decide)
          · rename_i hb
            have hb' : bareB (kd r.kind) r = true := (hbf _).resolve_left hb
            refine ⟨kindB_iff.1 hk, ?_, bareB_iff.1 hb'⟩
            unfold rangeB at hr
            simp only [Bool.or_eq_false_iff, Bool.not_eq_false'] at hr
            obtain ⟨⟨⟨h1, h2⟩, h3⟩, h4⟩ := hr
            unfold oneB at h1
            unfold twoB at h2
            unfold threeB at h3
            unfold fourB at h4
            rw [Bool.and_eq_true, Bool.and_eq_true, decide_eq_true_eq, decide_eq_true_eq] at h4
            rw [fitsB_iff, mem5] at h1 h2
            rw [fitsB_iff, mem3] at h3
            rw [fitsB_iff, mem5] at h4
            simp only [Bool.not_eq_true, Bool.or_eq_false_iff, Bool.not_eq_false'] at hn
            obtain ⟨⟨n1, n2⟩, n3⟩ := hn
            obtain ⟨m1, m2⟩ := namesB_iff.1 n1
            obtain ⟨m3, _⟩ := namesB_iff.1 n2
            obtain ⟨m4, _⟩ := namesB_iff.1 n3
            rw [mem5] at m2
            obtain ⟨a1, a2, a3, a4, a5⟩ := h1
            obtain ⟨b1, b2, b3, b4, b5⟩ := h2
            obtain ⟨c1, c2, c3⟩ := h3
            obtain ⟨⟨⟨d1, d2, d3, d4, d5⟩, d6⟩, d7⟩ := h4
            obtain ⟨t1, t2, t3, t4, t5⟩ := m2
            exact ⟨by omega, t1, t2, by omega, ⟨t3, by omega, by omega⟩, ⟨by omega, t4, t5, trivial, trivial, by omega, by omega, by omega, m3, by omega, by omega, by omega⟩, ⟨by omega, by omega, by omega⟩, ⟨by omega, by omega, m4⟩, m1, by omega, by omega⟩
      · rw [if_pos hr] at h
        exact absurd h (by decide)
    · rw [if_pos hk] at h
      exact absurd h (by decide)
  · rintro ⟨hk, f, b⟩
    have hk' := kindB_iff.2 hk
    obtain ⟨f1, f2, f3, f4, ⟨g1, g2, g3⟩, ⟨v1, v2, v3, _, _, v4, v5, v6, v7, v8, v9, v10⟩, ⟨a1, a2, a3⟩, ⟨p1, p2, p3⟩, f9, f10, f11⟩ := f
    have hr : rangeB r = false := by
      have h1 : oneB r = true := by unfold oneB; rw [fitsB_iff, mem5]; exact ⟨by omega, by omega, by omega, by omega, by omega⟩
      have h2 : twoB r = true := by unfold twoB; rw [fitsB_iff, mem5]; exact ⟨by omega, by omega, by omega, by omega, by omega⟩
      have h3 : threeB r = true := by unfold threeB; rw [fitsB_iff, mem3]; exact ⟨by omega, by omega, by omega⟩
      have h4 : fourB r = true := by
        unfold fourB
        rw [Bool.and_eq_true, Bool.and_eq_true, decide_eq_true_eq, decide_eq_true_eq, fitsB_iff, mem5]
        exact ⟨⟨⟨by omega, by omega, by omega, by omega, by omega⟩, by omega⟩, by omega⟩
      unfold rangeB
      rw [h1, h2, h3, h4]
      rfl
    have n1 : namesB r.secs [r.name, r.key, r.rule.pre, r.ver.bucket, r.ver.key] = true := namesB_iff.2 ⟨f9, by rw [mem5]; exact ⟨f2, f3, g1, v2, v3⟩⟩
    have n2 : namesB r.ver.secs [] = true := namesB_iff.2 ⟨v7, fun _ h => absurd h List.not_mem_nil⟩
    have n3 : namesB r.part.secs [] = true := namesB_iff.2 ⟨p3, fun _ h => absurd h List.not_mem_nil⟩
    unfold chk
    rw [if_neg (by rw [hk']; decide), if_neg (by rw [hr]; decide), if_neg (by rw [n1, n2, n3]; decide), if_neg (by rw [bareB_iff.2 b]; decide)]
end Go.Proofs.YtohdfcnjcpjdcaaDoor
