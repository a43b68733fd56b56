/- What a state is that may be, in plain words. Conditions: none. -/
import Derived.Test.YtohdfcnjcpjdcaaGreatS23w
namespace Go.Proofs.YtohdfcnjcpjdcaaGreat
open Go.RowKit
set_option linter.unusedSimpArgs false
theorem bool_no {b : Bool} (h : ¬ b = true) : b = false := by cases b with | true => exact absurd rfl h | false => rfl
/-! ### sectors that nobody has -/
def Fr (u l : List Int) : Prop := (∀ x ∈ l, offSec x = false ∧ x ∉ u) ∧ l.Nodup
theorem Fr.nil (u : List Int) : Fr u [] := ⟨fun x hx => (by cases hx), List.nodup_nil⟩
theorem fr_app {u a b : List Int} : Fr u (a ++ b) ↔ Fr u a ∧ Fr (u ++ a) b := by
 unfold Fr
 rw [List.nodup_append]
 constructor
 ·rintro ⟨h1, h2, h3, h4⟩
  exact ⟨⟨fun x hx => h1 x (List.mem_append_left _ hx), h2⟩, fun x hx => ⟨(h1 x (List.mem_append_right _ hx)).1, fun e => (List.mem_append.1 e).elim (h1 x (List.mem_append_right _ hx)).2 fun e => h4 x e x hx rfl⟩, h3⟩
 ·rintro ⟨⟨h1, h2⟩, h3, h4⟩
  exact ⟨fun x hx => (List.mem_append.1 hx).elim (h1 x) fun hx => ⟨(h3 x hx).1, fun e => (h3 x hx).2 (List.mem_append_left _ e)⟩, h2, h4, fun x hx y hy e => (h3 y hy).2 (List.mem_append_right _ (e ▸ hx))⟩
theorem takeL_iff : ∀ (l u : List Int), ((takeL u l).1 = true ↔ Fr u l) ∧ ((takeL u l).1 = true → (takeL u l).2 = u ++ l)
 | [], u => ⟨⟨fun _ => Fr.nil u, fun _ => rfl⟩, fun _ => by simp [takeL]⟩
 | n :: r, u => by
  obtain ⟨h1, h2⟩ := takeL_iff r (u ++ [n])
  have hs : Fr u (n :: r) ↔ Fr u [n] ∧ Fr (u ++ [n]) r := fr_app (a := [n])
  have h0 : Fr u [n] ↔ ¬ (offSec n = true ∨ n ∈ u) := by
   unfold Fr
   simp only [List.mem_singleton, forall_eq, List.nodup_cons, List.not_mem_nil, not_false_eq_true, List.nodup_nil, and_true, not_or, Bool.not_eq_true]
  unfold takeL
  by_cases q : offSec n = true ∨ n ∈ u
  ·rw [if_pos q, hs, h0]
   exact ⟨⟨fun h => (by cases h), fun h => absurd q h.1⟩, fun h => by cases h⟩
  ·rw [if_neg q, hs, h0]
   exact ⟨h1.trans ⟨fun h => ⟨q, h⟩, fun h => h.2⟩, fun h => by rw [h2 h]; simp⟩
theorem takeU_iff (u l : List Int) (n : Int) : ((takeU u l n).1 = true ↔ (l.length : Int) = secsOf n ∧ Fr u l) ∧ ((takeU u l n).1 = true → (takeU u l n).2 = u ++ l) := by
 unfold takeU
 by_cases q : (l.length : Int) = secsOf n
 ·rw [if_pos q]
  exact ⟨(takeL_iff l u).1.trans ⟨fun h => ⟨q, h⟩, fun h => h.2⟩, (takeL_iff l u).2⟩
 ·rw [if_neg q]
  exact ⟨⟨fun h => (by cases h), fun h => absurd h.1 q⟩, fun h => by cases h⟩
/-! ### a version -/
def Tier0 (s : Sta) (v : Ver) : Prop := (v.tier = 1 ∧ hotNone v = true ∧ (v.secs.length : Int) = secsOf v.size) ∨ (v.tier = 2 ∧ taped s v = true ∧ v.till = 0 ∧ v.secs = []) ∨
 (v.tier = 3 ∧ taped s v = true ∧ 0 ≤ v.till ∧ v.till ≤ 1073742824 ∧ (v.secs.length : Int) = secsOf v.size)
def Snd0 (s : Sta) (v : Ver) : Prop := verOut s v = false ∧ ((v.marker = true ∧ markB v = true) ∨ (v.marker = false ∧ 0 ≤ v.size ∧ v.size ≤ 600 ∧ Tier0 s v))
theorem len0 {l : List Int} : (l.length : Int) = 0 ↔ l = [] := by
 rw [← List.length_eq_zero_iff]
 omega
theorem tieredU_iff (s : Sta) (v : Ver) (u : List Int) : ((tieredU s v u).1 = true ↔ Tier0 s v ∧ Fr u v.secs) ∧ ((tieredU s v u).1 = true → (tieredU s v u).2 = u ++ v.secs) := by
 obtain ⟨t1, t2⟩ := takeU_iff u v.secs v.size
 unfold tieredU Tier0
 by_cases q1 : v.tier = 1
 ·rw [if_pos q1]
  by_cases q : hotNone v = true
  ·rw [if_pos q]
   refine ⟨t1.trans ⟨fun h => ⟨.inl ⟨q1, q, h.1⟩, h.2⟩, fun h => ?_⟩, t2⟩
   rcases h.1 with ⟨_, _, e⟩ | ⟨e, _⟩ | ⟨e, _⟩
   ·exact ⟨e, h.2⟩
   ·omega
   ·omega
  ·rw [if_neg q]
   refine ⟨⟨fun h => (by cases h), fun h => ?_⟩, fun h => by cases h⟩
   rcases h.1 with ⟨_, e, _⟩ | ⟨e, _⟩ | ⟨e, _⟩
   ·exact absurd e q
   ·omega
   ·omega
 ·rw [if_neg q1]
  by_cases q2 : v.tier = 2
  ·rw [if_pos q2]
   simp only [Bool.and_eq_true, decide_eq_true_eq, len0]
   refine ⟨⟨fun h => ⟨.inr (.inl ⟨q2, h.1.1, h.1.2, h.2⟩), by rw [h.2]; exact Fr.nil u⟩, fun h => ?_⟩, fun h => by rw [h.2]; simp⟩
   rcases h.1 with ⟨e, _⟩ | ⟨_, e1, e2, e3⟩ | ⟨e, _⟩
   ·omega
   ·exact ⟨⟨e1, e2⟩, e3⟩
   ·omega
  ·rw [if_neg q2]
   by_cases q3 : v.tier = 3
   ·rw [if_pos q3]
    by_cases q : ((taped s v && decide (0 ≤ v.till)) && decide (v.till ≤ 1073742824)) = true
    ·rw [if_pos q]
     simp only [Bool.and_eq_true, decide_eq_true_eq] at q
     refine ⟨t1.trans ⟨fun h => ⟨.inr (.inr ⟨q3, q.1.1, q.1.2, q.2, h.1⟩), h.2⟩, fun h => ?_⟩, t2⟩
     rcases h.1 with ⟨e, _⟩ | ⟨e, _⟩ | ⟨_, _, _, _, e⟩
     ·omega
     ·omega
     ·exact ⟨e, h.2⟩
    ·rw [if_neg q]
     refine ⟨⟨fun h => (by cases h), fun h => ?_⟩, fun h => by cases h⟩
     rcases h.1 with ⟨e, _⟩ | ⟨e, _⟩ | ⟨_, e1, e2, e3, _⟩
     ·omega
     ·omega
     ·exact absurd (by simp only [Bool.and_eq_true, decide_eq_true_eq]; exact ⟨⟨e1, e2⟩, e3⟩) q
   ·rw [if_neg q3]
    refine ⟨⟨fun h => (by cases h), fun h => ?_⟩, fun h => by cases h⟩
    rcases h.1 with ⟨e, _⟩ | ⟨e, _⟩ | ⟨e, _⟩ <;> omega
theorem soundU_iff (s : Sta) (v : Ver) (u : List Int) : ((soundU s v u).1 = true ↔ Snd0 s v ∧ Fr u v.secs) ∧ ((soundU s v u).1 = true → (soundU s v u).2 = u ++ v.secs) := by
 obtain ⟨t1, t2⟩ := tieredU_iff s v u
 unfold soundU Snd0
 by_cases q1 : verOut s v = true
 ·rw [if_pos q1]
  exact ⟨⟨fun h => (by cases h), fun h => by rw [q1] at h; exact absurd h.1.1 (by simp)⟩, fun h => by cases h⟩
 ·rw [if_neg q1]
  have q1' := bool_no q1
  by_cases q2 : v.marker = true
  ·rw [if_pos q2]
   have hs : markB v = true → v.secs = [] := fun h => by
    unfold markB at h
    simp only [Bool.and_eq_true, decide_eq_true_eq, len0] at h
    exact h.1.1.1.2
   refine ⟨⟨fun h => ⟨⟨q1', .inl ⟨q2, h⟩⟩, by rw [hs h]; exact Fr.nil u⟩, fun h => ?_⟩, fun h => by rw [hs h]; simp⟩
   rcases h.1.2 with ⟨_, e⟩ | ⟨e, _⟩
   ·exact e
   ·rw [q2] at e; cases e
  ·rw [if_neg q2]
   have q2' := bool_no q2
   by_cases q3 : (decide (0 ≤ v.size) && decide (v.size ≤ 600)) = true
   ·rw [if_pos q3]
    simp only [Bool.and_eq_true, decide_eq_true_eq] at q3
    refine ⟨t1.trans ⟨fun h => ⟨⟨q1', .inr ⟨q2', q3.1, q3.2, h.1⟩⟩, h.2⟩, fun h => ?_⟩, t2⟩
    rcases h.1.2 with ⟨e, _⟩ | ⟨_, _, _, e⟩
    ·exact absurd e q2
    ·exact ⟨e, h.2⟩
   ·rw [if_neg q3]
    refine ⟨⟨fun h => (by cases h), fun h => ?_⟩, fun h => by cases h⟩
    rcases h.1.2 with ⟨e, _⟩ | ⟨_, e1, e2, _⟩
    ·exact absurd e q2
    ·exact absurd (by simp only [Bool.and_eq_true, decide_eq_true_eq]; exact ⟨e1, e2⟩) q3
/-! ### the versions -/
/-- keys of those without a number of their own -/
def nulK (l : List Ver) : List (ByteArray × ByteArray) := (l.filter (·.null)).map keyB
def secsV (l : List Ver) : List Int := l.flatMap (·.secs)
structure VU (s : Sta) (p : Option Ver) (nl : List (ByteArray × ByteArray)) (u : List Int) (l : List Ver) : Prop where
 snd : ∀ v ∈ l, Snd0 s v
 ids : (p.toList ++ l).Pairwise fun a b => a.id < b.id
 nul : (nulK l).Nodup ∧ ∀ k ∈ nulK l, k ∉ nl
 fr : Fr u (secsV l)
theorem nulK_cons (v : Ver) (l : List Ver) : nulK (v :: l) = (if v.null = true then [keyB v] else []) ++ nulK l := by
 unfold nulK
 rw [List.filter_cons]
 split <;> rfl
theorem versU_iff (s : Sta) : ∀ (l : List Ver) (p : Option Ver) (nl : List (ByteArray × ByteArray)) (u : List Int), ((versU s p nl u l).1 = true ↔ VU s p nl u l) ∧ ((versU s p nl u l).1 = true → (versU s p nl u l).2 = u ++ secsV l)
 | [], p, nl, u => ⟨⟨fun _ => ⟨fun v hv => (by cases hv), by cases p <;> simp, ⟨List.nodup_nil, fun k hk => by cases hk⟩, Fr.nil u⟩, fun _ => rfl⟩, fun _ => by simp [versU, secsV]⟩
 | v :: r, p, nl, u => by
  obtain ⟨s1, s2⟩ := soundU_iff s v u
  have key : VU s p nl u (v :: r) ↔ (Snd0 s v ∧ Fr u v.secs) ∧ verGe p v = false ∧ ((v.null && hasK (keyB v) nl) = false) ∧ VU s (some v) (mark (keyB v) v.null nl) (u ++ v.secs) r := by
   constructor
   ·rintro ⟨h1, h2, h3, h4⟩
    rw [show secsV (v :: r) = v.secs ++ secsV r from rfl, fr_app] at h4
    rw [nulK_cons] at h3
    refine ⟨⟨h1 v List.mem_cons_self, h4.1⟩, ?_, ?_, ⟨fun x hx => h1 x (List.mem_cons_of_mem _ hx), ?_, ⟨(List.nodup_append.1 h3.1).2.1, fun k hk hm => ?_⟩, h4.2⟩⟩
    ·cases p with
     | none => rfl
     | some q => exact decide_eq_false (by have := (List.pairwise_cons.1 h2).1 v (by simp); omega)
    ·cases hn : v.null with
     | false => rfl
     | true =>
      rw [hn] at h3
      rw [Bool.true_and]
      exact bool_no fun e => h3.2 (keyB v) (by simp) (hasK_iff.1 e)
    ·cases p with
     | none => exact h2
     | some q => exact (List.pairwise_cons.1 h2).2
    ·rcases (mark_mem ..).1 hm with ⟨rfl, hn⟩ | hm
     ·rw [hn] at h3
      exact (List.nodup_append.1 h3.1).2.2 (keyB v) (by simp) (keyB v) hk rfl
     ·exact h3.2 k (List.mem_append_right _ hk) hm
   ·rintro ⟨⟨a1, a2⟩, a3, a4, h1, h2, h3, h4⟩
    refine ⟨fun x hx => ?_, ?_, ?_, ?_⟩
    ·rcases List.mem_cons.1 hx with rfl | hx
     ·exact a1
     ·exact h1 x hx
    ·cases p with
     | none => exact h2
     | some q =>
      have hq : q.id < v.id := by have := of_decide_eq_false a3; omega
      refine List.pairwise_cons.2 ⟨fun x hx => ?_, h2⟩
      rcases List.mem_cons.1 hx with rfl | hx
      ·exact hq
      ·exact Int.lt_trans hq ((List.pairwise_cons.1 h2).1 x hx)
    ·rw [nulK_cons]
     cases hn : v.null with
     | false =>
      rw [hn] at h3
      simp only [Bool.false_eq_true, if_false, List.nil_append]
      exact ⟨h3.1, fun k hk hm => h3.2 k hk ((mark_mem ..).2 (.inr hm))⟩
     | true =>
      rw [hn] at h3 a4
      rw [Bool.true_and] at a4
      simp only [if_true]
      refine ⟨List.nodup_cons.2 ⟨fun hm => h3.2 _ hm ((mark_mem ..).2 (.inl ⟨rfl, rfl⟩)), h3.1⟩, fun k hk hm => ?_⟩
      rcases List.mem_cons.1 hk with rfl | hk
      ·rw [hasK_iff.2 hm] at a4; cases a4
      ·exact h3.2 k hk ((mark_mem ..).2 (.inr hm))
    ·rw [show secsV (v :: r) = v.secs ++ secsV r from rfl, fr_app]
     exact ⟨a2, h4⟩
  rw [key]
  unfold versU
  by_cases q1 : (!(soundU s v u).1 || verGe p v) = true
  ·rw [if_pos q1]
   refine ⟨⟨fun h => (by cases h), fun h => ?_⟩, fun h => by cases h⟩
   rw [s1.2 h.1, h.2.1] at q1
   cases q1
  ·rw [if_neg q1]
   have q1' := bool_no q1
   simp only [Bool.or_eq_false_iff, Bool.not_eq_false'] at q1'
   by_cases q2 : (v.null && hasK (keyB v) nl) = true
   ·rw [if_pos q2]
    refine ⟨⟨fun h => (by cases h), fun h => ?_⟩, fun h => by cases h⟩
    rw [h.2.2.1] at q2
    cases q2
   ·rw [if_neg q2, s2 q1'.1]
    obtain ⟨i1, i2⟩ := versU_iff s r (some v) (mark (keyB v) v.null nl) (u ++ v.secs)
    exact ⟨i1.trans ⟨fun h => ⟨s1.1 q1'.1, q1'.2, bool_no q2, h⟩, fun h => h.2.2.2⟩, fun h => by rw [i2 h, List.append_assoc]; rfl⟩
/-! ### parts and uploads -/
def Prt0 (p : Prt) : Prop := prtOut p = false ∧ (p.secs.length : Int) = secsOf p.size
def secsP (l : List Prt) : List Int := l.flatMap (·.secs)
structure PU (p : Option Prt) (u : List Int) (l : List Prt) : Prop where
 snd : ∀ v ∈ l, Prt0 v
 ids : (p.toList ++ l).Pairwise fun a b => a.n < b.n
 fr : Fr u (secsP l)
theorem prtsU_iff : ∀ (l : List Prt) (p : Option Prt) (u : List Int), ((prtsU p u l).1 = true ↔ PU p u l) ∧ ((prtsU p u l).1 = true → (prtsU p u l).2 = u ++ secsP l)
 | [], p, u => ⟨⟨fun _ => ⟨fun v hv => (by cases hv), by cases p <;> simp, Fr.nil u⟩, fun _ => rfl⟩, fun _ => by simp [prtsU, secsP]⟩
 | v :: r, p, u => by
  obtain ⟨s1, s2⟩ := takeU_iff u v.secs v.size
  have key : PU p u (v :: r) ↔ prtOut v = false ∧ ((v.secs.length : Int) = secsOf v.size ∧ Fr u v.secs) ∧ prtGe p v = false ∧ PU (some v) (u ++ v.secs) r := by
   constructor
   ·rintro ⟨h1, h2, h4⟩
    rw [show secsP (v :: r) = v.secs ++ secsP r from rfl, fr_app] at h4
    have hv := h1 v List.mem_cons_self
    refine ⟨hv.1, ⟨hv.2, h4.1⟩, ?_, ⟨fun x hx => h1 x (List.mem_cons_of_mem _ hx), ?_, h4.2⟩⟩
    ·cases p with
     | none => rfl
     | some q => exact decide_eq_false (by have := (List.pairwise_cons.1 h2).1 v (by simp); omega)
    ·cases p with
     | none => exact h2
     | some q => exact (List.pairwise_cons.1 h2).2
   ·rintro ⟨a0, ⟨a1, a2⟩, a3, h1, h2, h4⟩
    refine ⟨fun x hx => ?_, ?_, ?_⟩
    ·rcases List.mem_cons.1 hx with rfl | hx
     ·exact ⟨a0, a1⟩
     ·exact h1 x hx
    ·cases p with
     | none => exact h2
     | some q =>
      have hq : q.n < v.n := by have := of_decide_eq_false a3; omega
      refine List.pairwise_cons.2 ⟨fun x hx => ?_, h2⟩
      rcases List.mem_cons.1 hx with rfl | hx
      ·exact hq
      ·exact Int.lt_trans hq ((List.pairwise_cons.1 h2).1 x hx)
    ·rw [show secsP (v :: r) = v.secs ++ secsP r from rfl, fr_app]
     exact ⟨a2, h4⟩
  rw [key]
  unfold prtsU
  by_cases q0 : prtOut v = true
  ·rw [if_pos q0]
   exact ⟨⟨fun h => (by cases h), fun h => by rw [h.1] at q0; cases q0⟩, fun h => by cases h⟩
  ·rw [if_neg q0]
   by_cases q1 : (!(takeU u v.secs v.size).1 || prtGe p v) = true
   ·rw [if_pos q1]
    refine ⟨⟨fun h => (by cases h), fun h => ?_⟩, fun h => by cases h⟩
    rw [s1.2 h.2.1, h.2.2.1] at q1
    cases q1
   ·rw [if_neg q1]
    have q1' := bool_no q1
    simp only [Bool.or_eq_false_iff, Bool.not_eq_false'] at q1'
    obtain ⟨i1, i2⟩ := prtsU_iff r (some v) (u ++ v.secs)
    rw [s2 q1'.1]
    exact ⟨i1.trans ⟨fun h => ⟨bool_no q0, s1.1 q1'.1, q1'.2, h⟩, fun h => h.2.2.2⟩, fun h => by rw [i2 h, List.append_assoc]; rfl⟩
def secsU (l : List Upl) : List Int := l.flatMap fun x => secsP x.parts
structure UU (s : Sta) (p : Option Upl) (u : List Int) (l : List Upl) : Prop where
 out : ∀ v ∈ l, uplOut s v = false
 prt : ∀ v ∈ l, (∀ x ∈ v.parts, Prt0 x) ∧ v.parts.Pairwise fun a b => a.n < b.n
 ids : (p.toList ++ l).Pairwise fun a b => a.id < b.id
 fr : Fr u (secsU l)
theorem uplsU_iff (s : Sta) : ∀ (l : List Upl) (p : Option Upl) (u : List Int), ((uplsU s p u l).1 = true ↔ UU s p u l) ∧ ((uplsU s p u l).1 = true → (uplsU s p u l).2 = u ++ secsU l)
 | [], p, u => ⟨⟨fun _ => ⟨fun v hv => (by cases hv), fun v hv => (by cases hv), by cases p <;> simp, Fr.nil u⟩, fun _ => rfl⟩, fun _ => by simp [uplsU, secsU]⟩
 | v :: r, p, u => by
  obtain ⟨s1, s2⟩ := prtsU_iff v.parts none u
  have key : UU s p u (v :: r) ↔ uplOut s v = false ∧ uplGe p v = false ∧ PU none u v.parts ∧ UU s (some v) (u ++ secsP v.parts) r := by
   constructor
   ·rintro ⟨h0, h1, h2, h4⟩
    rw [show secsU (v :: r) = secsP v.parts ++ secsU r from rfl, fr_app] at h4
    refine ⟨h0 v List.mem_cons_self, ?_, ⟨(h1 v List.mem_cons_self).1, (h1 v List.mem_cons_self).2, h4.1⟩, ⟨fun x hx => h0 x (List.mem_cons_of_mem _ hx), fun x hx => h1 x (List.mem_cons_of_mem _ hx), ?_, h4.2⟩⟩
    ·cases p with
     | none => rfl
     | some q => exact decide_eq_false (by have := (List.pairwise_cons.1 h2).1 v (by simp); omega)
    ·cases p with
     | none => exact h2
     | some q => exact (List.pairwise_cons.1 h2).2
   ·rintro ⟨a0, a3, ⟨b1, b2, b3⟩, h0, h1, h2, h4⟩
    refine ⟨fun x hx => ?_, fun x hx => ?_, ?_, ?_⟩
    ·rcases List.mem_cons.1 hx with rfl | hx
     ·exact a0
     ·exact h0 x hx
    ·rcases List.mem_cons.1 hx with rfl | hx
     ·exact ⟨b1, b2⟩
     ·exact h1 x hx
    ·cases p with
     | none => exact h2
     | some q =>
      have hq : q.id < v.id := by have := of_decide_eq_false a3; omega
      refine List.pairwise_cons.2 ⟨fun x hx => ?_, h2⟩
      rcases List.mem_cons.1 hx with rfl | hx
      ·exact hq
      ·exact Int.lt_trans hq ((List.pairwise_cons.1 h2).1 x hx)
    ·rw [show secsU (v :: r) = secsP v.parts ++ secsU r from rfl, fr_app]
     exact ⟨b3, h4⟩
  rw [key]
  unfold uplsU
  by_cases q0 : (uplOut s v || uplGe p v) = true
  ·rw [if_pos q0]
   refine ⟨⟨fun h => (by cases h), fun h => ?_⟩, fun h => by cases h⟩
   rw [h.1, h.2.1] at q0
   cases q0
  ·rw [if_neg q0]
   have q0' := bool_no q0
   simp only [Bool.or_eq_false_iff] at q0'
   by_cases q1 : (prtsU none u v.parts).1 = true
   ·rw [if_pos q1, s2 q1]
    obtain ⟨i1, i2⟩ := uplsU_iff s r (some v) (u ++ secsP v.parts)
    exact ⟨i1.trans ⟨fun h => ⟨q0'.1, q0'.2, s1.1 q1, h⟩, fun h => h.2.2.2⟩, fun h => by rw [i2 h, List.append_assoc]; rfl⟩
   ·rw [if_neg q1]
    exact ⟨⟨fun h => (by cases h), fun h => absurd (s1.2 h.2.2.1) q1⟩, fun h => by cases h⟩
/-! ### the queue -/
theorem allI_iff {α : Type} {bad : Nat → α → Bool} {l : List α} : allI bad l = true ↔ ∀ i a, l[i]? = some a → bad i a = false := ⟨fun h i a hi => allI_at h hi, allI_true⟩
structure QU (s : Sta) : Prop where
 out : ∀ a ∈ s.queue, askOut s a = false
 one : s.queue.Pairwise fun a b => a.ver ≠ b.ver
 len : s.queue.length ≤ 10
theorem queueB_iff {s : Sta} : queueB s = true ↔ QU s := by
 unfold queueB
 rw [Bool.and_eq_true, allI_iff, decide_eq_true_eq]
 constructor
 ·rintro ⟨h1, h2⟩
  refine ⟨fun a ha => ?_, ?_, by omega⟩
  ·obtain ⟨i, hi⟩ := List.mem_iff_getElem?.1 ha
   exact (Bool.or_eq_false_iff.1 (h1 i a hi)).1
  ·rw [List.pairwise_iff_getElem]
   intro i j hi hj hij e
   have := (Bool.or_eq_false_iff.1 (h1 j _ (List.getElem?_eq_getElem hj))).2
   unfold askTwice at this
   rw [List.any_eq_false] at this
   exact this s.queue[i] (by rw [List.mem_take_iff_getElem]; exact ⟨i, by omega, rfl⟩) (decide_eq_true e)
 ·rintro ⟨h1, h2, h3⟩
  refine ⟨fun i a hi => ?_, by omega⟩
  rw [Bool.or_eq_false_iff]
  refine ⟨h1 a (List.mem_of_getElem? hi), ?_⟩
  unfold askTwice
  rw [List.any_eq_false]
  intro b hb e
  obtain ⟨k, hk, rfl⟩ := List.mem_take_iff_getElem.1 hb
  obtain ⟨hil, rfl⟩ := List.getElem?_eq_some_iff.1 hi
  rw [List.pairwise_iff_getElem] at h2
  exact h2 k i (by omega) hil (by omega) (of_decide_eq_true e)
/-! ### all of it -/
structure Good (s : Sta) : Prop where
 n1 : 1 ≤ s.next
 n2 : s.next ≤ 1048576
 c1 : 0 ≤ s.clock
 c2 : s.clock ≤ 1073741824
 gone : goneB s.gone = true
 bkts : bktsB s.bkts = true
 snd : ∀ v ∈ s.vers, Snd0 s v
 ids : s.vers.Pairwise fun a b => a.id < b.id
 nul : (nulK s.vers).Nodup
 vlen : s.vers.length ≤ 40
 out : ∀ v ∈ s.upls, uplOut s v = false
 prt : ∀ v ∈ s.upls, (∀ x ∈ v.parts, Prt0 x) ∧ v.parts.Pairwise fun a b => a.n < b.n
 uids : s.upls.Pairwise fun a b => a.id < b.id
 ulen : s.upls.length ≤ 4
 fr : Fr [] (secsV s.vers ++ secsU s.upls)
 queue : QU s
theorem okSt_good {s : Sta} : okSt s = true ↔ Good s := by
 rw [okSt_iff]
 obtain ⟨v1, v2⟩ := versU_iff s s.vers none [] []
 constructor
 ·intro h
  obtain ⟨hv, hl⟩ := Bool.and_eq_true_iff.1 h.vers
  have hvu := v1.1 hv
  have e2 : (versB s []).2 = secsV s.vers := by show (versU s none [] [] s.vers).2 = _; rw [v2 hv, List.nil_append]
  have hu := h.upls
  rw [e2] at hu
  obtain ⟨hu, hul⟩ := Bool.and_eq_true_iff.1 hu
  have huu := (uplsU_iff s s.upls none (secsV s.vers)).1.1 hu
  exact ⟨h.n1, h.n2, h.c1, h.c2, h.gone, h.bkts, hvu.snd, hvu.ids, hvu.nul.1, h.vers_len, huu.out, huu.prt, huu.ids, h.upls_len, fr_app.2 ⟨hvu.fr, by rw [List.nil_append]; exact huu.fr⟩, queueB_iff.1 h.queue⟩
 ·intro h
  obtain ⟨f1, f2⟩ := fr_app.1 h.fr
  rw [List.nil_append] at f2
  have hv := v1.2 ⟨h.snd, h.ids, ⟨h.nul, fun k _ hk => by cases hk⟩, f1⟩
  have e2 : (versB s []).2 = secsV s.vers := by show (versU s none [] [] s.vers).2 = _; rw [v2 hv, List.nil_append]
  have hu := (uplsU_iff s s.upls none (secsV s.vers)).1.2 ⟨h.out, h.prt, h.uids, f2⟩
  refine ⟨h.n1, h.n2, h.c1, h.c2, h.gone, h.bkts, Bool.and_eq_true_iff.2 ⟨hv, decide_eq_true (by have := h.vlen; omega)⟩, ?_, queueB_iff.2 h.queue⟩
  rw [e2]
  exact Bool.and_eq_true_iff.2 ⟨hu, decide_eq_true (by have := h.ulen; omega)⟩
end Go.Proofs.YtohdfcnjcpjdcaaGreat
/- What is found in a state that may be; changes that leave it one. Conditions: none. -/
namespace Go.Proofs.YtohdfcnjcpjdcaaGreat
open Go.RowKit
set_option linter.unusedSimpArgs false
/-! ### what is found -/
theorem hit_at {α : Type} {lt eq : α → Bool} {l : List α} {i : Nat} {x : α} (hx : l[i]? = some x) (h1 : ∀ k y, k < i → l[k]? = some y → lt y = true) (h2 : lt x = false) (h3 : eq x = true) : ahead lt l = i ∧ hit lt eq l = true := by
 have e : ahead lt l = i := ahead_is (by have := (List.getElem?_eq_some_iff.1 hx).1; omega) h1 (fun y hy => by rw [hx] at hy; cases hy; exact h2)
 refine ⟨e, ?_⟩
 unfold hit
 rw [e, hx]
 exact h3
theorem pair_get {α : Type} {R : α → α → Prop} {l : List α} (h : l.Pairwise R) {k i : Nat} {x y : α} (hk : l[k]? = some x) (hi : l[i]? = some y) (hlt : k < i) : R x y := by
 rw [List.pairwise_iff_getElem] at h
 obtain ⟨hk', rfl⟩ := List.getElem?_eq_some_iff.1 hk
 obtain ⟨hi', rfl⟩ := List.getElem?_eq_some_iff.1 hi
 exact h k i hk' hi' hlt
theorem pair_one {α : Type} {f : α → Int} {l : List α} (h : l.Pairwise fun a b => f a < f b) {k i : Nat} {x y : α} (hk : l[k]? = some x) (hi : l[i]? = some y) (e : f x = f y) : k = i := by
 rcases Nat.lt_trichotomy k i with q | q | q
 ·have := pair_get h hk hi q; omega
 ·exact q
 ·have := pair_get h hi hk q; omega
structure AskOk (l : List Ver) (a : Ask) : Prop where
 cold : ∃ v ∈ l, v.id = a.ver ∧ v.tier = 2
 d1 : 1 ≤ a.days
 d2 : a.days ≤ 1000
 c1 : 0 ≤ a.cls
 c2 : a.cls ≤ 2
theorem bkt_at {s : Sta} (h : bktsB s.bkts = true) {i : Nat} {b : Bkt} (hb : s.bkts[i]? = some b) : bktAt s b.name = i ∧ bktIn s b.name = true := by
 have hp : s.bkts.Pairwise fun a b => Op.bytesLess a.name.toList b.name.toList = true := pairwise_next (lt := fun a b : Bkt => Op.bytesLess a.name.toList b.name.toList = true) (fun a b c => less_trans _ _ _) fun k x y hx hy => bkts_less h hx hy
 refine hit_at hb (fun k y hk hy => ?_) (decide_eq_false fun q => ?_) (decide_eq_true ((cmpS_eq _ _).2 rfl))
 ·show decide (cmpS y.name b.name < 0) = true
  rw [cmpS_lt]
  exact pair_get hp hy hb hk
 ·rw [(cmpS_eq _ _).2 rfl] at q; omega
theorem bkt_hit {s : Sta} {t : ByteArray} (h : bktIn s t = true) : ∃ b, s.bkts[bktAt s t]? = some b ∧ b.name = t := by
 obtain ⟨v, hv, e⟩ := hit_some h
 exact ⟨v, hv, (cmpS_eq _ _).1 (of_decide_eq_true e)⟩
theorem bktIn_iff {s : Sta} (h : bktsB s.bkts = true) {t : ByteArray} : bktIn s t = true ↔ ∃ b ∈ s.bkts, b.name = t :=
 ⟨fun q => let ⟨v, hv, e⟩ := bkt_hit q; ⟨v, List.mem_of_getElem? hv, e⟩, fun ⟨v, hv, e⟩ => by
  obtain ⟨i, hi⟩ := List.mem_iff_getElem?.1 hv
  rw [← e]
  exact (bkt_at h hi).2⟩
/-! ### changes -/
theorem Fr.sub {u l l' : List Int} (h : Fr u l) (hs : l'.Sublist l) : Fr u l' := ⟨fun x hx => h.1 x (hs.subset hx), h.2.sublist hs⟩
end Go.Proofs.YtohdfcnjcpjdcaaGreat
