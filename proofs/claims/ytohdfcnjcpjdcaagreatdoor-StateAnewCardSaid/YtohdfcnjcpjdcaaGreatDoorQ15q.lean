/- The records behind a state may be written; they make it again: in plain words. Conditions: as each law states them. -/
import Derived.Test.YtohdfcnjcpjdcaaGreatDoorQBq
import Derived.Test.YtohdfcnjcpjdcaaGreatDoorEAq
namespace Go.Proofs.YtohdfcnjcpjdcaaGreatDoor
open Go.RowKit
abbrev fewS (l : List Int) : Prop := l.length < 256 ∧ ∀ z ∈ l, 0 ≤ z ∧ z < 256
theorem frees_few (u : List Int) : (frees u 200).length ≤ 200 ∧ ∀ z ∈ frees u 200, 0 ≤ z ∧ z < 256 := by
 unfold frees
 refine ⟨?_, fun z hz => ?_⟩
 ·have := List.length_filter_le (fun i => !decide (i ∈ u)) ((List.range 200).map Int.ofNat)
  rw [List.length_map, List.length_range] at this
  exact this
 ·obtain ⟨i, hi, rfl⟩ := List.mem_map.1 (List.mem_filter.1 hz).1
  have := List.mem_range.1 hi
  exact ⟨Int.natCast_nonneg i, by show (i : Int) < 256; omega⟩
theorem sec_few (s : Sta) (n : Int) : fewS (sectorsS s n) := by
 have h : (freeS s 200).1.length ≤ 200 ∧ ∀ z ∈ (freeS s 200).1, 0 ≤ z ∧ z < 256 := by
  unfold freeS
  split
  ·split
   ·exact ⟨Nat.zero_le _, fun _ h => absurd h List.not_mem_nil⟩
   ·exact frees_few _
  ·exact ⟨Nat.zero_le _, fun _ h => absurd h List.not_mem_nil⟩
 unfold sectorsS
 refine ⟨?_, fun z hz => h.2 z (List.mem_of_mem_take hz)⟩
 rw [List.length_take]
 omega
theorem thaw_few (s : Sta) (i : Int) : ∀ (vs : List Ver) (acc : List Int), fewS acc → fewS (thawL s i acc vs)
 | [], acc, h => h
 | v :: r, acc, h => by
  rw [thawL]
  refine thaw_few s i r _ ?_
  split
  ·exact sec_few s v.size
  ·exact h
theorem few_nil : fewS [] := ⟨by decide, fun _ h => absurd h List.not_mem_nil⟩
theorem nameQ_size (n : Int) : (nameS n).size < 256 := by unfold nameS; split <;> (show (1 : Nat) < 256; decide)
theorem keyQ_size (n : Int) : (keyS n).size < 256 := by
 unfold keyS
 split
 ·show (1 : Nat) < 256; decide
 ·split
  ·show (3 : Nat) < 256; decide
  ·split
   ·show (3 : Nat) < 256; decide
   ·split
    ·show (5 : Nat) < 256; decide
    ·show (1 : Nat) < 256; decide
theorem prefQ_size (n : Int) : (prefS n).size < 256 := by
 unfold prefS
 split
 ·show (0 : Nat) < 256; decide
 ·split
  ·show (1 : Nat) < 256; decide
  ·show (2 : Nat) < 256; decide
theorem idS_bd {s : Sta} (h : okSta s) (n : Int) : 0 ≤ idS s n ∧ idS s n < 16777216 := by
 unfold idS
 cases hv : s.vers[(pick n s.vers.length).toNat]? with
 | some v => exact (h.2.2.2.1.2 v (List.mem_of_getElem? hv)).1
 | none =>
  have := pick_bd n 9 (by decide)
  show 0 ≤ 1 + pick n 9 ∧ 1 + pick n 9 < 16777216
  omega
theorem upidS_bd {s : Sta} (h : okSta s) (n : Int) : 0 ≤ upidS s n ∧ upidS s n < 16777216 := by
 unfold upidS
 cases hv : s.upls[(pick n s.upls.length).toNat]? with
 | some v => exact (h.2.2.2.2.1.2 v (List.mem_of_getElem? hv)).1
 | none => exact ⟨by show (0 : Int) ≤ 1; decide, by show (1 : Int) < _; decide⟩
theorem newVQ_ok {s : Sta} (h : okSta s) (hc : 0 ≤ s.clock ∧ s.clock ≤ 1073741824) (r : Raw) : okVr (newV s r) := by
 have h1 := pick_bd r.c (s.clock + 1) (by omega)
 have h2 := pick_bd r.c 200 (by decide)
 have h3 := sec_few s (pick r.c 200)
 have hn := h.1
 unfold newV
 split
 ·exact ⟨hn, nameQ_size _, keyQ_size _, trivial, trivial, ⟨by show (0 : Int) ≤ 0; decide, by show (0 : Int) < _; decide⟩, ⟨by show 0 ≤ pick r.c (s.clock + 1); omega, by show pick r.c (s.clock + 1) < _; omega⟩, ⟨by show (0 : Int) ≤ 0; decide, by show (0 : Int) < _; decide⟩, few_nil, ⟨by show (0 : Int) ≤ 0; decide, by show (0 : Int) < _; decide⟩, ⟨by show (0 : Int) ≤ 0; decide, by show (0 : Int) < _; decide⟩, ⟨by show (0 : Int) ≤ 0; decide, by show (0 : Int) < _; decide⟩⟩
 ·exact ⟨hn, nameQ_size _, keyQ_size _, trivial, trivial, ⟨by show 0 ≤ pick r.c 200; omega, by show pick r.c 200 < _; omega⟩, ⟨by show 0 ≤ pick r.c (s.clock + 1); omega, by show pick r.c (s.clock + 1) < _; omega⟩, ⟨by show (0 : Int) ≤ 1; decide, by show (1 : Int) < _; decide⟩, h3, ⟨by show (0 : Int) ≤ 0; decide, by show (0 : Int) < _; decide⟩, ⟨by show (0 : Int) ≤ 0; decide, by show (0 : Int) < _; decide⟩, ⟨by show (0 : Int) ≤ 0; decide, by show (0 : Int) < _; decide⟩⟩
/-! ### the records of states -/
theorem recQ_ok {s : Sta} (hs : okSt s = true) (r : Raw) : okRc (recS s r) := by
 have hst := err_ok (s := s) (by unfold errSt; rw [if_pos hs])
 have hg := okSt_good.1 hs
 have hp := pick_bd r.kind 14 (by decide)
 unfold recS
 obtain ⟨k, hk⟩ : ∃ k, k = 1 + pick r.kind 14 := ⟨_, rfl⟩
 rw [← hk]
 have hkk : k = 1 ∨ k = 2 ∨ k = 3 ∨ k = 4 ∨ k = 5 ∨ k = 6 ∨ k = 7 ∨ k = 8 ∨ k = 9 ∨ k = 10 ∨ k = 11 ∨ k = 12 ∨ k = 13 ∨ k = 14 := by omega
 clear hp
 rcases hkk with rfl | rfl | rfl | rfl | rfl | rfl | rfl | rfl | rfl | rfl | rfl | rfl | rfl | rfl
 ·exact ⟨⟨by show (1 : Int) ≤ 1; decide, by show (1 : Int) ≤ 14; decide⟩, rfl, nameQ_size _, rfl, rfl, rfl, rfl, rfl, rfl, rfl, rfl, rfl⟩
 ·exact ⟨⟨by show (1 : Int) ≤ 2; decide, by show (2 : Int) ≤ 14; decide⟩, rfl, nameQ_size _, rfl, ⟨by have := pick_bd r.b 2 (by decide); show 0 ≤ 1 + pick r.b 2; omega, by have := pick_bd r.b 2 (by decide); show 1 + pick r.b 2 < _; omega⟩, rfl, rfl, rfl, rfl, rfl, rfl, rfl⟩
 ·exact ⟨⟨by show (1 : Int) ≤ 3; decide, by show (3 : Int) ≤ 14; decide⟩, rfl, nameQ_size _, rfl, rfl, ⟨prefQ_size _, ⟨by have := pick_bd r.c 12 (by decide); show 0 ≤ pick r.c 12 - 1 + 1; omega, by have := pick_bd r.c 12 (by decide); show pick r.c 12 - 1 + 1 < _; omega⟩, ⟨by have := pick_bd r.d 30 (by decide); show 0 ≤ pick r.d 30 - 1 + 1; omega, by have := pick_bd r.d 30 (by decide); show pick r.d 30 - 1 + 1 < _; omega⟩⟩, rfl, rfl, rfl, rfl, rfl, rfl⟩
 ·exact ⟨⟨by show (1 : Int) ≤ 4; decide, by show (4 : Int) ≤ 14; decide⟩, rfl, rfl, rfl, rfl, rfl, newVQ_ok hst ⟨hg.c1, hg.c2⟩ r, rfl, rfl, rfl, rfl, rfl⟩
 ·exact ⟨⟨by show (1 : Int) ≤ 5; decide, by show (5 : Int) ≤ 14; decide⟩, idS_bd hst _, rfl, rfl, rfl, rfl, rfl, rfl, rfl, rfl, rfl, rfl⟩
 ·exact ⟨⟨by show (1 : Int) ≤ 6; decide, by show (6 : Int) ≤ 14; decide⟩, idS_bd hst _, rfl, rfl, rfl, rfl, rfl, rfl, rfl, rfl, ⟨by have := pick_bd r.b 3 (by decide); show 0 ≤ pick r.b 3; omega, by have := pick_bd r.b 3 (by decide); show pick r.b 3 < _; omega⟩, ⟨by have := pick_bd r.c 1000 (by decide); show 0 ≤ pick r.c 1000; omega, by have := pick_bd r.c 1000 (by decide); show pick r.c 1000 < _; omega⟩⟩
 ·exact ⟨⟨by show (1 : Int) ≤ 7; decide, by show (7 : Int) ≤ 14; decide⟩, rfl, rfl, rfl, rfl, rfl, rfl, ⟨idS_bd hst _, ⟨by have := pick_bd r.b 9 (by decide); show 0 ≤ 1 + pick r.b 9; omega, by have := pick_bd r.b 9 (by decide); show 1 + pick r.b 9 < _; omega⟩, ⟨by have := pick_bd r.c 3 (by decide); show 0 ≤ pick r.c 3; omega, by have := pick_bd r.c 3 (by decide); show pick r.c 3 < _; omega⟩⟩, rfl, rfl, rfl, rfl⟩
 ·exact ⟨⟨by show (1 : Int) ≤ 8; decide, by show (8 : Int) ≤ 14; decide⟩, idS_bd hst _, rfl, rfl, ⟨by have := pick_bd r.b 9 (by decide); have := hg.c1; show 0 ≤ s.clock + pick r.b 9; omega, by have := pick_bd r.b 9 (by decide); have := hg.c2; show s.clock + pick r.b 9 < _; omega⟩, rfl, rfl, rfl, rfl, thaw_few _ _ _ _ few_nil, rfl, rfl⟩
 ·exact ⟨⟨by show (1 : Int) ≤ 9; decide, by show (9 : Int) ≤ 14; decide⟩, idS_bd hst _, rfl, rfl, rfl, rfl, rfl, rfl, rfl, rfl, rfl, rfl⟩
 ·exact ⟨⟨by show (1 : Int) ≤ 10; decide, by show (10 : Int) ≤ 14; decide⟩, hst.1, nameQ_size _, keyQ_size _, rfl, rfl, rfl, rfl, rfl, rfl, rfl, rfl⟩
 ·exact ⟨⟨by show (1 : Int) ≤ 11; decide, by show (11 : Int) ≤ 14; decide⟩, upidS_bd hst _, rfl, rfl, rfl, rfl, rfl, rfl, ⟨⟨by have := pick_bd r.b 5 (by decide); show 0 ≤ 1 + pick r.b 5; omega, by have := pick_bd r.b 5 (by decide); show 1 + pick r.b 5 < _; omega⟩, ⟨by have := pick_bd r.c 200 (by decide); show 0 ≤ pick r.c 200; omega, by have := pick_bd r.c 200 (by decide); show pick r.c 200 < _; omega⟩, sec_few _ _⟩, rfl, rfl, rfl⟩
 ·exact ⟨⟨by show (1 : Int) ≤ 12; decide, by show (12 : Int) ≤ 14; decide⟩, upidS_bd hst _, rfl, rfl, rfl, rfl, rfl, rfl, rfl, rfl, rfl, rfl⟩
 ·exact ⟨⟨by show (1 : Int) ≤ 13; decide, by show (13 : Int) ≤ 14; decide⟩, rfl, rfl, rfl, ⟨by have := pick_bd r.a 12 (by decide); show 0 ≤ pick r.a 12; omega, by have := pick_bd r.a 12 (by decide); show pick r.a 12 < _; omega⟩, rfl, rfl, rfl, rfl, rfl, rfl, rfl⟩
 ·exact ⟨⟨by show (1 : Int) ≤ 14; decide, by show (14 : Int) ≤ 14; decide⟩, rfl, rfl, rfl, rfl, rfl, rfl, rfl, rfl, rfl, ⟨by have := pick_bd r.a 4 (by decide); show 0 ≤ pick r.a 4; omega, by have := pick_bd r.a 4 (by decide); show pick r.a 4 < _; omega⟩, rfl⟩
/-- what records make of a state, one behind the other -/
def appAll (s : Sta) : List Rec → Option Sta
 | [] => some s
 | r :: l => if (applyS s r).2 = 0 then appAll (applyS s r).1 l else none
theorem appAll_snoc {t : Sta} {r : Rec} : ∀ {l : List Rec} {s : Sta}, appAll s l = some t → (applyS t r).2 = 0 → appAll s (l ++ [r]) = some (applyS t r).1
 | [], s, h, h0 => by
  cases h
  show (if (applyS t r).2 = 0 then appAll (applyS t r).1 [] else none) = _
  rw [if_pos h0]
  rfl
 | x :: l, s, h, h0 => by
  by_cases hx : (applyS s x).2 = 0
  ·rw [appAll, if_pos hx] at h
   show (if (applyS s x).2 = 0 then appAll (applyS s x).1 (l ++ [r]) else none) = _
   rw [if_pos hx]
   exact appAll_snoc h h0
  ·rw [appAll, if_neg hx] at h
   cases h
theorem fold_recs : ∀ (l : List Raw) (p : Sta × List Rec), okSt p.1 = true → (∀ r ∈ p.2, okRc r) → appAll startS p.2 = some p.1 →
  (∀ r ∈ (l.foldl stepS p).2, okRc r) ∧ appAll startS (l.foldl stepS p).2 = some (l.foldl stepS p).1 ∧ (l.foldl stepS p).2.length ≤ p.2.length + l.length
 | [], p, _, h2, h3 => ⟨h2, h3, Nat.le_refl _⟩
 | r :: l, p, h1, h2, h3 => by
  rw [List.foldl_cons]
  have hst : stepS p r = stepA p (recS p.1 r) (applyS p.1 (recS p.1 r)) := rfl
  by_cases h0 : (applyS p.1 (recS p.1 r)).2 = 0
  ·have e : stepS p r = ((applyS p.1 (recS p.1 r)).1, p.2 ++ [recS p.1 r]) := by rw [hst]; unfold stepA; rw [if_pos h0]
   rw [e]
   obtain ⟨a1, a2, a3⟩ := fold_recs l ((applyS p.1 (recS p.1 r)).1, p.2 ++ [recS p.1 r]) (applyS_ok h0) (fun x hx => by
    rcases List.mem_append.1 hx with hx | hx
    ·exact h2 x hx
    ·rw [List.mem_singleton.1 hx]
     exact recQ_ok h1 r) (appAll_snoc (s := startS) h3 h0)
   refine ⟨a1, a2, ?_⟩
   have : (p.2 ++ [recS p.1 r]).length = p.2.length + 1 := by simp
   rw [List.length_cons]
   dsimp only at a3
   omega
  ·have e : stepS p r = p := by rw [hst]; unfold stepA; rw [if_neg h0]
   rw [e]
   obtain ⟨a1, a2, a3⟩ := fold_recs l p h1 h2 h3
   exact ⟨a1, a2, by rw [List.length_cons]; omega⟩
theorem stateS_recs (l : List Raw) (most : Nat) : (∀ r ∈ (stateS l most).2, okRc r) ∧ appAll startS (stateS l most).2 = some (stateS l most).1 ∧ (stateS l most).2.length ≤ 2 + most := by
 obtain ⟨a1, a2, a3⟩ := fold_recs (rawsOf l most) (startS, []) start_ok (fun _ h => absurd h List.not_mem_nil) rfl
 refine ⟨a1, a2, ?_⟩
 have := rawsOf_len l most
 have h4 : (stateS l most).2.length ≤ ([] : List Rec).length + (rawsOf l most).length := a3
 rw [List.length_nil] at h4
 omega
/-! ### what is written is read -/
theorem dcM_B {l : List Rec} (h : ∀ r ∈ l, okRc r) (hn : l.length < 256) (q : List UInt8) : dcM ((numB (l.length : Int) 1 ++ l.flatMap rcB) ++ q) = (l, ⟨q, 0⟩) :=
 (rw_mny (st := stR) rw_rc (fun _ _ => rfl)).get l q ⟨hn, h⟩
theorem encR_B {l : List Rec} (h : ∀ r ∈ l, okRc r) (hn : l.length < 256) : encR l = (numB (l.length : Int) 1 ++ l.flatMap rcB, 0) := by
 unfold encR
 rw [if_neg (by omega), encL_ok l _ h]
theorem decR_back {l : List Rec} (h : ∀ r ∈ l, okRc r) (hn : l.length < 256) : decR (encR l).1 = (l, 0) := by
 have := dcM_B h hn []
 rw [List.append_nil] at this
 rw [encR_B h hn]
 unfold decR
 rw [this]
 rfl
theorem decR_more {l : List Rec} (h : ∀ r ∈ l, okRc r) (hn : l.length < 256) (b : UInt8) : (decR ((encR l).1 ++ [b])).2 = 4 := by
 have := dcM_B h hn [b]
 rw [encR_B h hn]
 unfold decR
 rw [this]
 rfl
theorem decR_torn {l : List Rec} (h : ∀ r ∈ l, okRc r) (hn : l.length < 256) {n : Nat} (hl : n < (encR l).1.length) : (decR ((encR l).1.take n)).2 = 5 := by
 rw [encR_B h hn] at hl ⊢
 have := (rw_mny (st := stR) rw_rc (fun _ _ => rfl)).torn l n ⟨hn, h⟩ hl
 have e : (dcM ((numB (l.length : Int) 1 ++ l.flatMap rcB).take n)).2 = ⟨[], 5⟩ := this
 unfold decR
 rw [e]
 rfl
theorem flatMap_leR {f : Rec → List UInt8} {K : Nat} : ∀ l : List Rec, (∀ x ∈ l, (f x).length ≤ K) → (l.flatMap f).length ≤ l.length * K
 | [], _ => by simp
 | x :: l, h => by
  have h1 := flatMap_leR l (fun y hy => h y (List.mem_cons_of_mem _ hy))
  have h2 := h x (List.mem_cons_self ..)
  rw [List.flatMap_cons, List.length_append, List.length_cons, Nat.add_mul]
  omega
theorem encR_len {l : List Rec} (h : ∀ r ∈ l, okRc r) (hn : l.length < 256) : 1 ≤ (encR l).1.length ∧ (encR l).1.length ≤ 600000 := by
 rw [encR_B h hn]
 have := flatMap_leR (f := rcB) (K := 2200) l (fun x hx => rcB_len (h x hx))
 show 1 ≤ (numB (l.length : Int) 1 ++ l.flatMap rcB).length ∧ (numB (l.length : Int) 1 ++ l.flatMap rcB).length ≤ 600000
 rw [List.length_append, numB_len]
 omega
/-- the driver's records, as the codes read them -/
theorem RecsG.rx {G : GW} {v : Value} {l : List Rec} (h : RecsG G v l) (hl : ∀ r ∈ l, okRc r) : RxsG G v l := by
 obtain ⟨css, ⟨h1, h2, h3⟩, hs⟩ := h
 refine ⟨css, ⟨h1, h2, fun i cs x hi hx => ?_⟩, hs⟩
 obtain ⟨vs, ps, ss, e, a1, a2, a3, _⟩ := h3 i cs x hi hx
 obtain ⟨_, hF, _⟩ := okRc_iff.1 (hl x (List.mem_of_getElem? hx))
 obtain ⟨_, b1, b2⟩ := hF.rule
 exact ⟨vs, ps, ss, e, ⟨a1, a2, a3⟩, ⟨by omega, by omega⟩, ⟨by omega, by omega⟩⟩
theorem recOk_of {r : Rec} (h : okRc r) : RecOk r := by
 obtain ⟨_, hF, _⟩ := okRc_iff.1 h
 obtain ⟨f1, f2, f3, f4, ⟨g1, g2, g3⟩, ⟨v1, v2, v3, _, _, v4, v5, v6, ⟨v7, _⟩, v8, v9, v10⟩, ⟨a1, a2, a3⟩, ⟨p1, p2, ⟨p3, _⟩⟩, ⟨f9, _⟩, f10, f11⟩ := hF
 have hm : 256 ≤ maxLen := by decide
 exact ⟨by omega, by omega, by omega, by omega, by omega, by omega, by omega, by omega, ⟨by omega, by omega⟩⟩
end Go.Proofs.YtohdfcnjcpjdcaaGreatDoor
