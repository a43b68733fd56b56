/- The changes and Apply in plain words; what holds of a state that may be. Conditions: as each law states them. -/
import Derived.Test.YtohdfcnjcpjdcaaGreatS22w
namespace Go.Proofs.YtohdfcnjcpjdcaaGreat
open Go.RowKit
set_option linter.unusedSimpArgs false
/-! ### the changes -/
def frzV (v : Ver) (vol at_ : Int) : Ver := { v with tier := if v.tier = 1 then 2 else v.tier, secs := if v.tier = 1 then [] else v.secs, vol := vol, at_ := at_ }
def thwV (v : Ver) (secs : List Int) (n : Int) : Ver := { v with tier := 3, secs := secs, till := n }
def chlV (v : Ver) : Ver := { v with tier := 2, secs := [], till := 0 }
def setVer (s : Sta) (i : Nat) (v : Ver) : Sta := { s with vers := s.vers.set i v }
def turnB (s : Sta) (r : Rec) (i : Nat) (v : Ver) : Int × Sta := if v.marker = true then (3, s) else if r.kind = 6 then (0, setVer s i (frzV v r.vol r.at_))
  else if r.kind = 8 then (if v.tier = 2 then (0, forgetS (setVer s i (thwV v r.secs r.n)) r.id) else (12, s))
  else if v.tier = 3 then (0, setVer s i (chlV v)) else (11, s)
def turnV (s : Sta) (r : Rec) : Option Ver → Int × Sta
 | none => (6, s)
 | some v => turnB s r (verAt s r.id) v
def turnS (s : Sta) (r : Rec) : Int × Sta := if verIn s r.id = false then (6, s) else turnV s r s.vers[verAt s r.id]?
def setBkt (s : Sta) (i : Nat) (b : Bkt) : Sta := { s with bkts := s.bkts.set i b }
def setC (s : Sta) (r : Rec) (i : Nat) (b : Bkt) : Int × Sta := if r.kind = 3 then (if rulErr r.rule = 0 then (0, setBkt s i { b with rule := r.rule }) else (rulErr r.rule, s))
  else if (decide (r.n < 0) || decide (2 < r.n)) = true then (2, s) else if (decide (r.n = 0) && !decide (b.mode = 0)) = true then (9, s) else (0, setBkt s i { b with mode := r.n })
def setB (s : Sta) (r : Rec) : Option Bkt → Int × Sta
 | none => (6, s)
 | some b => setC s r (bktAt s r.name) b
def setS (s : Sta) (r : Rec) : Int × Sta := if bktIn s r.name = false then (6, s) else setB s r s.bkts[bktAt s r.name]?
def newBkt (t : ByteArray) : Bkt := ⟨t, 0, ⟨⟨#[]⟩, -1, -1⟩⟩
def addS (s : Sta) (r : Rec) : Int × Sta := if nameErr r.name 8 = 0 then (if bktIn s r.name = true then (7, s) else if (s.bkts.length : Int) = 4 then (8, s) else (0, { s with bkts := s.bkts.insertIdx (bktAt s r.name) (newBkt r.name) })) else (nameErr r.name 8, s)
def ltInt (t x : Int) : Bool := decide (x < t)
def eqInt (t x : Int) : Bool := decide (x = t)
def goneAt (s : Sta) (v : Int) : Nat := ahead (ltInt v) s.gone
def goneIn (s : Sta) (v : Int) : Bool := hit (ltInt v) (eqInt v) s.gone
def giveS (s : Sta) (v : Int) : Int × Sta := if goneIn s v = true then (7, s) else (0, { s with gone := s.gone.insertIdx (goneAt s v) v })
def putPrt (l : List Prt) (p : Prt) : List Prt := if hit (ltPrt p.n) (eqPrt p.n) l = true then l.set (ahead (ltPrt p.n) l) p else l.insertIdx (ahead (ltPrt p.n) l) p
def sendC (s : Sta) (r : Rec) (i : Nat) (u : Upl) : Int × Sta := if r.kind = 12 then (0, { s with upls := s.upls.eraseIdx i }) else (0, { s with upls := s.upls.set i { u with parts := putPrt u.parts r.part } })
def sendU (s : Sta) (r : Rec) : Option Upl → Int × Sta
 | none => (6, s)
 | some u => sendC s r (uplAt s r.id) u
def sendS (s : Sta) (r : Rec) : Int × Sta := if uplIn s r.id = false then (6, s) else sendU s r s.upls[uplAt s r.id]?
def dropV (s : Sta) (t : Int) : Option Ver → Int × Sta
 | none => (6, s)
 | some v => (0, dropS s (verAt s t) v.id)
def dropOneS (s : Sta) (t : Int) : Int × Sta := if verIn s t = false then (6, s) else dropV s t s.vers[verAt s t]?
def changeS (s : Sta) (r : Rec) : Int × Sta :=
 if r.kind = 1 then addS s r else if r.kind = 2 ∨ r.kind = 3 then setS s r else if r.kind = 4 then comeS s r.ver else if r.kind = 5 then dropOneS s r.id
 else if r.kind = 6 ∨ r.kind = 8 ∨ r.kind = 9 then turnS s r else if r.kind = 7 then askS s r.ask else if r.kind = 10 then beginS s r.id r.name r.key
 else if r.kind = 11 ∨ r.kind = 12 then sendS s r else if r.kind = 13 then passS s r.n else if r.kind = 14 then giveS s r.vol else (3, s)
def zeroS : Sta := ⟨0, 0, [], [], [], [], []⟩
def applyC (c : Int × Sta) : Sta × Int := if c.1 = 0 then (if okSt c.2 = true then (c.2, 0) else (zeroS, 4)) else (zeroS, c.1)
def applyS (s : Sta) (r : Rec) : Sta × Int := if okSt s = true then applyC (changeS s r) else (zeroS, 9)
/-! ### a state that may be -/
structure OkS (s : Sta) : Prop where
 n1 : 1 ≤ s.next
 n2 : s.next ≤ 1048576
 c1 : 0 ≤ s.clock
 c2 : s.clock ≤ 1073741824
 gone : goneB s.gone = true
 bkts : bktsB s.bkts = true
 vers : (versB s []).1 = true
 upls : (uplsB s (versB s []).2).1 = true
 queue : queueB s = true
theorem okSt_iff {s : Sta} : okSt s = true ↔ OkS s := by
 unfold okSt numsBad
 simp only [Bool.and_eq_true, Bool.not_eq_true', Bool.or_eq_false_iff, decide_eq_false_iff_not]
 constructor
 ·rintro ⟨⟨⟨⟨⟨⟨⟨⟨a, b⟩, c⟩, d⟩, h1⟩, h2⟩, h3⟩, h4⟩, h5⟩
  exact ⟨by omega, by omega, by omega, by omega, h1, h2, h3, h4, h5⟩
 ·intro h
  exact ⟨⟨⟨⟨⟨⟨⟨⟨by have := h.n1; omega, by have := h.n2; omega⟩, by have := h.c1; omega⟩, by have := h.c2; omega⟩, h.gone⟩, h.bkts⟩, h.vers⟩, h.upls⟩, h.queue⟩
theorem rise_len {α : Type} {f : α → Int} {lo hi : Int} : ∀ {l : List α}, (∀ x ∈ l, lo ≤ f x ∧ f x < hi) → l.Pairwise (fun a b => f a < f b) → (l.length : Int) ≤ max 0 (hi - lo)
 | [], _, _ => by simp; omega
 | x :: r, h, hp => by
  obtain ⟨p1, p2⟩ := List.pairwise_cons.1 hp
  have hx := h x List.mem_cons_self
  have := rise_len (lo := f x + 1) (hi := hi) (l := r) (fun y hy => ⟨by have := p1 y hy; omega, (h y (List.mem_cons_of_mem _ hy)).2⟩) p2
  rw [List.length_cons]
  omega
theorem pairwise_next {α : Type} {lt : α → α → Prop} (ht : ∀ a b c, lt a b → lt b c → lt a c) {l : List α} (h : ∀ k x y, l[k]? = some x → l[k + 1]? = some y → lt x y) : l.Pairwise lt := by
 rw [List.pairwise_iff_getElem]
 intro i j hi hj hij
 obtain ⟨d, rfl⟩ : ∃ d, j = i + 1 + d := ⟨j - (i + 1), by omega⟩
 induction d with
 | zero => exact h i _ _ (List.getElem?_eq_getElem hi) (List.getElem?_eq_getElem hj)
 | succ d ih =>
  have hj' : i + 1 + d < l.length := by omega
  exact ht _ _ _ (ih hj' (by omega)) (h (i + 1 + d) _ _ (List.getElem?_eq_getElem hj') (List.getElem?_eq_getElem hj))
theorem gone_next {l : List Int} (h : goneB l = true) {k : Nat} {x y : Int} (hx : l[k]? = some x) (hy : l[k + 1]? = some y) : x < y := by
 have h1 := chain_at h hy
 rw [prevO_succ hx] at h1
 unfold goneBad goneGe at h1
 simp only [Bool.or_eq_false_iff, decide_eq_false_iff_not] at h1
 omega
theorem gone_bd {l : List Int} (h : goneB l = true) {x : Int} (hx : x ∈ l) : 0 ≤ x ∧ x < 8 := by
 obtain ⟨k, hk⟩ := List.mem_iff_getElem?.1 hx
 have h1 := chain_at h hk
 unfold goneBad at h1
 simp only [Bool.or_eq_false_iff, decide_eq_false_iff_not] at h1
 omega
theorem gone_pair {l : List Int} (h : goneB l = true) : l.Pairwise (fun a b => a < b) := pairwise_next (lt := fun a b : Int => a < b) (fun a b c => Int.lt_trans) fun k x y hx hy => gone_next h hx hy
theorem gone_len {l : List Int} (h : goneB l = true) : l.length ≤ 8 := by
 have := rise_len (f := id) (lo := 0) (hi := 8) (l := l) (fun x hx => gone_bd h hx) (gone_pair h)
 omega
theorem gone_ordered {l : List Int} (h : goneB l = true) (t : Int) : Ordered (ltInt t) l := ordered_next fun k x y hx hy hlt => by
 have := gone_next h hx hy
 unfold ltInt at hlt ⊢
 have := of_decide_eq_true hlt
 exact decide_eq_true (by omega)
theorem takeU_len {u l : List Int} {n : Int} (h : (takeU u l n).1 = true) : (l.length : Int) = secsOf n := by
 unfold takeU at h
 split at h
 ·assumption
 ·cases h
theorem secs_len {u l : List Int} {n : Int} (h : (takeU u l n).1 = true) (h1 : n ≤ 600) : l.length ≤ 10 := by
 have := takeU_len h
 unfold secsOf at this
 have h2 : (n + 63).tdiv 64 ≤ 10 := by
  by_cases q : 0 ≤ n + 63
  ·rw [Int.tdiv_eq_ediv_of_nonneg q]; omega
  ·have e : (n + 63).tdiv 64 = -((-(n + 63)).tdiv 64) := by rw [Int.neg_tdiv, Int.neg_neg]
   rw [e, Int.tdiv_eq_ediv_of_nonneg (by omega)]
   omega
 omega
theorem sound_len {s : Sta} {v : Ver} {u : List Int} (h : (soundU s v u).1 = true) : v.secs.length ≤ 10 := by
 unfold soundU at h
 split at h
 ·cases h
 ·split at h
  ·unfold markB at h
   simp only [Bool.and_eq_true, decide_eq_true_eq] at h
   omega
  ·split at h
   ·rename_i hz
    simp only [Bool.and_eq_true, decide_eq_true_eq] at hz
    unfold tieredU at h
    split at h
    ·split at h
     ·exact secs_len h hz.2
     ·cases h
    ·split at h
     ·simp only [Bool.and_eq_true, decide_eq_true_eq] at h
      omega
     ·split at h
      ·split at h
       ·exact secs_len h hz.2
       ·cases h
      ·cases h
   ·cases h
theorem versU_len {s : Sta} : ∀ {l : List Ver} {p : Option Ver} {nl : List (ByteArray × ByteArray)} {u : List Int}, (versU s p nl u l).1 = true → ∀ v ∈ l, v.secs.length ≤ 10
 | [], _, _, _, _, v, hv => by cases hv
 | x :: r, p, nl, u, h, v, hv => by
  unfold versU at h
  split at h
  ·cases h
  ·rename_i h1
   split at h
   ·cases h
   ·rcases List.mem_cons.1 hv with rfl | hv
    ·simp only [Bool.or_eq_true, not_or, Bool.not_eq_true, Bool.not_eq_false'] at h1
     exact sound_len h1.1
    ·exact versU_len h v hv
theorem prtsU_bd : ∀ {l : List Prt} {p : Option Prt} {u : List Int}, (prtsU p u l).1 = true → (∀ x ∈ l, 1 ≤ x.n ∧ x.n < 6 ∧ x.secs.length ≤ 10) ∧ (∀ k x, l[k]? = some x → prtGe (if k = 0 then p else l[k - 1]?) x = false)
 | [], _, _, _ => ⟨fun x hx => (by cases hx), fun k x hx => (by simp at hx)⟩
 | y :: r, p, u, h => by
  unfold prtsU at h
  split at h
  ·cases h
  ·rename_i h1
   split at h
   ·cases h
   ·rename_i h2
    simp only [prtOut, Bool.or_eq_true, not_or, Bool.not_eq_true, decide_eq_false_iff_not] at h1
    simp only [Bool.or_eq_true, not_or, Bool.not_eq_true, Bool.not_eq_false'] at h2
    obtain ⟨i1, i2⟩ := prtsU_bd h
    refine ⟨fun x hx => ?_, fun k x hx => ?_⟩
    ·rcases List.mem_cons.1 hx with rfl | hx
     ·exact ⟨by omega, by omega, secs_len h2.1 (by omega)⟩
     ·exact i1 x hx
    ·cases k with
     | zero =>
      simp at hx
      subst hx
      exact h2.2
     | succ k =>
      have := i2 k x (by simpa using hx)
      cases k with
      | zero => simpa using this
      | succ k => simpa using this
theorem prts_next {l : List Prt} {u : List Int} (h : (prtsU none u l).1 = true) {k : Nat} {x y : Prt} (hx : l[k]? = some x) (hy : l[k + 1]? = some y) : x.n < y.n := by
 have h1 := (prtsU_bd h).2 (k + 1) y hy
 rw [if_neg (by omega), Nat.add_sub_cancel, hx] at h1
 have := of_decide_eq_false h1
 omega
theorem prts_len {l : List Prt} {u : List Int} (h : (prtsU none u l).1 = true) : l.length ≤ 5 := by
 have := rise_len (f := Prt.n) (lo := 1) (hi := 6) (l := l) (fun x hx => ⟨((prtsU_bd h).1 x hx).1, ((prtsU_bd h).1 x hx).2.1⟩) (pairwise_next (lt := fun a b : Prt => a.n < b.n) (fun a b c => Int.lt_trans) fun k x y hx hy => prts_next h hx hy)
 omega
theorem prts_ordered {l : List Prt} {u : List Int} (h : (prtsU none u l).1 = true) (t : Int) : Ordered (ltPrt t) l := ordered_next fun k x y hx hy hlt => by
 have := prts_next h hx hy
 unfold ltPrt at hlt ⊢
 have h2 := (cmpI_lt _ _).1 (of_decide_eq_true hlt)
 exact decide_eq_true ((cmpI_lt _ _).2 (by omega))
theorem uplsU_bd {s : Sta} : ∀ {l : List Upl} {p : Option Upl} {u : List Int}, (uplsU s p u l).1 = true → (∀ x ∈ l, ∃ u', (prtsU none u' x.parts).1 = true) ∧ (∀ k x, l[k]? = some x → uplGe (if k = 0 then p else l[k - 1]?) x = false)
 | [], _, _, _ => ⟨fun x hx => (by cases hx), fun k x hx => (by simp at hx)⟩
 | y :: r, p, u, h => by
  unfold uplsU at h
  split at h
  ·cases h
  ·rename_i h1
   split at h
   ·rename_i h2
    simp only [Bool.or_eq_true, not_or, Bool.not_eq_true] at h1
    obtain ⟨i1, i2⟩ := uplsU_bd h
    refine ⟨fun x hx => ?_, fun k x hx => ?_⟩
    ·rcases List.mem_cons.1 hx with rfl | hx
     ·exact ⟨u, h2⟩
     ·exact i1 x hx
    ·cases k with
     | zero =>
      simp at hx
      subst hx
      exact h1.2
     | succ k =>
      have := i2 k x (by simpa using hx)
      cases k with
      | zero => simpa using this
      | succ k => simpa using this
   ·cases h
theorem OkS.vers_len {s : Sta} (h : OkS s) : s.vers.length ≤ 40 := Go.Proofs.YtohdfcnjcpjdcaaGreat.vers_len h.vers
theorem OkS.bkts_len {s : Sta} (h : OkS s) : s.bkts.length ≤ 4 := Go.Proofs.YtohdfcnjcpjdcaaGreat.bkts_len h.bkts
theorem OkS.gone_len {s : Sta} (h : OkS s) : s.gone.length ≤ 8 := Go.Proofs.YtohdfcnjcpjdcaaGreat.gone_len h.gone
theorem OkS.upls_len {s : Sta} (h : OkS s) : s.upls.length ≤ 4 := by
 have := of_decide_eq_true (Bool.and_eq_true_iff.1 h.upls).2
 omega
theorem OkS.queue_len {s : Sta} (h : OkS s) : s.queue.length ≤ 10 := by
 have := of_decide_eq_true (Bool.and_eq_true_iff.1 h.queue).2
 omega
theorem OkS.secs_len {s : Sta} (h : OkS s) : ∀ v ∈ s.vers, v.secs.length ≤ 10 := versU_len (Bool.and_eq_true_iff.1 h.vers).1
theorem OkS.parts {s : Sta} (h : OkS s) : ∀ u ∈ s.upls, ∃ u', (prtsU none u' u.parts).1 = true := (uplsU_bd (Bool.and_eq_true_iff.1 h.upls).1).1
theorem OkS.parts_len {s : Sta} (h : OkS s) : ∀ u ∈ s.upls, u.parts.length ≤ 5 := fun u hu => let ⟨_, q⟩ := h.parts u hu; prts_len q
theorem OkS.prt_len {s : Sta} (h : OkS s) : ∀ u ∈ s.upls, ∀ p ∈ u.parts, p.secs.length ≤ 10 := fun u hu p hp => let ⟨_, q⟩ := h.parts u hu; ((prtsU_bd q).1 p hp).2.2
theorem OkS.bkts_ordered {s : Sta} (h : OkS s) (t : ByteArray) : Ordered (ltBkt t) s.bkts := Go.Proofs.YtohdfcnjcpjdcaaGreat.bkts_ordered h.bkts t
theorem OkS.vers_ordered {s : Sta} (h : OkS s) (t : Int) : Ordered (ltVer t) s.vers := Go.Proofs.YtohdfcnjcpjdcaaGreat.vers_ordered h.vers t
theorem OkS.gone_ordered {s : Sta} (h : OkS s) (t : Int) : Ordered (ltInt t) s.gone := Go.Proofs.YtohdfcnjcpjdcaaGreat.gone_ordered h.gone t
theorem upls_next {s : Sta} (h : OkS s) {k : Nat} {x y : Upl} (hx : s.upls[k]? = some x) (hy : s.upls[k + 1]? = some y) : x.id < y.id := by
 have h1 := (uplsU_bd (Bool.and_eq_true_iff.1 h.upls).1).2 (k + 1) y hy
 rw [if_neg (by omega), Nat.add_sub_cancel, hx] at h1
 have := of_decide_eq_false h1
 omega
theorem OkS.upls_ordered {s : Sta} (h : OkS s) (t : Int) : Ordered (ltUpl t) s.upls := ordered_next fun k x y hx hy hlt => by
 have := upls_next h hx hy
 unfold ltUpl at hlt ⊢
 have h2 := (cmpI_lt _ _).1 (of_decide_eq_true hlt)
 exact decide_eq_true ((cmpI_lt _ _).2 (by omega))
end Go.Proofs.YtohdfcnjcpjdcaaGreat
