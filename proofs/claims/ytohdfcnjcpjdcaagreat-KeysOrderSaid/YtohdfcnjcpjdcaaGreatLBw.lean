/- The plain listing: versions by their keys, each key's latest one first. Conditions: none. -/
import Derived.Test.YtohdfcnjcpjdcaaGreatLAw
import Derived.Test.YtohdfcnjcpjdcaaGreatV1w
namespace Go.Proofs.YtohdfcnjcpjdcaaGreat
open Go.RowKit
set_option linter.unusedSimpArgs false
/-! ### the order -/
def kLt (a b : ByteArray) : Bool := Op.bytesLess a.toList b.toList
theorem kLt_cmp (a b : ByteArray) : decide (cmpS a b < 0) = kLt a b := cmpS_lt a b
theorem bytes_irr : ∀ a : List UInt8, Op.bytesLess a a = false
 | [] => rfl
 | a :: x => by rw [less_cons, bytes_irr x]; simp [UInt8.lt_irrefl]
theorem bytes_tri : ∀ a b : List UInt8, Op.bytesLess a b = false → Op.bytesLess b a = false → a = b
 | [], [], _, _ => rfl
 | [], _ :: _, h, _ => by cases h
 | _ :: _, [], _, h => by cases h
 | a :: x, b :: y, h1, h2 => by
  rw [less_cons] at h1 h2
  simp only [Bool.or_eq_false_iff, decide_eq_false_iff_not, Bool.and_eq_false_iff, beq_eq_false_iff_ne] at h1 h2
  have e : a = b := UInt8.le_antisymm (UInt8.not_lt.1 h2.1) (UInt8.not_lt.1 h1.1)
  subst e
  rw [bytes_tri x y (h1.2.resolve_left fun q => q rfl) (h2.2.resolve_left fun q => q rfl)]
theorem kLt_irr (a : ByteArray) : kLt a a = false := bytes_irr _
theorem kLt_tri {a b : ByteArray} (h1 : kLt a b = false) (h2 : kLt b a = false) : a = b := by
 have := bytes_tri _ _ h1 h2
 rw [toL, toL] at this
 cases a; cases b
 congr 1
 exact Array.toList_inj.1 this
theorem kLt_trans {a b c : ByteArray} (h1 : kLt a b = true) (h2 : kLt b c = true) : kLt a c = true := less_trans _ _ _ h1 h2
theorem kLt_asym {a b : ByteArray} (h : kLt a b = true) : kLt b a = false := bool_no fun q => by
 have := kLt_trans h q
 rw [kLt_irr] at this
 cases this
def cfV (x y : Ver) : Int := if cmpS x.key y.key = 0 then cmpI y.id x.id else cmpS x.key y.key
def vLt (x y : Ver) : Bool := decide (cfV x y < 0)
theorem vLt_iff {x y : Ver} : vLt x y = true ↔ kLt x.key y.key = true ∨ (x.key = y.key ∧ y.id < x.id) := by
 unfold vLt cfV
 rw [decide_eq_true_iff]
 by_cases h : cmpS x.key y.key = 0
 ·have e := (cmpS_eq _ _).1 h
  rw [if_pos h, cmpI_lt]
  exact ⟨fun q => .inr ⟨e, q⟩, fun q => q.elim (fun q => by rw [e, kLt_irr] at q; cases q) (fun q => q.2)⟩
 ·rw [if_neg h]
  exact ⟨fun q => .inl (by rw [← kLt_cmp]; exact decide_eq_true q), fun q => q.elim (fun q => by rw [← kLt_cmp] at q; exact of_decide_eq_true q) (fun q => absurd ((cmpS_eq _ _).2 q.1) h)⟩
theorem vLt_no {x y : Ver} (h : vLt x y = false) : kLt x.key y.key = false ∧ (x.key = y.key → x.id ≤ y.id) := by
 refine ⟨bool_no fun q => ?_, fun e => ?_⟩
 ·rw [vLt_iff.2 (.inl q)] at h
  cases h
 ·by_cases q : y.id < x.id
  ·rw [vLt_iff.2 (.inr ⟨e, q⟩)] at h
   cases h
  ·omega
theorem vLt_irr (x : Ver) : vLt x x = false := bool_no fun h => by
 rcases vLt_iff.1 h with h | h
 ·rw [kLt_irr] at h; cases h
 ·omega
theorem vLt_trans {x y z : Ver} (h1 : vLt x y = true) (h2 : vLt y z = true) : vLt x z = true := by
 rw [vLt_iff] at h1 h2 ⊢
 rcases h1 with h1 | ⟨e1, h1⟩
 ·rcases h2 with h2 | ⟨e2, h2⟩
  ·exact .inl (kLt_trans h1 h2)
  ·exact .inl (by rw [← e2]; exact h1)
 ·rcases h2 with h2 | ⟨e2, h2⟩
  ·exact .inl (by rw [e1]; exact h2)
  ·exact .inr ⟨e1.trans e2, by omega⟩
theorem vLt_ntrans {x y z : Ver} (h1 : vLt x y = false) (h2 : vLt y z = false) : vLt x z = false := bool_no fun h => by
 obtain ⟨a1, a2⟩ := vLt_no h1
 obtain ⟨b1, b2⟩ := vLt_no h2
 have key : kLt y.key x.key = false → y.key = x.key := fun q => kLt_tri q a1
 rcases vLt_iff.1 h with h | ⟨e, h⟩
 ·cases q : kLt y.key x.key with
  | true => rw [kLt_trans q h] at b1; cases b1
  | false => rw [key q, h] at b1; cases b1
 ·cases q : kLt y.key x.key with
  | true => rw [e] at q; rw [q] at b1; cases b1
  | false =>
   have e2 := key q
   have := a2 e2.symm
   have := b2 (e2.trans e)
   omega
/-! ### one list is so ordered -/
def blkV (l : List Ver) (k : ByteArray) : List Ver := (l.filter fun x => decide (x.key = k)).reverse
def listS (ks : List ByteArray) (l : List Ver) : List Ver := ks.flatMap (blkV l)
def KsOk (ks : List ByteArray) : Prop := ks.Pairwise fun a b => kLt a b = true
theorem mem_blkV {l : List Ver} {k : ByteArray} {x : Ver} : x ∈ blkV l k ↔ x ∈ l ∧ x.key = k := by
 unfold blkV
 rw [List.mem_reverse, List.mem_filter, decide_eq_true_iff]
def inK (ks : List ByteArray) (x : Ver) : Bool := ks.any fun k => decide (x.key = k)
theorem inK_iff {ks : List ByteArray} {x : Ver} : inK ks x = true ↔ x.key ∈ ks := by unfold inK; simp
theorem blkV_perm (ks : List ByteArray) : ∀ (l : List Ver), KsOk ks → (listS ks l).Perm (l.filter (inK ks)) := by
 induction ks with
 | nil => intro l _; simp [listS, inK]
 | cons k ks ih =>
  intro l hk
  obtain ⟨h1, h2⟩ := List.pairwise_cons.1 hk
  unfold listS
  rw [List.flatMap_cons]
  have hp := List.filter_append_perm (fun x : Ver => decide (x.key = k)) (l.filter (inK (k :: ks)))
  refine List.Perm.trans ?_ hp
  rw [List.filter_filter, List.filter_filter]
  refine List.Perm.append ?_ ?_
  ·unfold blkV
   refine (List.reverse_perm _).trans (List.Perm.of_eq (List.filter_congr fun x _ => ?_))
   by_cases q : x.key = k <;> simp [q, inK]
  ·refine (ih l h2).trans (List.Perm.of_eq (List.filter_congr fun x _ => ?_))
   by_cases q : x.key = k
   ·have : k ∉ ks := fun hm => by have := h1 k hm; rw [kLt_irr] at this; cases this
    have h3 : inK ks x = false := bool_no fun h => this (q ▸ inK_iff.1 h)
    rw [h3]
    simp [q]
   ·simp [q, inK]
theorem id_one {l : List Ver} (hid : l.Pairwise fun a b => a.id < b.id) {a b : Ver} (ha : a ∈ l) (hb : b ∈ l) (e : a.id = b.id) : a = b := by
 obtain ⟨i, hi⟩ := List.mem_iff_getElem?.1 ha
 obtain ⟨j, hj⟩ := List.mem_iff_getElem?.1 hb
 have := pair_one hid hi hj e
 subst this
 rw [hi] at hj
 exact Option.some.inj hj
theorem listS_eq {ks : List ByteArray} {l d : List Ver} (hk : KsOk ks) (hc : ∀ x ∈ l, x.key ∈ ks) (hid : l.Pairwise fun a b => a.id < b.id) (hp : d.Perm l) (hs : d.Pairwise fun a b => vLt b a = false) : d = listS ks l := by
 have hpl : (listS ks l).Perm l := (blkV_perm ks l hk).trans (List.Perm.of_eq (List.filter_eq_self.2 fun x hx => inK_iff.2 (hc x hx)))
 refine List.Perm.eq_of_pairwise (le := fun a b => vLt b a = false) (fun a b ha hb h1 h2 => ?_) hs ?_ (hp.trans hpl.symm)
 ·obtain ⟨a1, a2⟩ := vLt_no h1
  obtain ⟨b1, b2⟩ := vLt_no h2
  have e := kLt_tri a1 b1
  have := a2 e
  have := b2 e.symm
  exact id_one hid (hp.mem_iff.1 ha) (hpl.mem_iff.1 hb) (by omega)
 ·unfold listS
  rw [List.pairwise_flatMap]
  refine ⟨fun k _ => ?_, hk.imp fun {a b} hab x hx y hy => ?_⟩
  ·unfold blkV
   rw [List.pairwise_reverse]
   refine ((hid.filter _).imp_of_mem fun {a b} ha hb h => bool_no fun q => ?_)
   have ea := of_decide_eq_true (List.mem_filter.1 ha).2
   have eb := of_decide_eq_true (List.mem_filter.1 hb).2
   rcases vLt_iff.1 q with q | q
   ·rw [ea, eb, kLt_irr] at q; cases q
   ·omega
  ·obtain ⟨_, rfl⟩ := mem_blkV.1 hx
   obtain ⟨_, rfl⟩ := mem_blkV.1 hy
   refine bool_no fun q => ?_
   rcases vLt_iff.1 q with q | q
   ·rw [kLt_asym hab] at q; cases q
   ·rw [q.1, kLt_irr] at hab; cases hab
/-! ### key by key -/
def keyEnd (out : List (List Ver)) : Option ByteArray := (out.getLast?.bind fun g => g.getLast?).map (·.key)
def addV (out : List (List Ver)) (x : Ver) : List (List Ver) := if keyEnd out = some x.key then out.dropLast ++ [out.getLast?.getD [] ++ [x]] else out ++ [[x]]
def grpS (l : List Ver) : List (List Ver) := l.foldl addV []
theorem keyEnd_app (out : List (List Ver)) (g : List Ver) : keyEnd (out ++ [g]) = g.getLast?.map (·.key) := by unfold keyEnd; simp
theorem addV_new {out : List (List Ver)} {x : Ver} (h : keyEnd out ≠ some x.key) : addV out x = out ++ [[x]] := if_neg h
theorem addV_more {out : List (List Ver)} {g : List Ver} {x : Ver} (h : g.getLast?.map (·.key) = some x.key) : addV (out ++ [g]) x = out ++ [g ++ [x]] := by
 unfold addV
 rw [keyEnd_app, if_pos h]
 simp
theorem grp_more {k : ByteArray} : ∀ (b : List Ver) (out : List (List Ver)) (g : List Ver), (∀ x ∈ b, x.key = k) → g.getLast?.map (·.key) = some k → b.foldl addV (out ++ [g]) = out ++ [g ++ b]
 | [], out, g, _, _ => by simp
 | x :: b, out, g, hb, hg => by
  have hx := hb x List.mem_cons_self
  rw [List.foldl_cons, addV_more (by rw [hg, hx]), grp_more b out (g ++ [x]) (fun y hy => hb y (List.mem_cons_of_mem _ hy)) (by simp [hx])]
  simp
theorem grp_block {k : ByteArray} {b : List Ver} {out : List (List Ver)} (hb : ∀ x ∈ b, x.key = k) (h : keyEnd out ≠ some k) : b.foldl addV out = out ++ [b].filter fun b => !b.isEmpty := by
 cases b with
 | nil => simp
 | cons x b =>
  have hx := hb x List.mem_cons_self
  rw [List.foldl_cons, addV_new (by rw [hx]; exact h), grp_more (k := k) b out [x] (fun y hy => hb y (List.mem_cons_of_mem _ hy)) (by simp [hx])]
  simp
theorem grp_list (l : List Ver) : ∀ (ks : List ByteArray) (out : List (List Ver)), KsOk ks → (∀ k ∈ ks, keyEnd out ≠ some k) → (listS ks l).foldl addV out = out ++ (ks.map (blkV l)).filter fun b => !b.isEmpty
 | [], out, _, _ => by simp [listS]
 | k :: ks, out, hk, h => by
  obtain ⟨h1, h2⟩ := List.pairwise_cons.1 hk
  have e : listS (k :: ks) l = blkV l k ++ listS ks l := rfl
  have hb : ∀ x ∈ blkV l k, x.key = k := fun x hx => (mem_blkV.1 hx).2
  rw [e, List.foldl_append, grp_block (k := k) hb (h k List.mem_cons_self), grp_list l ks _ h2, List.map_cons, List.append_assoc, ← List.filter_append]
  ·rfl
  ·intro k' hk'
   cases hq : blkV l k with
   | nil => simpa using h k' (List.mem_cons_of_mem _ hk')
   | cons x b =>
    have : (([x :: b] : List (List Ver)).filter fun b => !b.isEmpty) = [x :: b] := rfl
    rw [this, keyEnd_app]
    intro q
    obtain ⟨y, hy, e⟩ := Option.map_eq_some_iff.1 q
    have hm := List.mem_of_getLast? hy
    rw [← hq] at hm
    have := h1 k' hk'
    rw [← e, hb y hm, kLt_irr] at this
    cases this
theorem grpS_list {ks : List ByteArray} (hk : KsOk ks) (l : List Ver) : grpS (listS ks l) = (ks.map (blkV l)).filter fun b => !b.isEmpty := by
 have := grp_list l ks [] hk (fun k _ => by simp [keyEnd])
 simpa [grpS] using this
end Go.Proofs.YtohdfcnjcpjdcaaGreat
/- A state that the driver made: its buckets' names, its versions' keys. Conditions: none. -/
namespace Go.Proofs.YtohdfcnjcpjdcaaGreat
open Go.RowKit
set_option linter.unusedSimpArgs false
def nmB (l : List Bkt) : List ByteArray := l.map (·.name)
theorem map_set_same {α β : Type} {f : α → β} {l : List α} {i : Nat} {x y : α} (h : l[i]? = some x) (e : f y = f x) : (l.set i y).map f = l.map f := by
 rw [List.map_set, e]
 apply List.ext_getElem?
 intro k
 rw [List.getElem?_set]
 split
 ·rename_i q
  subst q
  rw [List.getElem?_map, h]
  have := (List.getElem?_eq_some_iff.1 h).1
  rw [if_pos (by rw [List.length_map]; exact this)]
  rfl
 ·rfl
/-! ### the names of the driver's buckets -/
def AB : List ByteArray := [⟨#[97]⟩, ⟨#[98]⟩]
set_option maxRecDepth 100000 in
theorem names_two : nmB (stepS (stepS (startS, []) (rawA 0)) (rawA 1)).1.bkts = AB := by kernel_rfl
theorem recK_kind (s : Sta) (r : Raw) (k : Int) : (recK s r k).kind = k := by
 unfold recK
 by_cases q : k = 1
 ·rw [if_pos q]; rfl
 rw [if_neg q]
 clear q
 by_cases q : k = 2
 ·rw [if_pos q]; rfl
 rw [if_neg q]
 clear q
 by_cases q : k = 3
 ·rw [if_pos q]; rfl
 rw [if_neg q]
 clear q
 by_cases q : k = 4
 ·rw [if_pos q]; rfl
 rw [if_neg q]
 clear q
 by_cases q : k = 5 ∨ k = 9
 ·rw [if_pos q]; rfl
 rw [if_neg q]
 clear q
 by_cases q : k = 6
 ·rw [if_pos q]; rfl
 rw [if_neg q]
 clear q
 by_cases q : k = 7
 ·rw [if_pos q]; rfl
 rw [if_neg q]
 clear q
 by_cases q : k = 8
 ·rw [if_pos q]; rfl
 rw [if_neg q]
 clear q
 by_cases q : k = 10
 ·rw [if_pos q]; rfl
 rw [if_neg q]
 clear q
 by_cases q : k = 11
 ·rw [if_pos q]; rfl
 rw [if_neg q]
 clear q
 by_cases q : k = 12
 ·rw [if_pos q]; rfl
 rw [if_neg q]
 clear q
 by_cases q : k = 13
 ·rw [if_pos q]; rfl
 rw [if_neg q]
 clear q
 rfl
theorem recS_name {s : Sta} {r : Raw} (h : (recS s r).kind = 1) : (recS s r).name = ⟨#[97]⟩ ∨ (recS s r).name = ⟨#[98]⟩ := by
 unfold recS at h ⊢
 rw [recK_kind] at h
 rw [h]
 show nameS r.a = _ ∨ nameS r.a = _
 unfold nameS
 split
 ·exact .inl rfl
 ·exact .inr rfl
theorem change_names {s : Sta} {r : Rec} (hb : bktsB s.bkts = true) (hn : nmB s.bkts = AB) (h1 : r.kind = 1 → r.name = ⟨#[97]⟩ ∨ r.name = ⟨#[98]⟩) (h : (changeS s r).1 = 0) : nmB (changeS s r).2.bkts = AB := by
 have key : ∀ {t : Sta}, t.bkts = s.bkts → nmB t.bkts = AB := fun e => by rw [e]; exact hn
 unfold changeS at h ⊢
 by_cases q : r.kind = 1
 ·rw [if_pos q] at h
  exfalso
  have hin : bktIn s r.name = true := by
   have hm : r.name ∈ nmB s.bkts := by
    rw [hn]
    rcases h1 q with e | e <;> rw [e] <;> simp [AB]
   obtain ⟨b, hb1, hb2⟩ := List.mem_map.1 hm
   exact (bktIn_iff hb).2 ⟨b, hb1, hb2⟩
  unfold addS at h
  by_cases q2 : nameErr r.name 8 = 0
  ·rw [if_pos q2, if_pos hin] at h; cases h
  ·rw [if_neg q2] at h; exact q2 h
 rw [if_neg q]
 by_cases q2 : r.kind = 2 ∨ r.kind = 3
 ·rw [if_pos q2]
  unfold setS
  split
  ·exact hn
  ·unfold setB
   split
   ·exact hn
   ·rename_i b hb9
    unfold setC
    repeat' split
    all_goals first | exact hn | exact (map_set_same (f := fun x : Bkt => x.name) (y := { b with rule := r.rule }) hb9 rfl).trans hn | exact (map_set_same (f := fun x : Bkt => x.name) (y := { b with mode := r.n }) hb9 rfl).trans hn
 rw [if_neg q2]
 refine key ?_
 by_cases q9 : r.kind = 4
 ·rw [if_pos q9]
  unfold comeS nullS
  repeat' split
  all_goals rfl
 rw [if_neg q9]
 clear q9
 by_cases q9 : r.kind = 5
 ·rw [if_pos q9]
  unfold dropOneS dropV
  repeat' split
  all_goals rfl
 rw [if_neg q9]
 clear q9
 by_cases q9 : r.kind = 6 ∨ r.kind = 8 ∨ r.kind = 9
 ·rw [if_pos q9]
  unfold turnS turnV turnB
  repeat' split
  all_goals rfl
 rw [if_neg q9]
 clear q9
 by_cases q9 : r.kind = 7
 ·rw [if_pos q9]
  unfold askS
  repeat' split
  all_goals rfl
 rw [if_neg q9]
 clear q9
 by_cases q9 : r.kind = 10
 ·rw [if_pos q9]
  unfold beginS
  repeat' split
  all_goals rfl
 rw [if_neg q9]
 clear q9
 by_cases q9 : r.kind = 11 ∨ r.kind = 12
 ·rw [if_pos q9]
  unfold sendS sendU sendC
  repeat' split
  all_goals rfl
 rw [if_neg q9]
 clear q9
 by_cases q9 : r.kind = 13
 ·rw [if_pos q9]
  unfold passS
  repeat' split
  all_goals rfl
 rw [if_neg q9]
 clear q9
 by_cases q9 : r.kind = 14
 ·rw [if_pos q9]
  unfold giveS
  repeat' split
  all_goals rfl
 rw [if_neg q9]
theorem applyS_fine2 {s : Sta} {r : Rec} (hok : okSt s = true) (h : (applyS s r).2 = 0) : (changeS s r).1 = 0 ∧ (applyS s r).1 = (changeS s r).2 := by
 rw [applyS_of hok] at h ⊢
 unfold applyC at h ⊢
 by_cases q1 : (changeS s r).1 = 0
 ·rw [if_pos q1] at h ⊢
  by_cases q2 : okSt (changeS s r).2 = true
  ·rw [if_pos q2]; exact ⟨q1, rfl⟩
  ·rw [if_neg q2] at h; cases h
 ·rw [if_neg q1] at h; exact absurd h q1
theorem fold_names : ∀ (l : List Raw) (p : Sta × List Rec), okSt p.1 = true → nmB p.1.bkts = AB → nmB (l.foldl stepS p).1.bkts = AB
 | [], _, _, h => h
 | r :: l, p, hk, h => by
  have hf := applyS_fine2 (r := recS p.1 r) hk
  refine fold_names l _ ?_ ?_
  ·unfold stepS stepA
   split
   ·rename_i q; exact applyS_ok q
   ·exact hk
  ·unfold stepS stepA
   split
   ·rename_i q
    obtain ⟨e1, e2⟩ := hf q
    show nmB (applyS p.1 (recS p.1 r)).1.bkts = AB
    rw [e2]
    exact change_names (okSt_good.1 hk).bkts h recS_name e1
   ·exact h
set_option maxRecDepth 100000 in
theorem ok_two : okSt (stepS (stepS (startS, []) (rawA 0)) (rawA 1)).1 = true := by kernel_rfl
theorem stateS_names (l : List Raw) (most : Nat) : nmB (stateS l most).1.bkts = AB := fold_names (l.take most) _ ok_two names_two
theorem any_name {s : Sta} (h : nmB s.bkts = AB) (n : Int) : (s.bkts.any fun b => decide (b.name = nameS n)) = true := by
 have e : (s.bkts.any fun b => decide (b.name = nameS n)) = (nmB s.bkts).any fun x => decide (x = nameS n) := by
  unfold nmB
  rw [List.any_map]
  rfl
 rw [e, h]
 unfold nameS
 split
 ·rfl
 ·rfl
/-! ### the keys of the driver's versions -/
def K5 : List ByteArray := [⟨#[120]⟩, ⟨#[121]⟩, ⟨#[121, 47, 49]⟩, ⟨#[121, 47, 50]⟩, ⟨#[122, 47, 97, 47, 98]⟩]
def KeyOk (s : Sta) : Prop := ∀ v ∈ s.vers, v.key ∈ K5
theorem keyS_in (n : Int) : keyS n ∈ K5 := by
 unfold keyS K5
 repeat' split
 all_goals simp
theorem KeyOk.sub {s t : Sta} (h : KeyOk s) (hs : ∀ v ∈ t.vers, ∃ u ∈ s.vers, u.key = v.key) : KeyOk t := fun v hv => by
 obtain ⟨u, hu, e⟩ := hs v hv
 rw [← e]
 exact h u hu
theorem KeyOk.eq {s t : Sta} (h : KeyOk s) (e : t.vers = s.vers) : KeyOk t := fun v hv => h v (e ▸ hv)
theorem KeyOk.drop {s : Sta} (h : KeyOk s) (i : Nat) (id : Int) : KeyOk (dropS s i id) := fun v hv => h v (List.mem_of_mem_eraseIdx hv)
theorem null_keys {s : Sta} (h : KeyOk s) (v : Ver) : KeyOk (nullS s v) := by
 unfold nullS
 split
 ·split
  ·exact h.drop _ _
  ·exact h
 ·exact h
theorem change_keys {s : Sta} {r : Rec} (hk : KeyOk s) (h4 : r.kind = 4 → r.ver.key ∈ K5) (h : (changeS s r).1 = 0) : KeyOk (changeS s r).2 := by
 unfold changeS at h ⊢
 by_cases q : r.kind = 1
 ·rw [if_pos q]
  refine hk.eq ?_
  unfold addS
  repeat' split
  all_goals rfl
 rw [if_neg q] at h ⊢
 by_cases q2 : r.kind = 2 ∨ r.kind = 3
 ·rw [if_pos q2]
  refine hk.eq ?_
  unfold setS setB setC
  repeat' split
  all_goals rfl
 rw [if_neg q2] at h ⊢
 by_cases q4 : r.kind = 4
 ·rw [if_pos q4] at h ⊢
  unfold comeS at h ⊢
  by_cases a : (!decide (r.ver.id = s.next) || decide (s.next = 1048576)) = true
  ·rw [if_pos a] at h; cases h
  ·rw [if_neg a] at h ⊢
   by_cases b : ((nullS s r.ver).vers.length : Int) = 40
   ·rw [if_pos b] at h; cases h
   ·rw [if_neg b]
    intro v hv
    have hv' : v ∈ (nullS s r.ver).vers ++ [r.ver] := hv
    rcases List.mem_append.1 hv' with hv' | hv'
    ·exact null_keys hk r.ver v hv'
    ·rw [List.mem_singleton.1 hv']; exact h4 q4
 rw [if_neg q4] at h ⊢
 by_cases q5 : r.kind = 5
 ·rw [if_pos q5]
  unfold dropOneS dropV
  repeat' split
  all_goals first | exact hk | exact hk.drop _ _
 rw [if_neg q5] at h ⊢
 by_cases q6 : r.kind = 6 ∨ r.kind = 8 ∨ r.kind = 9
 ·rw [if_pos q6]
  unfold turnS turnV turnB
  have hset : ∀ (i : Nat) (v w : Ver), s.vers[i]? = some v → w.key = v.key → KeyOk (setVer s i w) := fun i v w hi e => hk.sub fun x hx => by
   rcases List.mem_or_eq_of_mem_set hx with hx | hx
   ·exact ⟨x, hx, rfl⟩
   ·exact ⟨v, List.mem_of_getElem? hi, by rw [hx, e]⟩
  repeat' split
  all_goals first | exact hk | (refine hset _ _ _ (by assumption) ?_; rfl)
 rw [if_neg q6] at h ⊢
 by_cases q7 : r.kind = 7
 ·rw [if_pos q7]
  refine hk.eq ?_
  unfold askS
  repeat' split
  all_goals rfl
 rw [if_neg q7] at h ⊢
 by_cases q10 : r.kind = 10
 ·rw [if_pos q10] at h ⊢
  refine hk.eq ?_
  unfold beginS
  repeat' split
  all_goals rfl
 rw [if_neg q10] at h ⊢
 by_cases q11 : r.kind = 11 ∨ r.kind = 12
 ·rw [if_pos q11]
  refine hk.eq ?_
  unfold sendS sendU sendC
  repeat' split
  all_goals rfl
 rw [if_neg q11] at h ⊢
 by_cases q13 : r.kind = 13
 ·rw [if_pos q13]
  refine hk.eq ?_
  unfold passS
  repeat' split
  all_goals rfl
 rw [if_neg q13] at h ⊢
 by_cases q14 : r.kind = 14
 ·rw [if_pos q14]
  refine hk.eq ?_
  unfold giveS
  repeat' split
  all_goals rfl
 rw [if_neg q14] at h
 cases h
theorem recK_key {s : Sta} {r : Raw} {k : Int} (h : (recK s r k).kind = 4) : (recK s r k).ver.key ∈ K5 := by
 rw [recK_kind] at h
 subst h
 have e : recK s r 4 = { rec0 4 with ver := newV s r } := rfl
 rw [e]
 show (newV s r).key ∈ K5
 unfold newV
 split
 ·exact keyS_in _
 ·exact keyS_in _
theorem fold_keys : ∀ (l : List Raw) (p : Sta × List Rec), okSt p.1 = true → KeyOk p.1 → KeyOk (l.foldl stepS p).1
 | [], _, _, h => h
 | r :: l, p, hk, h => by
  have hf := applyS_fine2 (r := recS p.1 r) hk
  refine fold_keys l _ ?_ ?_
  ·unfold stepS stepA
   split
   ·rename_i q; exact applyS_ok q
   ·exact hk
  ·unfold stepS stepA
   split
   ·rename_i q
    obtain ⟨e1, e2⟩ := hf q
    show KeyOk (applyS p.1 (recS p.1 r)).1
    rw [e2]
    exact change_keys h (fun h4 => recK_key h4) e1
   ·exact h
theorem stateS_keys (l : List Raw) (most : Nat) : KeyOk (stateS l most).1 := fold_keys (rawsOf l most) _ start_ok fun v hv => by cases hv
theorem K5_ok : K5.Pairwise fun a b => Op.bytesLess a.toList b.toList = true := by
 unfold K5
 simp only [ByteArray.toList_eq]
 decide
end Go.Proofs.YtohdfcnjcpjdcaaGreat
