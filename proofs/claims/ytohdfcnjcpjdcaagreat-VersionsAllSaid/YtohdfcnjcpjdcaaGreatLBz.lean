/- The plain listing: versions by their keys, each key's latest one first. Conditions: none. -/
import Derived.Test.YtohdfcnjcpjdcaaGreatLAz
import Derived.Test.YtohdfcnjcpjdcaaGreatV1z
namespace Go.Proofs.YtohdfcnjcpjdcaaGreat
open Go.RowKit
set_option linter.unusedSimpArgs false
/-! ### the order -/
def kLt (a b : ByteArray) : Bool := Op.bytesLess a.toList b.toList
theorem kLt_cmp (a b : ByteArray) : decide (cmpS a b < 0) = kLt a b := cmpS_lt a b
theorem bytes_irr : ∀ a : List UInt8, Op.bytesLess a a = false
 | [] => rfl
 | a :: x => by rw [less_cons, bytes_irr x]; simp [UInt8.lt_irrefl]
theorem bytes_tri : ∀ a b : List UInt8, Op.bytesLess a b = false → Op.bytesLess b a = false → a = b
 | [], [], _, _ => rfl
 | [], _ :: _, h, _ => by cases h
 | _ :: _, [], _, h => by cases h
 | a :: x, b :: y, h1, h2 => by
  rw [less_cons] at h1 h2
  simp only [Bool.or_eq_false_iff, decide_eq_false_iff_not, Bool.and_eq_false_iff, beq_eq_false_iff_ne] at h1 h2
  have e : a = b := UInt8.le_antisymm (UInt8.not_lt.1 h2.1) (UInt8.not_lt.1 h1.1)
  subst e
  rw [bytes_tri x y (h1.2.resolve_left fun q => q rfl) (h2.2.resolve_left fun q => q rfl)]
theorem kLt_irr (a : ByteArray) : kLt a a = false := bytes_irr _
theorem kLt_tri {a b : ByteArray} (h1 : kLt a b = false) (h2 : kLt b a = false) : a = b := by
 have := bytes_tri _ _ h1 h2
 rw [toL, toL] at this
 cases a; cases b
 congr 1
 exact Array.toList_inj.1 this
theorem kLt_trans {a b c : ByteArray} (h1 : kLt a b = true) (h2 : kLt b c = true) : kLt a c = true := less_trans _ _ _ h1 h2
def cfV (x y : Ver) : Int := if cmpS x.key y.key = 0 then cmpI y.id x.id else cmpS x.key y.key
def vLt (x y : Ver) : Bool := decide (cfV x y < 0)
theorem vLt_iff {x y : Ver} : vLt x y = true ↔ kLt x.key y.key = true ∨ (x.key = y.key ∧ y.id < x.id) := by
 unfold vLt cfV
 rw [decide_eq_true_iff]
 by_cases h : cmpS x.key y.key = 0
 ·have e := (cmpS_eq _ _).1 h
  rw [if_pos h, cmpI_lt]
  exact ⟨fun q => .inr ⟨e, q⟩, fun q => q.elim (fun q => by rw [e, kLt_irr] at q; cases q) (fun q => q.2)⟩
 ·rw [if_neg h]
  exact ⟨fun q => .inl (by rw [← kLt_cmp]; exact decide_eq_true q), fun q => q.elim (fun q => by rw [← kLt_cmp] at q; exact of_decide_eq_true q) (fun q => absurd ((cmpS_eq _ _).2 q.1) h)⟩
theorem vLt_no {x y : Ver} (h : vLt x y = false) : kLt x.key y.key = false ∧ (x.key = y.key → x.id ≤ y.id) := by
 refine ⟨bool_no fun q => ?_, fun e => ?_⟩
 ·rw [vLt_iff.2 (.inl q)] at h
  cases h
 ·by_cases q : y.id < x.id
  ·rw [vLt_iff.2 (.inr ⟨e, q⟩)] at h
   cases h
  ·omega
theorem vLt_irr (x : Ver) : vLt x x = false := bool_no fun h => by
 rcases vLt_iff.1 h with h | h
 ·rw [kLt_irr] at h; cases h
 ·omega
theorem vLt_trans {x y z : Ver} (h1 : vLt x y = true) (h2 : vLt y z = true) : vLt x z = true := by
 rw [vLt_iff] at h1 h2 ⊢
 rcases h1 with h1 | ⟨e1, h1⟩
 ·rcases h2 with h2 | ⟨e2, h2⟩
  ·exact .inl (kLt_trans h1 h2)
  ·exact .inl (by rw [← e2]; exact h1)
 ·rcases h2 with h2 | ⟨e2, h2⟩
  ·exact .inl (by rw [e1]; exact h2)
  ·exact .inr ⟨e1.trans e2, by omega⟩
theorem vLt_ntrans {x y z : Ver} (h1 : vLt x y = false) (h2 : vLt y z = false) : vLt x z = false := bool_no fun h => by
 obtain ⟨a1, a2⟩ := vLt_no h1
 obtain ⟨b1, b2⟩ := vLt_no h2
 have key : kLt y.key x.key = false → y.key = x.key := fun q => kLt_tri q a1
 rcases vLt_iff.1 h with h | ⟨e, h⟩
 ·cases q : kLt y.key x.key with
  | true => rw [kLt_trans q h] at b1; cases b1
  | false => rw [key q, h] at b1; cases b1
 ·cases q : kLt y.key x.key with
  | true => rw [e] at q; rw [q] at b1; cases b1
  | false =>
   have e2 := key q
   have := a2 e2.symm
   have := b2 (e2.trans e)
   omega
/-! ### one list is so ordered -/
def blkV (l : List Ver) (k : ByteArray) : List Ver := (l.filter fun x => decide (x.key = k)).reverse
def listS (ks : List ByteArray) (l : List Ver) : List Ver := ks.flatMap (blkV l)
def KsOk (ks : List ByteArray) : Prop := ks.Pairwise fun a b => kLt a b = true
def inK (ks : List ByteArray) (x : Ver) : Bool := ks.any fun k => decide (x.key = k)
/-! ### key by key -/
def keyEnd (out : List (List Ver)) : Option ByteArray := (out.getLast?.bind fun g => g.getLast?).map (·.key)
def addV (out : List (List Ver)) (x : Ver) : List (List Ver) := if keyEnd out = some x.key then out.dropLast ++ [out.getLast?.getD [] ++ [x]] else out ++ [[x]]
def grpS (l : List Ver) : List (List Ver) := l.foldl addV []
theorem keyEnd_app (out : List (List Ver)) (g : List Ver) : keyEnd (out ++ [g]) = g.getLast?.map (·.key) := by unfold keyEnd; simp
theorem addV_new {out : List (List Ver)} {x : Ver} (h : keyEnd out ≠ some x.key) : addV out x = out ++ [[x]] := if_neg h
theorem addV_more {out : List (List Ver)} {g : List Ver} {x : Ver} (h : g.getLast?.map (·.key) = some x.key) : addV (out ++ [g]) x = out ++ [g ++ [x]] := by
 unfold addV
 rw [keyEnd_app, if_pos h]
 simp
end Go.Proofs.YtohdfcnjcpjdcaaGreat
/- A state that the driver made: its buckets' names, its versions' keys. Conditions: none. -/
namespace Go.Proofs.YtohdfcnjcpjdcaaGreat
open Go.RowKit
set_option linter.unusedSimpArgs false
def nmB (l : List Bkt) : List ByteArray := l.map (·.name)
theorem map_set_same {α β : Type} {f : α → β} {l : List α} {i : Nat} {x y : α} (h : l[i]? = some x) (e : f y = f x) : (l.set i y).map f = l.map f := by
 rw [List.map_set, e]
 apply List.ext_getElem?
 intro k
 rw [List.getElem?_set]
 split
 ·rename_i q
  subst q
  rw [List.getElem?_map, h]
  have := (List.getElem?_eq_some_iff.1 h).1
  rw [if_pos (by rw [List.length_map]; exact this)]
  rfl
 ·rfl
/-! ### the names of the driver's buckets -/
def AB : List ByteArray := [⟨#[97]⟩, ⟨#[98]⟩]
set_option maxRecDepth 100000 in
theorem names_two : nmB (stepS (stepS (startS, []) (rawA 0)) (rawA 1)).1.bkts = AB := by kernel_rfl
theorem recK_kind (s : Sta) (r : Raw) (k : Int) : (recK s r k).kind = k := by
 unfold recK
 by_cases q : k = 1
 ·rw [if_pos q]; rfl
 rw [if_neg q]
 clear q
 by_cases q : k = 2
 ·rw [if_pos q]; rfl
 rw [if_neg q]
 clear q
 by_cases q : k = 3
 ·rw [if_pos q]; rfl
 rw [if_neg q]
 clear q
 by_cases q : k = 4
 ·rw [if_pos q]; rfl
 rw [if_neg q]
 clear q
 by_cases q : k = 5 ∨ k = 9
 ·rw [if_pos q]; rfl
 rw [if_neg q]
 clear q
 by_cases q : k = 6
 ·rw [if_pos q]; rfl
 rw [if_neg q]
 clear q
 by_cases q : k = 7
 ·rw [if_pos q]; rfl
 rw [if_neg q]
 clear q
 by_cases q : k = 8
 ·rw [if_pos q]; rfl
 rw [if_neg q]
 clear q
 by_cases q : k = 10
 ·rw [if_pos q]; rfl
 rw [if_neg q]
 clear q
 by_cases q : k = 11
 ·rw [if_pos q]; rfl
 rw [if_neg q]
 clear q
 by_cases q : k = 12
 ·rw [if_pos q]; rfl
 rw [if_neg q]
 clear q
 by_cases q : k = 13
 ·rw [if_pos q]; rfl
 rw [if_neg q]
 clear q
 rfl
theorem recS_name {s : Sta} {r : Raw} (h : (recS s r).kind = 1) : (recS s r).name = ⟨#[97]⟩ ∨ (recS s r).name = ⟨#[98]⟩ := by
 unfold recS at h ⊢
 rw [recK_kind] at h
 rw [h]
 show nameS r.a = _ ∨ nameS r.a = _
 unfold nameS
 split
 ·exact .inl rfl
 ·exact .inr rfl
theorem change_names {s : Sta} {r : Rec} (hb : bktsB s.bkts = true) (hn : nmB s.bkts = AB) (h1 : r.kind = 1 → r.name = ⟨#[97]⟩ ∨ r.name = ⟨#[98]⟩) (h : (changeS s r).1 = 0) : nmB (changeS s r).2.bkts = AB := by
 have key : ∀ {t : Sta}, t.bkts = s.bkts → nmB t.bkts = AB := fun e => by rw [e]; exact hn
 unfold changeS at h ⊢
 by_cases q : r.kind = 1
 ·rw [if_pos q] at h
  exfalso
  have hin : bktIn s r.name = true := by
   have hm : r.name ∈ nmB s.bkts := by
    rw [hn]
    rcases h1 q with e | e <;> rw [e] <;> simp [AB]
   obtain ⟨b, hb1, hb2⟩ := List.mem_map.1 hm
   exact (bktIn_iff hb).2 ⟨b, hb1, hb2⟩
  unfold addS at h
  by_cases q2 : nameErr r.name 8 = 0
  ·rw [if_pos q2, if_pos hin] at h; cases h
  ·rw [if_neg q2] at h; exact q2 h
 rw [if_neg q]
 by_cases q2 : r.kind = 2 ∨ r.kind = 3
 ·rw [if_pos q2]
  unfold setS
  split
  ·exact hn
  ·unfold setB
   split
   ·exact hn
   ·rename_i b hb9
    unfold setC
    repeat' split
    all_goals first | exact hn | exact (map_set_same (f := fun x : Bkt => x.name) (y := { b with rule := r.rule }) hb9 rfl).trans hn | exact (map_set_same (f := fun x : Bkt => x.name) (y := { b with mode := r.n }) hb9 rfl).trans hn
 rw [if_neg q2]
 refine key ?_
 by_cases q9 : r.kind = 4
 ·rw [if_pos q9]
  unfold comeS nullS
  repeat' split
  all_goals rfl
 rw [if_neg q9]
 clear q9
 by_cases q9 : r.kind = 5
 ·rw [if_pos q9]
  unfold dropOneS dropV
  repeat' split
  all_goals rfl
 rw [if_neg q9]
 clear q9
 by_cases q9 : r.kind = 6 ∨ r.kind = 8 ∨ r.kind = 9
 ·rw [if_pos q9]
  unfold turnS turnV turnB
  repeat' split
  all_goals rfl
 rw [if_neg q9]
 clear q9
 by_cases q9 : r.kind = 7
 ·rw [if_pos q9]
  unfold askS
  repeat' split
  all_goals rfl
 rw [if_neg q9]
 clear q9
 by_cases q9 : r.kind = 10
 ·rw [if_pos q9]
  unfold beginS
  repeat' split
  all_goals rfl
 rw [if_neg q9]
 clear q9
 by_cases q9 : r.kind = 11 ∨ r.kind = 12
 ·rw [if_pos q9]
  unfold sendS sendU sendC
  repeat' split
  all_goals rfl
 rw [if_neg q9]
 clear q9
 by_cases q9 : r.kind = 13
 ·rw [if_pos q9]
  unfold passS
  repeat' split
  all_goals rfl
 rw [if_neg q9]
 clear q9
 by_cases q9 : r.kind = 14
 ·rw [if_pos q9]
  unfold giveS
  repeat' split
  all_goals rfl
 rw [if_neg q9]
theorem applyS_fine2 {s : Sta} {r : Rec} (hok : okSt s = true) (h : (applyS s r).2 = 0) : (changeS s r).1 = 0 ∧ (applyS s r).1 = (changeS s r).2 := by
 rw [applyS_of hok] at h ⊢
 unfold applyC at h ⊢
 by_cases q1 : (changeS s r).1 = 0
 ·rw [if_pos q1] at h ⊢
  by_cases q2 : okSt (changeS s r).2 = true
  ·rw [if_pos q2]; exact ⟨q1, rfl⟩
  ·rw [if_neg q2] at h; cases h
 ·rw [if_neg q1] at h; exact absurd h q1
theorem fold_names : ∀ (l : List Raw) (p : Sta × List Rec), okSt p.1 = true → nmB p.1.bkts = AB → nmB (l.foldl stepS p).1.bkts = AB
 | [], _, _, h => h
 | r :: l, p, hk, h => by
  have hf := applyS_fine2 (r := recS p.1 r) hk
  refine fold_names l _ ?_ ?_
  ·unfold stepS stepA
   split
   ·rename_i q; exact applyS_ok q
   ·exact hk
  ·unfold stepS stepA
   split
   ·rename_i q
    obtain ⟨e1, e2⟩ := hf q
    show nmB (applyS p.1 (recS p.1 r)).1.bkts = AB
    rw [e2]
    exact change_names (okSt_good.1 hk).bkts h recS_name e1
   ·exact h
set_option maxRecDepth 100000 in
theorem ok_two : okSt (stepS (stepS (startS, []) (rawA 0)) (rawA 1)).1 = true := by kernel_rfl
theorem stateS_names (l : List Raw) (most : Nat) : nmB (stateS l most).1.bkts = AB := fold_names (l.take most) _ ok_two names_two
theorem any_name {s : Sta} (h : nmB s.bkts = AB) (n : Int) : (s.bkts.any fun b => decide (b.name = nameS n)) = true := by
 have e : (s.bkts.any fun b => decide (b.name = nameS n)) = (nmB s.bkts).any fun x => decide (x = nameS n) := by
  unfold nmB
  rw [List.any_map]
  rfl
 rw [e, h]
 unfold nameS
 split
 ·rfl
 ·rfl
/-! ### the keys of the driver's versions -/
def K5 : List ByteArray := [⟨#[120]⟩, ⟨#[121]⟩, ⟨#[121, 47, 49]⟩, ⟨#[121, 47, 50]⟩, ⟨#[122, 47, 97, 47, 98]⟩]
def KeyOk (s : Sta) : Prop := ∀ v ∈ s.vers, v.key ∈ K5
theorem KeyOk.sub {s t : Sta} (h : KeyOk s) (hs : ∀ v ∈ t.vers, ∃ u ∈ s.vers, u.key = v.key) : KeyOk t := fun v hv => by
 obtain ⟨u, hu, e⟩ := hs v hv
 rw [← e]
 exact h u hu
theorem KeyOk.drop {s : Sta} (h : KeyOk s) (i : Nat) (id : Int) : KeyOk (dropS s i id) := fun v hv => h v (List.mem_of_mem_eraseIdx hv)
end Go.Proofs.YtohdfcnjcpjdcaaGreat
