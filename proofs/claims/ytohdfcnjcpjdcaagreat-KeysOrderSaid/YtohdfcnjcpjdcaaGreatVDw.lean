/- What a listing of keys tells, in plain words. Conditions: none. -/
import Derived.Test.YtohdfcnjcpjdcaaGreatVCw
namespace Go.Proofs.YtohdfcnjcpjdcaaGreat
open Go.RowKit
set_option linter.unusedSimpArgs false
/-! ### the versions that are there -/
def liveG : List Ver → Option Ver
 | [] => none
 | v :: _ => if v.marker = true then none else some v
def liveH (gs : List (List Ver)) : List Ver := gs.filterMap liveG
theorem keysRows_fold (d : Option UInt8) (pre after : ByteArray) : ∀ (gs : List (List Ver)) (out : List RowM), gs.foldl (stepK d pre after) out = ((liveH gs).map (rowD d pre)).foldl (putK after) out
 | [], _ => rfl
 | g :: gs, out => by
  rw [List.foldl_cons, keysRows_fold d pre after gs]
  unfold liveH
  cases g with
  | nil => rfl
  | cons v g =>
   by_cases h : v.marker = true
   ·have e : liveG (v :: g) = none := if_pos h
    rw [List.filterMap_cons_none e, stepK_cons, if_pos h]
   ·have e : liveG (v :: g) = some v := if_neg h
    rw [List.filterMap_cons_some e, stepK_cons, if_neg h]
    rfl
theorem keysRows_live (d : Option UInt8) (pre after : ByteArray) (gs : List (List Ver)) : keysRows d pre after gs = ((liveH gs).map (rowD d pre)).foldl (putK after) [] := keysRows_fold d pre after gs []
/-- the one that is there at a key -/
def liveK (l : List Ver) (k : ByteArray) : Option Ver := liveG (blkV l k)
theorem liveH_filter : ∀ (gs : List (List Ver)), liveH (gs.filter fun b => !b.isEmpty) = liveH gs
 | [] => rfl
 | [] :: gs => by
  have := liveH_filter gs
  rw [List.filter_cons_of_neg (by simp)]
  exact this.trans (List.filterMap_cons_none rfl).symm
 | (v :: g) :: gs => by
  have := liveH_filter gs
  unfold liveH at this ⊢
  simp only [List.filter_cons, List.isEmpty_cons, Bool.not_false, if_true, List.filterMap_cons]
  rw [this]
theorem liveH_is {ks : List ByteArray} (hk : KsOk ks) (l : List Ver) : liveH (grpS (listS ks l)) = ks.filterMap (liveK l) := by
 rw [grpS_list hk, liveH_filter]
 unfold liveH
 rw [List.filterMap_map]
 rfl
theorem liveK_mem {l : List Ver} {k : ByteArray} {v : Ver} (h : liveK l k = some v) : v ∈ l ∧ v.key = k ∧ v.marker = false := by
 unfold liveK at h
 cases hb : blkV l k with
 | nil => rw [hb] at h; cases h
 | cons x r =>
  rw [hb] at h
  by_cases hm : x.marker = true
  ·rw [show liveG (x :: r) = none from if_pos hm] at h
   cases h
  ·rw [show liveG (x :: r) = some x from if_neg hm] at h
   cases h
   have := mem_blkV.1 (show v ∈ blkV l k by rw [hb]; exact List.mem_cons_self)
   exact ⟨this.1, this.2, bool_no hm⟩
def liveO : Option Ver → Option Ver
 | none => none
 | some v => if v.marker = true then none else some v
theorem liveG_head (g : List Ver) : liveG g = liveO g.head? := by cases g <;> rfl
theorem liveK_no {s : Sta} {nm pre k : ByteArray} (hp : prefB k pre = false) : liveK (s.vers.filter (selB nm pre)) k = none := by
 cases h : liveK (s.vers.filter (selB nm pre)) k with
 | none => rfl
 | some v =>
  obtain ⟨h1, h2, _⟩ := liveK_mem h
  have := (List.mem_filter.1 h1).2
  unfold selB outB at this
  rw [h2, hp] at this
  simp at this
/-! ### rows that rise -/
def W2 (a b : RowM) : Prop := kLt a.key b.key = true ∨ a = b
theorem rowSame_eq {a b : RowM} (h : rowSame a b = true) : a = b := by
 unfold rowSame at h
 simp only [Bool.and_eq_true, beq_iff_eq] at h
 obtain ⟨h1, h2, h3, h4, h5, h6, h7⟩ := h
 cases a; cases b
 simp only at h1 h2 h3 h4 h5 h6 h7
 subst h2 h3 h4 h5 h6 h7
 congr 1
 have := (strEq _ _).symm.trans (beq_iff_eq.2 h1)
 exact of_decide_eq_true this
theorem rowSame_self (a : RowM) : rowSame a a = true := by unfold rowSame; simp
theorem rowSame_iff {a b : RowM} : rowSame a b = true ↔ a = b := ⟨rowSame_eq, fun h => by rw [h]; exact rowSame_self b⟩
theorem lastSame_some {out : List RowM} {r : RowM} : lastSame out r = true ↔ out.getLast? = some r := by
 unfold lastSame
 cases h : out.getLast? with
 | none => simp
 | some x => simp only [Option.some.injEq]; exact rowSame_iff
/-- what comes of rows behind one another, with their likes told once -/
def Rise (l : List RowM) : Prop := l.Pairwise fun a b => kLt a.key b.key = true
end Go.Proofs.YtohdfcnjcpjdcaaGreat
/- The five keys of the driver: how they are told. Conditions: none. -/
namespace Go.Proofs.YtohdfcnjcpjdcaaGreat
open Go.RowKit
set_option linter.unusedSimpArgs false
theorem K5_ks : KsOk K5 := K5_ok
theorem K5_cases {k : ByteArray} (h : k ∈ K5) : k = ⟨#[120]⟩ ∨ k = ⟨#[121]⟩ ∨ k = ⟨#[121, 47, 49]⟩ ∨ k = ⟨#[121, 47, 50]⟩ ∨ k = ⟨#[122, 47, 97, 47, 98]⟩ := by
 simpa [K5] using h
/-- what a key is told as -/
def comK (k : ByteArray) : Bool := !decide (cutI ⟨#[]⟩ k 47 = -1)
def cutK (k : ByteArray) : ByteArray := k.extract 0 ((cutI ⟨#[]⟩ k 47).toNat + 1)
theorem cut0 : cutI ⟨#[]⟩ ⟨#[120]⟩ 47 = -1 := by rfl
theorem cut1 : cutI ⟨#[]⟩ ⟨#[121]⟩ 47 = -1 := by rfl
theorem cut2 : cutI ⟨#[]⟩ ⟨#[121, 47, 49]⟩ 47 = 1 := by rfl
theorem cut3 : cutI ⟨#[]⟩ ⟨#[121, 47, 50]⟩ 47 = 1 := by rfl
theorem cut4 : cutI ⟨#[]⟩ ⟨#[122, 47, 97, 47, 98]⟩ 47 = 1 := by rfl
def comR (k : ByteArray) : RowM := ⟨k, true, 0, false, false, 0, 0⟩
theorem rowD_five {v : Ver} (h : v.key ∈ K5) : (v.key = ⟨#[120]⟩ ∧ rowD (some 47) ⟨#[]⟩ v = rowV v true) ∨ (v.key = ⟨#[121]⟩ ∧ rowD (some 47) ⟨#[]⟩ v = rowV v true) ∨ (v.key = ⟨#[121, 47, 49]⟩ ∧ rowD (some 47) ⟨#[]⟩ v = comR ⟨#[121, 47]⟩) ∨
  (v.key = ⟨#[121, 47, 50]⟩ ∧ rowD (some 47) ⟨#[]⟩ v = comR ⟨#[121, 47]⟩) ∨ (v.key = ⟨#[122, 47, 97, 47, 98]⟩ ∧ rowD (some 47) ⟨#[]⟩ v = comR ⟨#[122, 47]⟩) := by
 have hr : rowD (some 47) ⟨#[]⟩ v = if 0 ≤ cutI ⟨#[]⟩ v.key 47 then (⟨v.key.extract 0 ((⟨#[]⟩ : ByteArray).size + (cutI ⟨#[]⟩ v.key 47).toNat + 1), true, 0, false, false, 0, 0⟩ : RowM) else rowV v true := rfl
 rcases K5_cases h with e | e | e | e | e
 ·refine .inl ⟨e, ?_⟩
  rw [hr, e, cut0, if_neg (by decide)]
 ·refine .inr (.inl ⟨e, ?_⟩)
  rw [hr, e, cut1, if_neg (by decide)]
 ·refine .inr (.inr (.inl ⟨e, ?_⟩))
  rw [hr, e, cut2, if_pos (by decide)]
  rfl
 ·refine .inr (.inr (.inr (.inl ⟨e, ?_⟩)))
  rw [hr, e, cut3, if_pos (by decide)]
  rfl
 ·refine .inr (.inr (.inr (.inr ⟨e, ?_⟩)))
  rw [hr, e, cut4, if_pos (by decide)]
  rfl
def kL (a b : List UInt8) : Bool := Op.bytesLess a b
theorem rowD_ne {a : Ver} (ha : a.key ∈ K5) (d : Option UInt8) (hd : d = none ∨ d = some 47) : leB (rowD d ⟨#[]⟩ a).key ⟨#[]⟩ = false := by
 have hl : ∀ l : List UInt8, l ≠ [] → leB ⟨⟨l⟩⟩ ⟨#[]⟩ = false := fun l h => by
  unfold leB
  rw [toL, toL]
  cases l with
  | nil => exact absurd rfl h
  | cons x l => rfl
 rcases hd with rfl | rfl
 ·show leB a.key ⟨#[]⟩ = false
  rcases K5_cases ha with e | e | e | e | e <;> rw [e] <;> exact hl _ (by simp)
 ·rcases rowD_five ha with ⟨e, q⟩ | ⟨e, q⟩ | ⟨e, q⟩ | ⟨e, q⟩ | ⟨e, q⟩ <;> rw [q] <;> first | (show leB a.key ⟨#[]⟩ = false; rw [e]; exact hl _ (by simp)) | exact hl _ (by simp)
/-! ### the rows of a bucket -/
def livL (s : Sta) (nm pre : ByteArray) : List Ver := K5.filterMap (liveK (s.vers.filter (selB nm pre)))
theorem rows_live {s : Sta} (hg : Good s) (hk : KeyOk s) {nm pre : ByteArray} {l : List Ver} (h1 : l.Perm (s.vers.filter (selB nm pre))) (h2 : l.Pairwise fun a b => vLt b a = false) : liveH (grpS l) = livL s nm pre := by
 have e := listS_eq K5_ks (fun x hx => hk x (List.mem_filter.1 hx).1) (hg.ids.filter _) h1 h2
 rw [e, liveH_is K5_ks]
 rfl
theorem livL_key {s : Sta} {nm pre : ByteArray} {v : Ver} (h : v ∈ livL s nm pre) : v.key ∈ K5 := by
 obtain ⟨k, hk, hv⟩ := List.mem_filterMap.1 h
 rw [(liveK_mem hv).2.1]
 exact hk
theorem livL_rise (s : Sta) (nm pre : ByteArray) : (livL s nm pre).Pairwise fun a b => kLt a.key b.key = true := by
 unfold livL
 rw [List.pairwise_filterMap]
 refine K5_ks.imp fun {a b} hab x hx y hy => ?_
 rw [(liveK_mem hx).2.1, (liveK_mem hy).2.1]
 exact hab
/-- all rows -/
def allR (s : Sta) (nm pre : ByteArray) (d : Option UInt8) : List RowM := ((livL s nm pre).map (rowD d pre)).foldl (putK ⟨#[]⟩) []
end Go.Proofs.YtohdfcnjcpjdcaaGreat
/- The rows that are told, page by page. Conditions: none. -/
namespace Go.Proofs.YtohdfcnjcpjdcaaGreat
open Go.RowKit
set_option linter.unusedSimpArgs false
section
variable {P : Program} {E : Env} {σ : St} {o : Oper}
end
/-- the key that a page begins behind -/
def aft (U : List RowM) : Nat → ByteArray
 | 0 => ⟨#[]⟩
 | k + 1 => ((U[k]?).map (·.key)).getD ⟨#[]⟩
end Go.Proofs.YtohdfcnjcpjdcaaGreat
