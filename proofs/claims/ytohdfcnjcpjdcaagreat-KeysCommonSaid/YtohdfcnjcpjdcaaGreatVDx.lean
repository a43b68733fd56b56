/- What a listing of keys tells, in plain words. Conditions: none. -/
import Derived.Test.YtohdfcnjcpjdcaaGreatVCx
namespace Go.Proofs.YtohdfcnjcpjdcaaGreat
open Go.RowKit
set_option linter.unusedSimpArgs false
/-! ### the versions that are there -/
def liveG : List Ver → Option Ver
 | [] => none
 | v :: _ => if v.marker = true then none else some v
def liveH (gs : List (List Ver)) : List Ver := gs.filterMap liveG
theorem keysRows_fold (d : Option UInt8) (pre after : ByteArray) : ∀ (gs : List (List Ver)) (out : List RowM), gs.foldl (stepK d pre after) out = ((liveH gs).map (rowD d pre)).foldl (putK after) out
 | [], _ => rfl
 | g :: gs, out => by
  rw [List.foldl_cons, keysRows_fold d pre after gs]
  unfold liveH
  cases g with
  | nil => rfl
  | cons v g =>
   by_cases h : v.marker = true
   ·have e : liveG (v :: g) = none := if_pos h
    rw [List.filterMap_cons_none e, stepK_cons, if_pos h]
   ·have e : liveG (v :: g) = some v := if_neg h
    rw [List.filterMap_cons_some e, stepK_cons, if_neg h]
    rfl
theorem keysRows_live (d : Option UInt8) (pre after : ByteArray) (gs : List (List Ver)) : keysRows d pre after gs = ((liveH gs).map (rowD d pre)).foldl (putK after) [] := keysRows_fold d pre after gs []
/-- the one that is there at a key -/
def liveK (l : List Ver) (k : ByteArray) : Option Ver := liveG (blkV l k)
theorem liveH_filter : ∀ (gs : List (List Ver)), liveH (gs.filter fun b => !b.isEmpty) = liveH gs
 | [] => rfl
 | [] :: gs => by
  have := liveH_filter gs
  rw [List.filter_cons_of_neg (by simp)]
  exact this.trans (List.filterMap_cons_none rfl).symm
 | (v :: g) :: gs => by
  have := liveH_filter gs
  unfold liveH at this ⊢
  simp only [List.filter_cons, List.isEmpty_cons, Bool.not_false, if_true, List.filterMap_cons]
  rw [this]
theorem liveH_is {ks : List ByteArray} (hk : KsOk ks) (l : List Ver) : liveH (grpS (listS ks l)) = ks.filterMap (liveK l) := by
 rw [grpS_list hk, liveH_filter]
 unfold liveH
 rw [List.filterMap_map]
 rfl
theorem liveK_mem {l : List Ver} {k : ByteArray} {v : Ver} (h : liveK l k = some v) : v ∈ l ∧ v.key = k ∧ v.marker = false := by
 unfold liveK at h
 cases hb : blkV l k with
 | nil => rw [hb] at h; cases h
 | cons x r =>
  rw [hb] at h
  by_cases hm : x.marker = true
  ·rw [show liveG (x :: r) = none from if_pos hm] at h
   cases h
  ·rw [show liveG (x :: r) = some x from if_neg hm] at h
   cases h
   have := mem_blkV.1 (show v ∈ blkV l k by rw [hb]; exact List.mem_cons_self)
   exact ⟨this.1, this.2, bool_no hm⟩
def liveO : Option Ver → Option Ver
 | none => none
 | some v => if v.marker = true then none else some v
/-! ### rows that rise -/
def W2 (a b : RowM) : Prop := kLt a.key b.key = true ∨ a = b
theorem rowSame_eq {a b : RowM} (h : rowSame a b = true) : a = b := by
 unfold rowSame at h
 simp only [Bool.and_eq_true, beq_iff_eq] at h
 obtain ⟨h1, h2, h3, h4, h5, h6, h7⟩ := h
 cases a; cases b
 simp only at h1 h2 h3 h4 h5 h6 h7
 subst h2 h3 h4 h5 h6 h7
 congr 1
 have := (strEq _ _).symm.trans (beq_iff_eq.2 h1)
 exact of_decide_eq_true this
theorem rowSame_self (a : RowM) : rowSame a a = true := by unfold rowSame; simp
theorem rowSame_iff {a b : RowM} : rowSame a b = true ↔ a = b := ⟨rowSame_eq, fun h => by rw [h]; exact rowSame_self b⟩
theorem lastSame_some {out : List RowM} {r : RowM} : lastSame out r = true ↔ out.getLast? = some r := by
 unfold lastSame
 cases h : out.getLast? with
 | none => simp
 | some x => simp only [Option.some.injEq]; exact rowSame_iff
/-- what comes of rows behind one another, with their likes told once -/
def Rise (l : List RowM) : Prop := l.Pairwise fun a b => kLt a.key b.key = true
theorem rise_last {l : List RowM} (h : Rise l) {x y : RowM} (hl : l.getLast? = some x) (hy : y ∈ l) : y = x ∨ kLt y.key x.key = true := by
 obtain ⟨init, rfl⟩ : ∃ init, l = init ++ [x] := ⟨l.dropLast, by
  have hne : l ≠ [] := fun e => by rw [e] at hl; cases hl
  have := getLast_split hne x
  rw [hl] at this
  exact this.symm⟩
 rcases List.mem_append.1 hy with hy | hy
 ·exact .inr ((List.pairwise_append.1 h).2.2 y hy x (by simp))
 ·exact .inl (List.mem_singleton.1 hy)
theorem put_rise (after : ByteArray) (P : RowM → Prop) : ∀ (R out0 outA : List RowM), Rise out0 → outA = out0.filter (fun r => !leB r.key after) → R.Pairwise W2 → (∀ x ∈ out0, ∀ r ∈ R, W2 x r) → (∀ r ∈ R, leB r.key ⟨#[]⟩ = false) → (∀ x ∈ out0, P x) → (∀ x ∈ R, P x) →
  Rise (R.foldl (putK ⟨#[]⟩) out0) ∧ R.foldl (putK after) outA = (R.foldl (putK ⟨#[]⟩) out0).filter (fun r => !leB r.key after) ∧ (∀ x ∈ R.foldl (putK ⟨#[]⟩) out0, P x) ∧ (∀ x, (x ∈ out0 ∨ x ∈ R) → x ∈ R.foldl (putK ⟨#[]⟩) out0)
 | [], out0, outA, h1, h2, _, _, _, hP, _ => ⟨h1, h2, hP, fun x hx => hx.elim id fun h => by cases h⟩
 | r :: R, out0, outA, h1, h2, h3, h4, h5, hP, hR => by
  obtain ⟨w1, w2⟩ := List.pairwise_cons.1 h3
  have h5r := h5 r List.mem_cons_self
  have hR' : ∀ x ∈ R, P x := fun x hx => hR x (List.mem_cons_of_mem _ hx)
  have h5' : ∀ x ∈ R, leB x.key ⟨#[]⟩ = false := fun x hx => h5 x (List.mem_cons_of_mem _ hx)
  rw [List.foldl_cons, List.foldl_cons]
  cases hl : lastSame out0 r with
  | true =>
   have hg := lastSame_some.1 hl
   have hm : r ∈ out0 := List.mem_of_getLast? hg
   have e0 : putK ⟨#[]⟩ out0 r = out0 := putK_same hl
   have eA : putK after outA r = outA := by
    cases hle : leB r.key after with
    | true => exact putK_le hle
    | false =>
     refine putK_same (lastSame_some.2 ?_)
     rw [h2]
     obtain ⟨init, e⟩ : ∃ init, out0 = init ++ [r] := ⟨out0.dropLast, by
      have hne : out0 ≠ [] := fun e => by rw [e] at hg; cases hg
      have := getLast_split hne r
      rw [hg] at this
      exact this.symm⟩
     rw [e, List.filter_append]
     simp [hle]
   rw [e0, eA]
   obtain ⟨a, b, c, d⟩ := put_rise after P R out0 outA h1 h2 w2 (fun x hx q hq => h4 x hx q (List.mem_cons_of_mem _ hq)) h5' hP hR'
   refine ⟨a, b, c, fun x hx => d x ?_⟩
   rcases hx with hx | hx
   ·exact .inl hx
   ·rcases List.mem_cons.1 hx with rfl | hx
    ·exact .inl hm
    ·exact .inr hx
  | false =>
   have hlt : ∀ x ∈ out0, kLt x.key r.key = true := fun x hx => by
    rcases h4 x hx r List.mem_cons_self with h | rfl
    ·exact h
    ·exfalso
     cases hg : out0.getLast? with
     | none => rw [List.getLast?_eq_none_iff] at hg; rw [hg] at hx; cases hx
     | some z =>
      rcases rise_last h1 hg hx with rfl | hz
      ·rw [lastSame_some.2 hg] at hl; cases hl
      ·rcases h4 z (List.mem_of_getLast? hg) x List.mem_cons_self with h | h
       ·rw [kLt_asym h] at hz; cases hz
       ·rw [h, kLt_irr] at hz; cases hz
   have e0 : putK ⟨#[]⟩ out0 r = out0 ++ [r] := putK_new h5r hl
   have eA : putK after outA r = (out0 ++ [r]).filter fun r => !leB r.key after := by
    rw [List.filter_append, ← h2]
    cases hle : leB r.key after with
    | true => rw [putK_le hle]; simp [hle]
    | false =>
     rw [putK_new hle]
     ·simp [hle]
     ·refine bool_no fun q => ?_
      have := List.mem_of_getLast? (lastSame_some.1 q)
      rw [h2] at this
      have := hlt r (List.mem_filter.1 this).1
      rw [kLt_irr] at this
      cases this
   rw [e0, eA]
   have hr1 : Rise (out0 ++ [r]) := List.pairwise_append.2 ⟨h1, List.pairwise_singleton _ _, fun x hx q hq => by rw [List.mem_singleton.1 hq]; exact hlt x hx⟩
   obtain ⟨a, b, c, d⟩ := put_rise after P R (out0 ++ [r]) _ hr1 rfl w2 (fun x hx q hq => by
    rcases List.mem_append.1 hx with hx | hx
    ·exact h4 x hx q (List.mem_cons_of_mem _ hq)
    ·rw [List.mem_singleton.1 hx]; exact w1 q hq) h5' (fun x hx => by
    rcases List.mem_append.1 hx with hx | hx
    ·exact hP x hx
    ·rw [List.mem_singleton.1 hx]; exact hR r List.mem_cons_self) hR'
   refine ⟨a, b, c, fun x hx => d x ?_⟩
   rcases hx with hx | hx
   ·exact .inl (List.mem_append_left _ hx)
   ·rcases List.mem_cons.1 hx with rfl | hx
    ·exact .inl (List.mem_append_right _ (List.mem_singleton.2 rfl))
    ·exact .inr hx
end Go.Proofs.YtohdfcnjcpjdcaaGreat
/- The five keys of the driver: how they are told. Conditions: none. -/
namespace Go.Proofs.YtohdfcnjcpjdcaaGreat
open Go.RowKit
set_option linter.unusedSimpArgs false
theorem K5_ks : KsOk K5 := K5_ok
theorem K5_cases {k : ByteArray} (h : k ∈ K5) : k = ⟨#[120]⟩ ∨ k = ⟨#[121]⟩ ∨ k = ⟨#[121, 47, 49]⟩ ∨ k = ⟨#[121, 47, 50]⟩ ∨ k = ⟨#[122, 47, 97, 47, 98]⟩ := by
 simpa [K5] using h
/-- what a key is told as -/
def comK (k : ByteArray) : Bool := !decide (cutI ⟨#[]⟩ k 47 = -1)
def cutK (k : ByteArray) : ByteArray := k.extract 0 ((cutI ⟨#[]⟩ k 47).toNat + 1)
theorem cut0 : cutI ⟨#[]⟩ ⟨#[120]⟩ 47 = -1 := by rfl
theorem cut1 : cutI ⟨#[]⟩ ⟨#[121]⟩ 47 = -1 := by rfl
theorem cut2 : cutI ⟨#[]⟩ ⟨#[121, 47, 49]⟩ 47 = 1 := by rfl
theorem cut3 : cutI ⟨#[]⟩ ⟨#[121, 47, 50]⟩ 47 = 1 := by rfl
theorem cut4 : cutI ⟨#[]⟩ ⟨#[122, 47, 97, 47, 98]⟩ 47 = 1 := by rfl
def comR (k : ByteArray) : RowM := ⟨k, true, 0, false, false, 0, 0⟩
theorem rowD_five {v : Ver} (h : v.key ∈ K5) : (v.key = ⟨#[120]⟩ ∧ rowD (some 47) ⟨#[]⟩ v = rowV v true) ∨ (v.key = ⟨#[121]⟩ ∧ rowD (some 47) ⟨#[]⟩ v = rowV v true) ∨ (v.key = ⟨#[121, 47, 49]⟩ ∧ rowD (some 47) ⟨#[]⟩ v = comR ⟨#[121, 47]⟩) ∨
  (v.key = ⟨#[121, 47, 50]⟩ ∧ rowD (some 47) ⟨#[]⟩ v = comR ⟨#[121, 47]⟩) ∨ (v.key = ⟨#[122, 47, 97, 47, 98]⟩ ∧ rowD (some 47) ⟨#[]⟩ v = comR ⟨#[122, 47]⟩) := by
 have hr : rowD (some 47) ⟨#[]⟩ v = if 0 ≤ cutI ⟨#[]⟩ v.key 47 then (⟨v.key.extract 0 ((⟨#[]⟩ : ByteArray).size + (cutI ⟨#[]⟩ v.key 47).toNat + 1), true, 0, false, false, 0, 0⟩ : RowM) else rowV v true := rfl
 rcases K5_cases h with e | e | e | e | e
 ·refine .inl ⟨e, ?_⟩
  rw [hr, e, cut0, if_neg (by decide)]
 ·refine .inr (.inl ⟨e, ?_⟩)
  rw [hr, e, cut1, if_neg (by decide)]
 ·refine .inr (.inr (.inl ⟨e, ?_⟩))
  rw [hr, e, cut2, if_pos (by decide)]
  rfl
 ·refine .inr (.inr (.inr (.inl ⟨e, ?_⟩)))
  rw [hr, e, cut3, if_pos (by decide)]
  rfl
 ·refine .inr (.inr (.inr (.inr ⟨e, ?_⟩)))
  rw [hr, e, cut4, if_pos (by decide)]
  rfl
def kL (a b : List UInt8) : Bool := Op.bytesLess a b
theorem kLt_lit (a b : List UInt8) : kLt ⟨⟨a⟩⟩ ⟨⟨b⟩⟩ = kL a b := by unfold kLt; rw [toL, toL]; rfl
theorem rowD_w {a b : Ver} (ha : a.key ∈ K5) (hb : b.key ∈ K5) (h : kLt a.key b.key = true) (d : Option UInt8) (hd : d = none ∨ d = some 47) : W2 (rowD d ⟨#[]⟩ a) (rowD d ⟨#[]⟩ b) := by
 rcases hd with rfl | rfl
 ·exact .inl h
 ·rcases rowD_five ha with ⟨e, q⟩ | ⟨e, q⟩ | ⟨e, q⟩ | ⟨e, q⟩ | ⟨e, q⟩ <;> rcases rowD_five hb with ⟨e2, q2⟩ | ⟨e2, q2⟩ | ⟨e2, q2⟩ | ⟨e2, q2⟩ | ⟨e2, q2⟩ <;> rw [q, q2] <;> rw [e, e2, kLt_lit] at h <;> unfold W2 <;> first | (left; simp only [comR, rowV, e, e2, kLt_lit]; decide) | exact .inr rfl | (exfalso; revert h; decide)
theorem rowD_ne {a : Ver} (ha : a.key ∈ K5) (d : Option UInt8) (hd : d = none ∨ d = some 47) : leB (rowD d ⟨#[]⟩ a).key ⟨#[]⟩ = false := by
 have hl : ∀ l : List UInt8, l ≠ [] → leB ⟨⟨l⟩⟩ ⟨#[]⟩ = false := fun l h => by
  unfold leB
  rw [toL, toL]
  cases l with
  | nil => exact absurd rfl h
  | cons x l => rfl
 rcases hd with rfl | rfl
 ·show leB a.key ⟨#[]⟩ = false
  rcases K5_cases ha with e | e | e | e | e <;> rw [e] <;> exact hl _ (by simp)
 ·rcases rowD_five ha with ⟨e, q⟩ | ⟨e, q⟩ | ⟨e, q⟩ | ⟨e, q⟩ | ⟨e, q⟩ <;> rw [q] <;> first | (show leB a.key ⟨#[]⟩ = false; rw [e]; exact hl _ (by simp)) | exact hl _ (by simp)
/-! ### the rows of a bucket -/
def livL (s : Sta) (nm pre : ByteArray) : List Ver := K5.filterMap (liveK (s.vers.filter (selB nm pre)))
theorem rows_live {s : Sta} (hg : Good s) (hk : KeyOk s) {nm pre : ByteArray} {l : List Ver} (h1 : l.Perm (s.vers.filter (selB nm pre))) (h2 : l.Pairwise fun a b => vLt b a = false) : liveH (grpS l) = livL s nm pre := by
 have e := listS_eq K5_ks (fun x hx => hk x (List.mem_filter.1 hx).1) (hg.ids.filter _) h1 h2
 rw [e, liveH_is K5_ks]
 rfl
theorem livL_key {s : Sta} {nm pre : ByteArray} {v : Ver} (h : v ∈ livL s nm pre) : v.key ∈ K5 := by
 obtain ⟨k, hk, hv⟩ := List.mem_filterMap.1 h
 rw [(liveK_mem hv).2.1]
 exact hk
theorem livL_rise (s : Sta) (nm pre : ByteArray) : (livL s nm pre).Pairwise fun a b => kLt a.key b.key = true := by
 unfold livL
 rw [List.pairwise_filterMap]
 refine K5_ks.imp fun {a b} hab x hx y hy => ?_
 rw [(liveK_mem hx).2.1, (liveK_mem hy).2.1]
 exact hab
/-- all rows -/
def allR (s : Sta) (nm pre : ByteArray) (d : Option UInt8) : List RowM := ((livL s nm pre).map (rowD d pre)).foldl (putK ⟨#[]⟩) []
theorem all_put (s : Sta) (nm : ByteArray) {d : Option UInt8} (hd : d = none ∨ d = some 47) (after : ByteArray) :
  Rise (allR s nm ⟨#[]⟩ d) ∧ ((livL s nm ⟨#[]⟩).map (rowD d ⟨#[]⟩)).foldl (putK after) [] = (allR s nm ⟨#[]⟩ d).filter (fun r => !leB r.key after) ∧ (∀ x ∈ allR s nm ⟨#[]⟩ d, ∃ v ∈ livL s nm ⟨#[]⟩, x = rowD d ⟨#[]⟩ v) ∧ (∀ v ∈ livL s nm ⟨#[]⟩, rowD d ⟨#[]⟩ v ∈ allR s nm ⟨#[]⟩ d) := by
 obtain ⟨a, b, c, e⟩ := put_rise after (fun x => ∃ v ∈ livL s nm ⟨#[]⟩, x = rowD d ⟨#[]⟩ v) ((livL s nm ⟨#[]⟩).map (rowD d ⟨#[]⟩)) [] [] List.Pairwise.nil rfl (by
  rw [List.pairwise_map]
  exact (livL_rise s nm ⟨#[]⟩).imp_of_mem fun {a b} ha hb h => rowD_w (livL_key ha) (livL_key hb) h d hd) (fun x h => (by cases h)) (fun r hr => by
  obtain ⟨v, hv, rfl⟩ := List.mem_map.1 hr
  exact rowD_ne (livL_key hv) d hd) (fun x h => (by cases h)) (fun x hx => by
  obtain ⟨v, hv, rfl⟩ := List.mem_map.1 hx
  exact ⟨v, hv, rfl⟩)
 exact ⟨a, b, c, fun v hv => e _ (.inr (List.mem_map.2 ⟨v, hv, rfl⟩))⟩
theorem allR_len (s : Sta) (nm pre : ByteArray) (d : Option UInt8) : (allR s nm pre d).length ≤ 5 := by
 have h : ∀ (R out : List RowM), (R.foldl (putK ⟨#[]⟩) out).length ≤ out.length + R.length := by
  intro R
  induction R with
  | nil => intro out; exact Nat.le_refl _
  | cons r R ih =>
   intro out
   rw [List.foldl_cons, List.length_cons]
   have := ih (putK ⟨#[]⟩ out r)
   have : (putK ⟨#[]⟩ out r).length ≤ out.length + 1 := by
    unfold putK
    split
    ·omega
    ·rw [List.length_append]; exact Nat.le_refl _
   omega
 have h2 := h ((livL s nm pre).map (rowD d pre)) []
 rw [List.length_map, List.length_nil] at h2
 have h3 : (livL s nm pre).length ≤ K5.length := List.length_filterMap_le _ _
 have h4 : K5.length = 5 := rfl
 unfold allR
 omega
end Go.Proofs.YtohdfcnjcpjdcaaGreat
/- The rows that are told, page by page. Conditions: none. -/
namespace Go.Proofs.YtohdfcnjcpjdcaaGreat
open Go.RowKit
set_option linter.unusedSimpArgs false
theorem allR_row {s : Sta} {nm : ByteArray} {d : Option UInt8} (hd : d = none ∨ d = some 47) {x : RowM} (h : x ∈ allR s nm ⟨#[]⟩ d) : ∃ v ∈ livL s nm ⟨#[]⟩, x = rowD d ⟨#[]⟩ v := (all_put s nm hd ⟨#[]⟩).2.2.1 x h
theorem allR_rise (s : Sta) (nm : ByteArray) {d : Option UInt8} (hd : d = none ∨ d = some 47) : Rise (allR s nm ⟨#[]⟩ d) := (all_put s nm hd ⟨#[]⟩).1
theorem keysRows_first {s : Sta} (hg : Good s) (hk : KeyOk s) {nm : ByteArray} {d : Option UInt8} (hd : d = none ∨ d = some 47) {l : List Ver} (h1 : l.Perm (s.vers.filter (selB nm ⟨#[]⟩))) (h2 : l.Pairwise fun a b => vLt b a = false) :
  keysRows d ⟨#[]⟩ ⟨#[]⟩ (grpS l) = allR s nm ⟨#[]⟩ d := by
 rw [keysRows_live, rows_live hg hk h1 h2]
 rfl
section
variable {P : Program} {E : Env} {σ : St} {o : Oper}
theorem take_bop {rec_ : Cmd → St → Prop} {dr : Dr} {q : Nat} {p : Plan} {bo : BinOp} {ty t2 : TypeId} {x y : Operand} {vx vy : SV} {r : Bool} (ho : o.op = .binOp bo ty x y t2) (hx : ev σ x = some vx) (hy : ev σ y = some vy)
  (hg : ∀ w, (eqGuard bo ty x y vx.den vy.den).run P w = .ok () w) (hb : ∀ w, (binOp bo ty vx.den vy.den).run P w = .ok (.bool r) w) (hd : dOk E o.dst) (h : rec_ (dr.next q p) (σ.put o.dst (.c (.v (.bool r))))) : TakeStop P E rec_ dr q p o σ := by
 refine ⟨.c (.v (.bool r)), hd, fun a w hr => ?_, h⟩
 have hx' : a.eval x = vx.den := ev_den hr hx
 have hy' : a.eval y = vy.den := ev_den hr hy
 show (execOp a.eval o).run P w = .ok (.value (.bool r)) w
 unfold execOp
 simp only [ho, hx', hy', hg, hb, Sem.run_bind, Sem.run_pure, Result.andThen_ok]
end
/-- the key that a page begins behind -/
def aft (U : List RowM) : Nat → ByteArray
 | 0 => ⟨#[]⟩
 | k + 1 => ((U[k]?).map (·.key)).getD ⟨#[]⟩
end Go.Proofs.YtohdfcnjcpjdcaaGreat
/- What shares a prefix up to a delimiter: counted. Conditions: none. -/
namespace Go.Proofs.YtohdfcnjcpjdcaaGreat
open Go.RowKit
set_option linter.unusedSimpArgs false
set_option maxRecDepth 100000 in
set_option maxHeartbeats 16000000 in
theorem lKeys_long {s : Sta} {sv : Value} {nm pre dl after : ByteArray} {most : Int} {G0 : GW} (hW : G0.Wf) (hs : StaG G0 sv s) (hok : okSt s = true) (hp : pre.size ≤ maxLen) (hc : lchkS s nm pre most = 0) (hd : decide (1 < (dl.size : Int)) = true) :
  Calls Tryz.prog 17 #[sv, .string nm, .string pre, .string dl, .string after, .int .i64 most] G0.w (Ret G0 fun v _ => v = .tuple #[.slice none 0 0, .bool false, .int .i64 1]) := by
 obtain ⟨A1, c1, A2, c2, A3, c3, A4, c4, A5, c5, rfl, hP⟩ := hs.form
 have hml := max_le
 refine enterS (G := G0) (n := 105) 3000 hW Tryz.func17 rfl Tryz.ntmps17 (by simp) ?_
 have q : decide (lchkS s nm pre most = 0) = true := decide_eq_true hc
 simp only [go_sem, simprocAttr]
 intro g1
 refine pk (call_does (fun v _ => v = .int .i64 (lchkS s nm pre most)) rfl rfl (by kernel_rfl) rfl (dk rfl) (fun G hG => lcheck_does hG.wf (hP.mono (hG.le G0 (by simp))).g hok hp)) ?_
 rintro _ ⟨_, G1, rfl, hn1, rfl⟩
 clear hn1
 simp only [go_sem, simprocAttr, q, Bool.not_true, hd]
 refine fin_ret (G := G0) Tryz.results17 ?_
 simp only [go_sem, simprocAttr]
 intro aa w' _ _
 rfl
/-- 'r' tells 'p', as a row or as what it begins with -/
def hitR (p r : RowM) : Bool := (r.common && decide (r.key.size < p.key.size) && (p.key.extract 0 r.key.size).toList == r.key.toList) || rowSame r p
def cntH (p : RowM) (l : List RowM) : Nat := (l.filter (hitR p)).length
theorem cntH_succ {p : RowM} {l : List RowM} {i : Nat} {r : RowM} (h : l[i]? = some r) : cntH p (l.take (i + 1)) = cntH p (l.take i) + if hitR p r = true then 1 else 0 := by
 unfold cntH
 rw [List.take_add_one, h, List.filter_append, List.length_append]
 congr 1
 by_cases q : hitR p r = true <;> simp [q]
theorem one_hit {q : RowM → Bool} {x : RowM} : ∀ {l : List RowM}, Rise l → x ∈ l → (∀ r ∈ l, q r = true ↔ r = x) → (l.filter q).length = 1
 | [], _, h, _ => by cases h
 | a :: l, hr, hx, hq => by
  obtain ⟨h1, h2⟩ := List.pairwise_cons.1 hr
  by_cases ha : a = x
  ·subst ha
   have hn : l.filter q = [] := List.filter_eq_nil_iff.2 fun r hr' hqr => by
    have e := (hq r (List.mem_cons_of_mem _ hr')).1 hqr
    have := h1 r hr'
    rw [e, kLt_irr] at this
    cases this
   rw [List.filter_cons, if_pos ((hq a List.mem_cons_self).2 rfl), hn]
   rfl
  ·have hxl : x ∈ l := by
    rcases List.mem_cons.1 hx with h | h
    ·exact absurd h.symm ha
    ·exact h
   rw [List.filter_cons, if_neg fun h => ha ((hq a List.mem_cons_self).1 h)]
   exact one_hit h2 hxl fun r hr' => hq r (List.mem_cons_of_mem _ hr')
theorem live_same {s : Sta} {nm pre : ByteArray} {v u : Ver} (hv : v ∈ livL s nm pre) (hu : u ∈ livL s nm pre) (h : v.key = u.key) : v = u := by
 obtain ⟨k, hk, e⟩ := List.mem_filterMap.1 hv
 obtain ⟨k2, hk2, e2⟩ := List.mem_filterMap.1 hu
 have h1 := (liveK_mem e).2.1
 have h2 := (liveK_mem e2).2.1
 rw [h1, h2] at h
 subst h
 rw [e] at e2
 exact Option.some.inj e2
theorem hit_iff {s : Sta} {nm : ByteArray} {v u : Ver} (hv : v ∈ livL s nm ⟨#[]⟩) (hu : u ∈ livL s nm ⟨#[]⟩) : hitR (rowV v true) (rowD (some 47) ⟨#[]⟩ u) = true ↔ rowD (some 47) ⟨#[]⟩ u = rowD (some 47) ⟨#[]⟩ v := by
 have hvk := livL_key hv
 have huk := livL_key hu
 have hs := live_same hu hv
 have plain : ∀ w : Ver, hitR (rowV v true) (rowV w true) = true ↔ rowV w true = rowV v true := fun w => by
  unfold hitR
  show ((false && decide ((rowV w true).key.size < (rowV v true).key.size) && _) || _) = true ↔ _
  rw [Bool.false_and, Bool.false_and, Bool.false_or]
  exact rowSame_iff
 have comm : ∀ k : ByteArray, hitR (rowV v true) (comR k) = true ↔ (k.size < v.key.size ∧ v.key.extract 0 k.size = k) := fun k => by
  unfold hitR
  have hne : rowSame (comR k) (rowV v true) = false := bool_no fun q => by
   have := congrArg RowM.common (rowSame_eq q)
   exact Bool.noConfusion this
  rw [hne, Bool.or_false]
  show ((true && decide (k.size < v.key.size) && ((v.key.extract 0 k.size).toList == k.toList))) = true ↔ _
  rw [strEq]
  simp
 have pc : ∀ (w : Ver) (k : ByteArray), rowV w true ≠ comR k := fun w k h => by
  have := congrArg RowM.common h
  exact Bool.noConfusion this
 have pne : u.key ≠ v.key → ∀ k, (hitR (rowV v true) (rowV u true) = true ↔ rowV u true = comR k) := fun hne k => by
  rw [plain]
  exact ⟨fun h => absurd (congrArg RowM.key h) hne, fun h => absurd h (pc u k)⟩
 have cne : ∀ k, ¬ (k.size < v.key.size ∧ v.key.extract 0 k.size = k) → (hitR (rowV v true) (comR k) = true ↔ comR k = rowV v true) := fun k hne => by
  rw [comm]
  exact ⟨fun h => absurd h hne, fun h => absurd h.symm (pc v k)⟩
 have cno : ∀ k k' : ByteArray, k ≠ k' → ¬ (k.size < v.key.size ∧ v.key.extract 0 k.size = k) → (hitR (rowV v true) (comR k) = true ↔ comR k = comR k') := fun k k' hk hne => by
  rw [comm]
  exact ⟨fun h => absurd h hne, fun h => absurd (congrArg RowM.key h) hk⟩
 have cyes : ∀ k, (k.size < v.key.size ∧ v.key.extract 0 k.size = k) → (hitR (rowV v true) (comR k) = true ↔ comR k = comR k) := fun k h => by
  rw [comm]
  exact ⟨fun _ => rfl, fun _ => h⟩
 rcases rowD_five hvk with ⟨e, q⟩ | ⟨e, q⟩ | ⟨e, q⟩ | ⟨e, q⟩ | ⟨e, q⟩ <;> rcases rowD_five huk with ⟨e2, q2⟩ | ⟨e2, q2⟩ | ⟨e2, q2⟩ | ⟨e2, q2⟩ | ⟨e2, q2⟩ <;> rw [q, q2] <;> first
  | exact plain u
  | exact pne (by rw [e, e2]; simp) _
  | exact cne _ (by rw [e]; simp only [not_and]; intro h; first | exact absurd h (by decide) | exact fun h => by simp at h)
  | exact cyes _ (by rw [e]; exact ⟨by decide, rfl⟩)
  | exact cno _ _ (by simp) (by rw [e]; rintro ⟨h, h2⟩; revert h2; decide)
theorem cnt_one {s : Sta} {nm : ByteArray} {v : Ver} (hv : v ∈ livL s nm ⟨#[]⟩) : cntH (rowV v true) (allR s nm ⟨#[]⟩ (some 47)) = 1 := by
 refine one_hit (allR_rise s nm (.inr rfl)) ((all_put s nm (.inr rfl) ⟨#[]⟩).2.2.2 v hv) fun r hr => ?_
 obtain ⟨u, hu, rfl⟩ := allR_row (.inr rfl) hr
 exact hit_iff hv hu
/-- the rows, as they are told -/
theorem rowD_form {s : Sta} {nm : ByteArray} {r : RowM} (h : r ∈ allR s nm ⟨#[]⟩ (some 47)) : (∃ u, r = rowV u true) ∨ r = comR ⟨#[121, 47]⟩ ∨ r = comR ⟨#[122, 47]⟩ := by
 obtain ⟨u, hu, rfl⟩ := allR_row (.inr rfl) h
 rcases rowD_five (livL_key hu) with ⟨_, q⟩ | ⟨_, q⟩ | ⟨_, q⟩ | ⟨_, q⟩ | ⟨_, q⟩ <;> rw [q]
 ·exact .inl ⟨u, rfl⟩
 ·exact .inl ⟨u, rfl⟩
 ·exact .inr (.inl rfl)
 ·exact .inr (.inl rfl)
 ·exact .inr (.inr rfl)
theorem hitP (v u : Ver) : hitR (rowV v true) (rowV u true) = rowSame (rowV u true) (rowV v true) := rfl
theorem com_ne (k : ByteArray) (v : Ver) : rowSame (comR k) (rowV v true) = false := bool_no fun q => by
 have := congrArg RowM.common (rowSame_eq q)
 exact Bool.noConfusion this
theorem hitC (v : Ver) (k : ByteArray) : hitR (rowV v true) (comR k) = (decide (k.size < v.key.size) && (v.key.extract 0 k.size).toList == k.toList) := by
 unfold hitR
 rw [com_ne, Bool.or_false]
 rfl
end Go.Proofs.YtohdfcnjcpjdcaaGreat
