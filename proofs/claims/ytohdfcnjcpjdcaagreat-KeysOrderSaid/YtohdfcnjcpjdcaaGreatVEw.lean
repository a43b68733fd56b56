/- 'icehousekeep.KeysOrder' returns true for all raw things. Conditions: none. -/
import Derived.Test.YtohdfcnjcpjdcaaGreatVDw
import Derived.Test.YtohdfcnjcpjdcaaGreatV17w
namespace Go.Proofs.YtohdfcnjcpjdcaaGreat
open Go.RowKit
set_option linter.unusedSimpArgs false
theorem lastV_filter (p : Ver → Bool) : ∀ l : List Ver, lastV p l = (l.filter p).reverse.head?
 | [] => rfl
 | x :: l => by
  unfold lastV
  rw [lastV_filter p l, List.filter_cons]
  cases hp : p x with
  | true =>
   simp only [if_true]
   rw [List.reverse_cons]
   cases h : (l.filter p).reverse with
   | nil => rfl
   | cons y r => rfl
  | false =>
   simp only [Bool.false_eq_true, if_false]
   cases h : (l.filter p).reverse with
   | nil => rfl
   | cons y r => rfl
theorem liveK_last {s : Sta} {nm pre k : ByteArray} (hp : prefB k pre = true) : liveK (s.vers.filter (selB nm pre)) k = liveO (lastV (keyIs nm k) s.vers) := by
 have e : (s.vers.filter (selB nm pre)).filter (fun v => decide (v.key = k)) = s.vers.filter (keyIs nm k) := by
  rw [List.filter_filter]
  refine List.filter_congr fun x _ => ?_
  unfold selB outB keyIs
  by_cases h : x.key = k
  ·rw [h, hp]; simp
  ·simp [h]
 unfold liveK
 rw [liveG_head, lastV_filter, ← e]
 rfl
end Go.Proofs.YtohdfcnjcpjdcaaGreat
/- Keys with a prefix: those that are there, in their order. Conditions: none. -/
namespace Go.Proofs.YtohdfcnjcpjdcaaGreat
open Go.RowKit
set_option linter.unusedSimpArgs false
theorem pref_cases (p : Int) : prefS p = ⟨#[]⟩ ∨ prefS p = ⟨#[121]⟩ ∨ prefS p = ⟨#[122, 47]⟩ := by
 unfold prefS
 split
 ·exact .inl rfl
 ·split
  ·exact .inr (.inl rfl)
  ·exact .inr (.inr rfl)
theorem pref_size (p : Int) : (prefS p).size ≤ 2 := by
 rcases pref_cases p with h | h | h <;> rw [h] <;> decide
theorem chk_pre {s : Sta} (h : nmB s.bkts = AB) (n p : Int) : lchkS s (nameS n) (prefS p) 50 = 0 := by
 unfold lchkS
 rw [any_name h, if_neg (by simp)]
 rcases pref_cases p with q | q | q <;> rw [q] <;> rfl
theorem chk_c {s : Sta} (h : nmB s.bkts = AB) (pre : ByteArray) : lchkS s ⟨#[99]⟩ pre 1 = 6 := by
 have e : (s.bkts.any fun b => decide (b.name = ⟨#[99]⟩)) = (nmB s.bkts).any fun x => decide (x = ⟨#[99]⟩) := by
  unfold nmB
  rw [List.any_map]
  rfl
 unfold lchkS
 rw [e, h, if_pos (by decide)]
theorem fold_all : ∀ (R out : List RowM), Rise (out ++ R) → (∀ r ∈ R, leB r.key ⟨#[]⟩ = false) → R.foldl (putK ⟨#[]⟩) out = out ++ R
 | [], out, _, _ => (List.append_nil out).symm
 | r :: R, out, h1, h2 => by
  have hl : lastSame out r = false := bool_no fun q => by
   have := (List.pairwise_append.1 h1).2.2 r (List.mem_of_getLast? (lastSame_some.1 q)) r List.mem_cons_self
   rw [kLt_irr] at this
   cases this
  rw [List.foldl_cons, putK_new (h2 r List.mem_cons_self) hl, fold_all R (out ++ [r]) (by simpa using h1) (fun x hx => h2 x (List.mem_cons_of_mem _ hx))]
  simp
theorem keysRows_plain {s : Sta} (hg : Good s) (hk : KeyOk s) {nm pre : ByteArray} {l : List Ver} (h1 : l.Perm (s.vers.filter (selB nm pre))) (h2 : l.Pairwise fun a b => vLt b a = false) :
  keysRows none pre ⟨#[]⟩ (grpS l) = (livL s nm pre).map (fun v => rowV v true) := by
 rw [keysRows_live, rows_live hg hk h1 h2]
 refine fold_all ((livL s nm pre).map (fun v => rowV v true)) [] ?_ ?_
 ·rw [List.nil_append]
  unfold Rise
  rw [List.pairwise_map]
  exact livL_rise s nm pre
 ·intro r hr
  obtain ⟨v, hv, rfl⟩ := List.mem_map.1 hr
  exact rowD_ne (livL_key hv) none (.inl rfl)
theorem live_at {s : Sta} {nm pre : ByteArray} {v : Ver} (h : v ∈ livL s nm pre) : prefB v.key pre = true ∧ lastV (keyIs nm v.key) s.vers = some v ∧ v.marker = false := by
 obtain ⟨k, hk, hv⟩ := List.mem_filterMap.1 h
 obtain ⟨_, h2, h3⟩ := liveK_mem hv
 subst h2
 have hp : prefB v.key pre = true := by
  cases hp : prefB v.key pre with
  | true => rfl
  | false => rw [liveK_no hp] at hv; cases hv
 rw [liveK_last hp] at hv
 refine ⟨hp, ?_, h3⟩
 cases hl : lastV (keyIs nm v.key) s.vers with
 | none => rw [hl] at hv; cases hv
 | some x =>
  rw [hl] at hv
  unfold liveO at hv
  simp only at hv
  split at hv
  ·cases hv
  ·exact hv
def isK (s : Sta) (nm pre k : ByteArray) : Bool := (liveK (s.vers.filter (selB nm pre)) k).isSome
def wantC (s : Sta) (nm pre : ByteArray) : Nat → Nat
 | 0 => 0
 | j + 1 => wantC s nm pre j + if isK s nm pre (keyS (j : Int)) = true then 1 else 0
theorem wantC_le (s : Sta) (nm pre : ByteArray) : ∀ j, wantC s nm pre j ≤ j
 | 0 => Nat.le_refl _
 | j + 1 => by
  have := wantC_le s nm pre j
  unfold wantC
  split <;> omega
theorem fm_len {α β : Type} (f : α → Option β) : ∀ l : List α, (l.filterMap f).length = (l.map fun k => if (f k).isSome = true then 1 else 0).sum
 | [] => rfl
 | a :: l => by
  rw [List.map_cons, List.sum_cons, ← fm_len f l]
  cases h : f a with
  | none => rw [List.filterMap_cons_none h]; simp
  | some b => rw [List.filterMap_cons_some h]; simp; omega
theorem want_all (s : Sta) (nm pre : ByteArray) : wantC s nm pre 5 = (livL s nm pre).length := by
 have e : wantC s nm pre 5 = 0 + (if isK s nm pre ⟨#[120]⟩ = true then 1 else 0) + (if isK s nm pre ⟨#[121, 47, 49]⟩ = true then 1 else 0) + (if isK s nm pre ⟨#[121, 47, 50]⟩ = true then 1 else 0) + (if isK s nm pre ⟨#[122, 47, 97, 47, 98]⟩ = true then 1 else 0) + (if isK s nm pre ⟨#[121]⟩ = true then 1 else 0) := rfl
 rw [e]
 have h := fm_len (liveK (s.vers.filter (selB nm pre))) K5
 have e2 : (K5.map fun k => if isK s nm pre k = true then 1 else 0).sum = (if isK s nm pre ⟨#[120]⟩ = true then 1 else 0) + ((if isK s nm pre ⟨#[121]⟩ = true then 1 else 0) + ((if isK s nm pre ⟨#[121, 47, 49]⟩ = true then 1 else 0) + ((if isK s nm pre ⟨#[121, 47, 50]⟩ = true then 1 else 0) + ((if isK s nm pre ⟨#[122, 47, 97, 47, 98]⟩ = true then 1 else 0) + 0)))) := rfl
 have e3 : (livL s nm pre).length = (K5.map fun k => if isK s nm pre k = true then 1 else 0).sum := h
 rw [e3, e2]
 omega
theorem isK_some {s : Sta} {nm pre k : ByteArray} {v : Ver} (h : lastV (keyIs nm k) s.vers = some v) : isK s nm pre k = (!v.marker && prefB k pre) := by
 unfold isK
 cases hp : prefB k pre with
 | false => rw [liveK_no hp, Bool.and_false]; rfl
 | true =>
  rw [liveK_last hp, h, Bool.and_true]
  unfold liveO
  simp only
  cases v.marker <;> rfl
theorem isK_none {s : Sta} {nm pre k : ByteArray} (h : lastV (keyIs nm k) s.vers = none) : isK s nm pre k = false := by
 unfold isK
 cases hp : prefB k pre with
 | false => rw [liveK_no hp]; rfl
 | true => rw [liveK_last hp, h]; rfl
end Go.Proofs.YtohdfcnjcpjdcaaGreat
