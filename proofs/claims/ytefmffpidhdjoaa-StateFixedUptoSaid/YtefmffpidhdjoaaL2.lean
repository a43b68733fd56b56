/- What is found in a state that may be; changes that leave it one. Conditions: none. -/
import Derived.Test.YtefmffpidhdjoaaL1
namespace Go.Proofs.Ytefmffpidhdjoaa
open Go.RowKit
set_option linter.unusedSimpArgs false
/-! ### what is found -/
theorem hit_at {α : Type} {lt eq : α → Bool} {l : List α} {i : Nat} {x : α} (hx : l[i]? = some x) (h1 : ∀ k y, k < i → l[k]? = some y → lt y = true) (h2 : lt x = false) (h3 : eq x = true) : ahead lt l = i ∧ hit lt eq l = true := by
  have e : ahead lt l = i := ahead_is (by have := (List.getElem?_eq_some_iff.1 hx).1; omega) h1 (fun y hy => by rw [hx] at hy; cases hy; exact h2)
  refine ⟨e, ?_⟩
  unfold hit
  rw [e, hx]
  exact h3
theorem pair_get {α : Type} {R : α → α → Prop} {l : List α} (h : l.Pairwise R) {k i : Nat} {x y : α} (hk : l[k]? = some x) (hi : l[i]? = some y) (hlt : k < i) : R x y := by
  rw [List.pairwise_iff_getElem] at h
  obtain ⟨hk', rfl⟩ := List.getElem?_eq_some_iff.1 hk
  obtain ⟨hi', rfl⟩ := List.getElem?_eq_some_iff.1 hi
  exact h k i hk' hi' hlt
theorem pair_one {α : Type} {f : α → Int} {l : List α} (h : l.Pairwise fun a b => f a < f b) {k i : Nat} {x y : α} (hk : l[k]? = some x) (hi : l[i]? = some y) (e : f x = f y) : k = i := by
  rcases Nat.lt_trichotomy k i with q | q | q
  · have := pair_get h hk hi q; omega
  · exact q
  · have := pair_get h hi hk q; omega
theorem ver_at {s : Sta} (h : s.vers.Pairwise fun a b => a.id < b.id) {i : Nat} {v : Ver} (hv : s.vers[i]? = some v) : verAt s v.id = i ∧ verIn s v.id = true := by
  refine hit_at hv (fun k y hk hy => ?_) (decide_eq_false fun q => ?_) (decide_eq_true ((cmpI_eq _ _).2 rfl))
  · exact decide_eq_true ((cmpI_lt _ _).2 (pair_get h hy hv hk))
  · have := (cmpI_lt _ _).1 q; omega
theorem ver_hit {s : Sta} {t : Int} (h : verIn s t = true) : ∃ v, s.vers[verAt s t]? = some v ∧ v.id = t := by
  obtain ⟨v, hv, e⟩ := hit_some h
  exact ⟨v, hv, (cmpI_eq _ _).1 (of_decide_eq_true e)⟩
theorem verIn_iff {s : Sta} (h : s.vers.Pairwise fun a b => a.id < b.id) {t : Int} : verIn s t = true ↔ ∃ v ∈ s.vers, v.id = t :=
  ⟨fun q => let ⟨v, hv, e⟩ := ver_hit q; ⟨v, List.mem_of_getElem? hv, e⟩, fun ⟨v, hv, e⟩ => by
    obtain ⟨i, hi⟩ := List.mem_iff_getElem?.1 hv
    rw [← e]
    exact (ver_at h hi).2⟩
theorem verIn_no {s : Sta} (h : s.vers.Pairwise fun a b => a.id < b.id) {t : Int} (hn : ∀ v ∈ s.vers, v.id ≠ t) : verIn s t = false := bool_no fun q => let ⟨v, hv, e⟩ := (verIn_iff h).1 q; hn v hv e
theorem tierAt_of {s : Sta} (h : s.vers.Pairwise fun a b => a.id < b.id) {v : Ver} (hv : v ∈ s.vers) : tierAt s v.id = v.tier := by
  obtain ⟨i, hi⟩ := List.mem_iff_getElem?.1 hv
  unfold tierAt
  rw [(ver_at h hi).1, hi]
  rfl
structure AskOk (l : List Ver) (a : Ask) : Prop where
  cold : ∃ v ∈ l, v.id = a.ver ∧ v.tier = 2
  d1 : 1 ≤ a.days
  d2 : a.days ≤ 1000
  c1 : 0 ≤ a.cls
  c2 : a.cls ≤ 2
theorem askOut_iff {s : Sta} (h : s.vers.Pairwise fun a b => a.id < b.id) {a : Ask} : askOut s a = false ↔ AskOk s.vers a := by
  unfold askOut
  simp only [Bool.or_eq_false_iff, Bool.not_eq_false', decide_eq_true_eq, decide_eq_false_iff_not]
  constructor
  · rintro ⟨⟨⟨⟨⟨h1, h2⟩, h3⟩, h4⟩, h5⟩, h6⟩
    obtain ⟨v, hv, e⟩ := (verIn_iff h).1 h1
    rw [← e, tierAt_of h hv] at h2
    exact ⟨⟨v, hv, e, h2⟩, by omega, by omega, by omega, by omega⟩
  · rintro ⟨⟨v, hv, e, h2⟩, h3, h4, h5, h6⟩
    refine ⟨⟨⟨⟨⟨(verIn_iff h).2 ⟨v, hv, e⟩, ?_⟩, by omega⟩, by omega⟩, by omega⟩, by omega⟩
    rw [← e, tierAt_of h hv]
    exact h2
theorem upl_at {s : Sta} (h : s.upls.Pairwise fun a b => a.id < b.id) {i : Nat} {v : Upl} (hv : s.upls[i]? = some v) : uplAt s v.id = i ∧ uplIn s v.id = true := by
  refine hit_at hv (fun k y hk hy => ?_) (decide_eq_false fun q => ?_) (decide_eq_true ((cmpI_eq _ _).2 rfl))
  · exact decide_eq_true ((cmpI_lt _ _).2 (pair_get h hy hv hk))
  · have := (cmpI_lt _ _).1 q; omega
theorem gone_at {s : Sta} (h : goneB s.gone = true) {i : Nat} {x : Int} (hx : s.gone[i]? = some x) : goneAt s x = i ∧ goneIn s x = true := by
  refine hit_at hx (fun k y hk hy => decide_eq_true (pair_get (gone_pair h) hy hx hk)) (decide_eq_false fun q => ?_) (decide_eq_true rfl)
  omega
theorem goneIn_iff {s : Sta} (h : goneB s.gone = true) {t : Int} : goneIn s t = true ↔ t ∈ s.gone :=
  ⟨fun q => by
    obtain ⟨v, hv, e⟩ := hit_some q
    rw [← of_decide_eq_true e]
    exact List.mem_of_getElem? hv, fun hv => by
    obtain ⟨i, hi⟩ := List.mem_iff_getElem?.1 hv
    exact (gone_at h hi).2⟩
theorem bkt_at {s : Sta} (h : bktsB s.bkts = true) {i : Nat} {b : Bkt} (hb : s.bkts[i]? = some b) : bktAt s b.name = i ∧ bktIn s b.name = true := by
  have hp : s.bkts.Pairwise fun a b => Op.bytesLess a.name.toList b.name.toList = true := pairwise_next (lt := fun a b : Bkt => Op.bytesLess a.name.toList b.name.toList = true) (fun a b c => less_trans _ _ _) fun k x y hx hy => bkts_less h hx hy
  refine hit_at hb (fun k y hk hy => ?_) (decide_eq_false fun q => ?_) (decide_eq_true ((cmpS_eq _ _).2 rfl))
  · show decide (cmpS y.name b.name < 0) = true
    rw [cmpS_lt]
    exact pair_get hp hy hb hk
  · rw [(cmpS_eq _ _).2 rfl] at q; omega
theorem bkt_hit {s : Sta} {t : ByteArray} (h : bktIn s t = true) : ∃ b, s.bkts[bktAt s t]? = some b ∧ b.name = t := by
  obtain ⟨v, hv, e⟩ := hit_some h
  exact ⟨v, hv, (cmpS_eq _ _).1 (of_decide_eq_true e)⟩
theorem bktIn_iff {s : Sta} (h : bktsB s.bkts = true) {t : ByteArray} : bktIn s t = true ↔ ∃ b ∈ s.bkts, b.name = t :=
  ⟨fun q => let ⟨v, hv, e⟩ := bkt_hit q; ⟨v, List.mem_of_getElem? hv, e⟩, fun ⟨v, hv, e⟩ => by
    obtain ⟨i, hi⟩ := List.mem_iff_getElem?.1 hv
    rw [← e]
    exact (bkt_at h hi).2⟩
/-! ### changes -/
theorem Fr.sub {u l l' : List Int} (h : Fr u l) (hs : l'.Sublist l) : Fr u l' := ⟨fun x hx => h.1 x (hs.subset hx), h.2.sublist hs⟩
theorem Fr.perm {u l l' : List Int} (h : Fr u l) (hs : l.Perm l') : Fr u l' := ⟨fun x hx => h.1 x (hs.mem_iff.2 hx), hs.nodup_iff.1 h.2⟩
theorem nulK_sub {l l' : List Ver} (h : l'.Sublist l) : (nulK l').Sublist (nulK l) := (h.filter _).map _
theorem flatMap_sub {α β : Type} (f : α → List β) {l l' : List α} (h : l'.Sublist l) : (l'.flatMap f).Sublist (l.flatMap f) := by
  induction h with
  | slnil => exact List.Sublist.refl _
  | cons x _ ih => rw [List.flatMap_cons]; exact ih.trans (List.sublist_append_right _ _)
  | cons_cons x _ ih => rw [List.flatMap_cons, List.flatMap_cons]; exact (List.Sublist.refl _).append ih
theorem secsV_sub {l l' : List Ver} (h : l'.Sublist l) : (secsV l').Sublist (secsV l) := flatMap_sub _ h
theorem mem_erase {α : Type} {l : List α} {i : Nat} {x : α} (h : x ∈ l.eraseIdx i) : ∃ j, j ≠ i ∧ l[j]? = some x := by
  rw [List.eraseIdx_eq_take_drop_succ] at h
  rcases List.mem_append.1 h with h | h
  · obtain ⟨k, hk, rfl⟩ := List.mem_take_iff_getElem.1 h
    exact ⟨k, by omega, List.getElem?_eq_getElem (by omega)⟩
  · obtain ⟨k, hk⟩ := List.mem_iff_getElem?.1 h
    rw [List.getElem?_drop] at hk
    exact ⟨i + 1 + k, by omega, hk⟩
theorem erase_mem {α : Type} {l : List α} {i j : Nat} {x : α} (hj : j ≠ i) (h : l[j]? = some x) : x ∈ l.eraseIdx i := by
  rw [List.eraseIdx_eq_take_drop_succ]
  have hl := (List.getElem?_eq_some_iff.1 h).1
  by_cases q : j < i
  · exact List.mem_append_left _ (List.mem_of_getElem? (i := j) (by rw [List.getElem?_take, if_pos q]; exact h))
  · exact List.mem_append_right _ (List.mem_of_getElem? (i := j - (i + 1)) (by rw [List.getElem?_drop, show i + 1 + (j - (i + 1)) = j from by omega]; exact h))
theorem good_drop {s : Sta} (h : Good s) {i : Nat} {v : Ver} (hv : s.vers[i]? = some v) : Good (dropS s i v.id) := by
  have hs : (s.vers.eraseIdx i).Sublist s.vers := List.eraseIdx_sublist _ _
  refine ⟨h.n1, h.n2, h.c1, h.c2, h.gone, h.bkts, fun x hx => h.snd x (hs.subset hx), h.ids.sublist hs, h.nul.sublist (nulK_sub hs), Nat.le_trans hs.length_le h.vlen, h.out, h.prt, h.uids, h.ulen, h.fr.sub ((secsV_sub hs).append (List.Sublist.refl _)), ?_⟩
  have hids : (s.vers.eraseIdx i).Pairwise fun a b => a.id < b.id := h.ids.sublist hs
  refine ⟨fun a ha => ?_, h.queue.one.sublist List.filter_sublist, Nat.le_trans (List.filter_sublist.length_le) h.queue.len⟩
  rw [askOut_iff (s := dropS s i v.id) hids]
  obtain ⟨ha1, ha2⟩ := List.mem_filter.1 ha
  obtain ⟨⟨w, hw, e, ht⟩, d1, d2, c1, c2⟩ := (askOut_iff h.ids).1 (h.queue.out a ha1)
  refine ⟨⟨w, ?_, e, ht⟩, d1, d2, c1, c2⟩
  obtain ⟨j, hj⟩ := List.mem_iff_getElem?.1 hw
  refine erase_mem (j := j) (fun q => ?_) hj
  subst q
  rw [hv] at hj
  cases hj
  simp [e] at ha2
end Go.Proofs.Ytefmffpidhdjoaa
