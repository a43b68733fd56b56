/- 'append(row, make(row, n)...)' onto a row of one's own: zeros. Names no program. Conditions: as each law states them. -/
import Derived.Test.YtomfladifefomaaSo
import Derived.Lib.AppendZerosOnto
namespace Go.Proofs.Ytomfladifefomaa
open Go.RowKit
theorem zero_cells_one (z : Value) (n : Nat) : (Builtin.zeroCells #[z] n).toList = List.replicate n z := by
  unfold Builtin.zeroCells
  apply List.ext_getElem
  · simp
  · intro i h1 h2
    simp [Nat.mod_one]
section
variable {P : Program}
theorem run_append_fill (w : World) (base : Nat) (t tn ty e : TypeId) (i : TypeInfo) (zv z : Value) (k kn : IntKind) (ht : P.underlying t = some (.slice e)) (htn : P.underlying tn = some (.int kn)) (hi : P.info? e = some i) (hz : i.zero = some zv) (hzc : zv.cells = #[z]) (hz1 : z.oneCell' = true)
    (hsize : i.size = 1) (v : Value) (n : Nat) (xs : List Value) (hown : w.ownsRow base e 1 v n xs) (m : Nat)
    (h63 : n + m ≤ maxLen) (hbytes : (n + m) * i.bytes ≤ 140737488355328) (hbase : base ≤ w.heap.size) :
    ∃ A' c' w', (Builtin.append_ #[t, tn] ty #[v, .int k (m : Int)]).run P w = .ok (.slice A' (n + m) c') w' ∧ w'.ownsRow base e 1 (.slice A' (n + m) c') (n + m) (xs ++ List.replicate m z) ∧ w.grownBy w' v.ownBlock ∧
      ((Value.slice A' (n + m) c').ownBlock = v.ownBlock ∨ (Value.slice A' (n + m) c').ownBlock = some w.heap.size) := by
  have hsmall : n + m ≤ 9223372036854775807 := by simp only [maxLen] at h63; omega
  have hw : IntKind.i64.wrap (m : Int) = m := by rw [IntKind.wrap_i64]; omega
  have hneg : ¬ ((m : Int) < 0) := by omega
  have hmb : m * i.bytes ≤ 140737488355328 := Nat.le_trans (Nat.mul_le_mul_right _ (by omega)) hbytes
  have h48i : ¬ (281474976710656 < (m : Int) * (i.bytes : Int)) := by rw [← Int.natCast_mul]; omega
  have hlen : (xs ++ List.replicate m z).length = (n + m) * 1 := by rw [List.length_append, hown.1, List.length_replicate, Nat.add_mul, Nat.mul_one m]
  have hzl : (Builtin.zeroCells zv.cells m).toList = List.replicate m z := by rw [hzc]; exact zero_cells_one z m
  have hza : ∀ m, Builtin.zeroCells zv.cells m = (List.replicate m z).toArray := fun m => by
    apply Array.ext'
    rw [hzc, zero_cells_one]
  have grown : ∀ (old : Nat), old < n + m → ∀ (row : Option Nat),
      (w.drew.alloc (.cells (xs.toArray ++ (List.replicate m z).toArray ++ (List.replicate (grownCap w (n + m) old e - (n + m)) z).toArray) e)).ownsRow base e 1
        (.slice (some ⟨w.heap.size, 0, none⟩) (n + m) (grownCap w (n + m) old e)) (n + m) (xs ++ List.replicate m z) ∧
      w.grownBy (w.drew.alloc (.cells (xs.toArray ++ (List.replicate m z).toArray ++ (List.replicate (grownCap w (n + m) old e - (n + m)) z).toArray) e)) row := by
    intro old ho row
    have hge := grownCap_ge w (n + m) old e
    have hcm : grownCap w (n + m) old e ≤ maxLen := grownCap_le_maxLen w (n + m) old e h63
    refine ⟨⟨hlen, .inr ⟨w.heap.size, _, _, rfl, hbase, heap_alloc_new w.drew _, hge, hcm, ?_, ?_⟩⟩, ⟨rfl, rfl, rfl, by simp, fun k hk _ => Below.heap_alloc w.drew _ k hk⟩⟩
    · have := hown.1
      simp only [Array.size_append, List.size_toArray, List.length_replicate]
      omega
    · simp only [Array.toList_append, List.append_assoc]
      rw [← List.append_assoc, ← hlen]
      exact List.take_left
  rcases hown.2 with ⟨rfl, rfl⟩ | ⟨g, cap, cur, rfl, hbg, hg, hnc, hcm, hcs, htake⟩
  · have hx : xs = [] := List.eq_nil_of_length_eq_zero (by simpa using hown.1)
    subst hx
    by_cases hm : m = 0
    · subst hm
      refine ⟨none, 0, w, ?_, World.ownsRow_nil w base e 1, ⟨rfl, rfl, rfl, Nat.le_refl _, fun _ _ _ => rfl⟩, Or.inl rfl⟩
      have hw0 : IntKind.i64.wrap 0 = 0 := by rw [IntKind.wrap_i64]; omega
      simp [Builtin.append_, run_underlying ht, run_underlying htn, sizeOf, typeInfo, hi, asInt, asIntOf, hw0]
    · have hr := Lib.run_append_nil_zeros (P := P) w t tn ty e i zv k kn ht htn hi hz m (by omega) (by omega) (by omega) (by omega)
      have hgr := grown 0 (by omega) (Value.ownBlock (.slice none 0 0))
      simp only [Nat.zero_add, List.nil_append, Array.empty_append, hza] at hgr hr ⊢
      exact ⟨_, _, _, hr, hgr.1, hgr.2, Or.inr rfl⟩
  · by_cases hroom : n + m ≤ cap
    · have hfit : n * 1 + (List.replicate m z).length ≤ cur.size := by rw [List.length_replicate, hcs]; omega
      have hst := run_storeCells_at P g (n * 1) e (List.replicate m z) 0 cur w hg (by simpa using hfit) (fun u hu => by rw [(List.mem_replicate.1 hu).2]; exact hz1)
      simp only [Nat.add_zero, Nat.mul_one] at hst
      have hr : (Builtin.append_ #[t, tn] ty #[.slice (some ⟨g, 0, none⟩) n cap, .int k (m : Int)]).run P w = .ok (.slice (some ⟨g, 0, none⟩) (n + m) cap) (w.setRow g (cur.toList.take (n * 1) ++ List.replicate m z ++ cur.toList.drop (n * 1 + m)).toArray) := by
        by_cases hm : m = 0
        · subst hm
          have hw0 : IntKind.i64.wrap 0 = 0 := by rw [IntKind.wrap_i64]; omega
          simp only [List.replicate_zero, List.length_nil, Nat.add_zero] at hst
          simp [Builtin.append_, run_underlying ht, run_underlying htn, sizeOf, typeInfo, hi, asInt, asIntOf, hw0, hnc, hsize, Addr.add_mid, hst]
        · simp [Builtin.append_, run_underlying ht, run_underlying htn, sizeOf, typeInfo, zeroValue, hi, hz, asInt, asIntOf, hw, hneg, h48i, hroom, hsize, hm, hza, Addr.add_mid, hst]
      refine ⟨_, _, _, hr, ⟨hlen, .inr ⟨g, cap, _, rfl, hbg, setRow_heap w g cur _ e _ hg, hroom, hcm, ?_, ?_⟩⟩, ⟨rfl, rfl, rfl, by simp, fun k _ hk => setRow_other w g k _ (fun e => hk (by simp [Value.ownBlock, e]))⟩, Or.inl rfl⟩
      · simp only [List.size_toArray, List.length_append, List.length_take, List.length_drop, Array.length_toList, List.length_replicate]
        simp only [List.length_replicate] at hfit
        omega
      · rw [htake, ← hlen]
        exact List.take_left
    · have holds : ∀ j u, xs[j]? = some u → w.cell? ((⟨g, 0, none⟩ : Addr).add j) = some u := hown.cells (g := g) rfl
      have hfo := run_firstCells_some (P := P) w.drew i.size n ⟨g, 0, none⟩ n cap xs (by rw [hsize]; exact hown.1) (by simpa using holds)
      rw [hsize] at hfo
      have hm : m ≠ 0 := by omega
      have hr := Lib.run_append_grow_zeros (P := P) w t tn ty e i zv k kn ht htn hi hz (some ⟨g, 0, none⟩) n cap xs (by rw [hsize]; exact hfo) m (by omega) (by omega) (by omega) (by omega) (by omega) (growslice_fits (need := n + m) (old := cap) (bytes := i.bytes) (by omega) hbytes)
      simp only [hza] at hr
      have hgr := grown cap (by omega) (Value.ownBlock (.slice (some ⟨g, 0, none⟩) n cap))
      exact ⟨_, _, _, hr, hgr.1, hgr.2, Or.inr rfl⟩
end
section
variable {P : Program} {E : Env} {σ : St} {o : Oper}
theorem append_fill_does {s x : Operand} {t tn e by_ n m : Nat} {kn k : IntKind} {z : Value} {R1 R2 : List Rw} {v : Value} {xs : List Value} (ho : o.op = .call ⟨.builtin .append, #[s, x], #[t, tn]⟩) (ht : tSlice P t = some e) (htn : tInt P tn = some kn) (ha : tApp P e = some (1, by_)) (hzr : tZero P e = some [z])
    (hR : σ.rows = R1 ++ ⟨v, e, 1, n, xs⟩ :: R2) (hs : ev σ s = some (.c (.v v))) {j : Int} (hx : ev σ x = some (.c (.v (.int k j)))) (hj : j = (m : Int)) (hd : dOk E o.dst) (h1 : z.oneCell' = true)
    (h63 : n + m ≤ maxLen) (hb : (n + m) * by_ ≤ 140737488355328) :
    Does P E σ o (fun σ' => ∃ A' c', σ' = (σ.rowsTo (R1 ++ ⟨.slice A' (n + m) c', e, 1, n + m, xs ++ List.replicate m z⟩ :: R2)).put o.dst (.c (.v (.slice A' (n + m) c')))) := by
  intro a w Q next hr hnx
  subst hj
  obtain ⟨i, zv, hi, hz, hk, hby, hzs, h0⟩ := tApp_spec ha
  obtain ⟨i', zv', hi', hz', hzl⟩ := tZero_spec hzr
  rw [hi] at hi'; cases hi'
  rw [hz] at hz'; cases hz'
  have hzc : zv.cells = #[z] := by apply Array.ext'; rw [hzl]
  have hrow := hr.rows _ (by rw [hR]; simp : (⟨v, e, 1, n, xs⟩ : Rw) ∈ σ.rows)
  have hs' : a.eval s = v := ev_den hr.see hs
  have hx' : a.eval x = .int k (m : Int) := ev_den hr.see hx
  subst hby
  obtain ⟨A', c', w', hrun, hown, hg, hat⟩ := run_append_fill (P := P) w E.W.heap.size t tn o.type e i zv z k kn (tSlice_spec ht) (tInt_spec htn) hi hz hzc h1 hk v n xs hrow m h63 hb hr.chg.size
  refine Lib.wp_append_run w s x t tn ho v _ hs' hx' _ _ hrun ?_
  exact hnx _ _ _ ⟨A', c', rfl⟩ ((hr.grow (r' := ⟨.slice A' (n + m) c', e, 1, n + m, xs ++ List.replicate m z⟩) hR hg hown hat).put o.dst (.c (.v (.slice A' (n + m) c'))) (dOk_lt hd))
end
end Go.Proofs.Ytomfladifefomaa
