/- A text's bytes appended to a row. Names no program. Conditions: as each law states them. -/
import Derived.Test.YtohdfcnjcpjdcaaDoorP12q
import Derived.Lib.AppendStr
namespace Go.Proofs.YtohdfcnjcpjdcaaDoor
open Go.RowKit
open Go.Lib (strCells strCells_length strCells_oneCell run_firstCells_string run_append_room_string run_append_grow_string)
set_option linter.unusedSimpArgs false
section
variable {P : Program}
/-- 'append' of a text onto a row of bytes, whether there is room, or not, or none at all -/
theorem run_append_row_str (w : World) (t u ty e : TypeId) (i : TypeInfo) (z : Value) (ht : P.underlying t = some (.slice e)) (hu : P.underlying u = some .string) (hi : P.info? e = some i) (hz : i.zero = some z)
    (hsize : i.size = 1) (hby : i.bytes = 1) (hzs : z.cells.size = 1)
    (v : Value) (n : Nat) (xs : List Value) (hown : RowIs w ⟨v, e, 1, n, xs⟩) (s : ByteArray)
    (h63 : n + s.size ≤ maxLen) (hbytes : n + s.size ≤ 140737488355328) :
    ∃ A' c' w', (Builtin.append_ #[t, u] ty #[v, .string s]).run P w = .ok (.slice A' (n + s.size) c') w' ∧ RowIs w' ⟨.slice A' (n + s.size) c', e, 1, n + s.size, xs ++ strCells s⟩ ∧ w.grownBy w' (rb v) ∧
      ∀ g, rb (.slice A' (n + s.size) c') = some g → rb v = some g ∨ w.heap.size ≤ g := by
  have hsmall : n + s.size ≤ 9223372036854775807 := by simp only [maxLen] at h63; omega
  have fresh : ∀ (old : Nat) (row : Option Nat) (xs : List Value), xs.length = n → old < n + s.size →
      RowIs (w.drew.alloc (.cells (xs.toArray ++ (strCells s).toArray ++ Builtin.zeroCells z.cells (grownCap w (n + s.size) old e - (n + s.size))) e)) ⟨.slice (some ⟨w.heap.size, 0, none⟩) (n + s.size) (grownCap w (n + s.size) old e), e, 1, n + s.size, xs ++ strCells s⟩ ∧
      w.grownBy (w.drew.alloc (.cells (xs.toArray ++ (strCells s).toArray ++ Builtin.zeroCells z.cells (grownCap w (n + s.size) old e - (n + s.size))) e)) row ∧
      ∀ g, rb (.slice (some ⟨w.heap.size, 0, none⟩) (n + s.size) (grownCap w (n + s.size) old e)) = some g → w.heap.size ≤ g := by
    intro old row xs hxl ho
    have hge := grownCap_ge w (n + s.size) old e
    have hcm : grownCap w (n + s.size) old e ≤ maxLen := grownCap_le_maxLen w (n + s.size) old e h63
    have hlen : (xs ++ strCells s).length = (n + s.size) * 1 := by rw [List.length_append, hxl, strCells_length, Nat.mul_one]
    refine ⟨.inr (.inl ⟨hlen, .inr ⟨w.heap.size, _, _, rfl, Nat.zero_le _, heap_alloc_new w.drew _, hge, hcm, ?_, ?_⟩⟩), ⟨rfl, rfl, rfl, by simp, fun k hk _ => Below.heap_alloc w.drew _ k hk⟩, fun g hg => ?_⟩
    · simp only [Array.size_append, List.size_toArray, size_zeroCells, hzs, hxl, strCells_length]
      omega
    · simp only [Array.toList_append, List.append_assoc]
      rw [← List.append_assoc, ← hlen]
      exact List.take_left
    · unfold rb at hg
      simp only at hg
      split at hg
      · cases hg
      · cases hg; exact Nat.le_refl _
  have empty : ∀ B, v = .slice B 0 0 → n = 0 → xs = [] → ∃ A' c' w', (Builtin.append_ #[t, u] ty #[v, .string s]).run P w = .ok (.slice A' (n + s.size) c') w' ∧ RowIs w' ⟨.slice A' (n + s.size) c', e, 1, n + s.size, xs ++ strCells s⟩ ∧ w.grownBy w' (rb v) ∧
      ∀ g, rb (.slice A' (n + s.size) c') = some g → rb v = some g ∨ w.heap.size ≤ g := by
    rintro B rfl rfl rfl
    by_cases hm : s.size = 0
    · have hn : strCells s = [] := List.eq_nil_of_length_eq_zero (by rw [strCells_length]; exact hm)
      have hf := run_firstCells_string (P := P) w 1 s
      rw [hm, hn] at hf
      refine ⟨B, 0, w, ?_, by rw [hm, hn]; exact .inl ⟨B, rfl, rfl, rfl⟩, World.grownBy.refl w _, fun g hg => by rw [hm] at hg; exact .inl hg⟩
      cases B <;> simp [Builtin.append_, run_underlying ht, run_underlying hu, sizeOf, typeInfo, hi, hsize, Builtin.lenOf, hm, hf, storeCells]
    · obtain ⟨f1, f2, f3⟩ := fresh 0 (rb (.slice B 0 0)) [] rfl (by omega)
      cases B with
      | none =>
        have hr := run_append_nil_string (P := P) w t u ty e i z ht hu hi hz s (by omega) (by omega) (by rw [hby]; omega)
        have e1 : (s.data.map fun b => Value.int .u8 b.toNat) = (strCells s).toArray := by
          apply Array.ext'
          simp [strCells]
        rw [e1] at hr
        simp only [Nat.zero_add, List.nil_append, Array.empty_append] at f1 f2 f3 ⊢
        exact ⟨_, _, _, hr, f1, f2, fun g hg => .inr (f3 g hg)⟩
      | some b =>
        have hr := run_append_grow_string (P := P) w t u ty e i z ht hu hi hz b 0 0 [] (by simp) (by simp) s (by omega) (by omega) (by rw [hby]; exact growslice_fits (by omega) (by omega))
        exact ⟨_, _, _, hr, f1, f2, fun g hg => .inr (f3 g hg)⟩
  rcases row_cases (by omega) hown with ⟨B, hv, hn, hx⟩ | ⟨hvb, h⟩
  · exact empty B hv hn hx
  · have hxl : xs.length = n := by simpa using h.1
    have hlen : (xs ++ strCells s).length = (n + s.size) * 1 := by rw [List.length_append, hxl, strCells_length, Nat.mul_one]
    rcases h.2 with ⟨q, q2⟩ | ⟨g, cap, cur, q, hbg, hg, hnc, hcm, hcs, htake⟩
    · exact empty none q q2 (List.eq_nil_of_length_eq_zero (by rw [hxl]; exact q2))
    · have q' : v = .slice (some ⟨g, 0, none⟩) n cap := q
      subst q'
      by_cases hroom : n + s.size ≤ cap
      · have hcs' : cur.size = cap := by simpa using hcs
        have hr := run_append_room_string (P := P) w t u ty e i ht hu hi hsize g n cap cur hg s hroom (by omega)
        refine ⟨_, _, _, hr, .inr (.inl ⟨hlen, .inr ⟨g, cap, _, rfl, hbg, setRow_heap w g cur _ e _ hg, hroom, hcm, ?_, ?_⟩⟩), ⟨rfl, rfl, rfl, by simp, fun k _ hk => setRow_other w g k _ (fun e => hk (by rw [hvb]; simp [Value.ownBlock, e]))⟩, fun k hk => .inl ?_⟩
        · simp only [List.size_toArray, List.length_append, List.length_take, List.length_drop, Array.length_toList, strCells_length]
          omega
        · have ht' : cur.toList.take n = xs := by simpa using htake
          rw [ht', ← hlen]
          exact List.take_left
        · unfold rb at hk ⊢
          exact hk
      · have holds : ∀ j u, xs[j]? = some u → w.cell? ((⟨g, 0, none⟩ : Addr).add j) = some u := h.cells (g := g) rfl
        have hr := run_append_grow_string (P := P) w t u ty e i z ht hu hi hz ⟨g, 0, none⟩ n cap xs (by rw [hsize]; simpa using hxl) holds s (by omega) (by omega) (by rw [hby]; exact growslice_fits (by omega) (by omega))
        obtain ⟨f1, f2, f3⟩ := fresh cap (rb (.slice (some ⟨g, 0, none⟩) n cap)) xs hxl (by omega)
        exact ⟨_, _, _, hr, f1, f2, fun g hg => .inr (f3 g hg)⟩
variable {E : Env} {σ : St} {o : Oper}
/-- a row of bytes that a text is appended to -/
theorem appendStr_does {s x : Operand} {t u e n : Nat} {bs : ByteArray} {R1 R2 : List Rw} {v : Value} {xs : List Value} (ho : o.op = .call ⟨.builtin .append, #[s, x], #[t, u]⟩) (ht : tSlice P t = some e) (hu : tStr P u = true) (ha : tApp P e = some (1, 1))
    (hR : σ.rows = R1 ++ ⟨v, e, 1, n, xs⟩ :: R2) (hs : ev σ s = some (.c (.v v))) (hx : ev σ x = some (.c (.v (.string bs)))) (hd : dOk E o.dst)
    (h63 : n + bs.size ≤ maxLen) (hb : n + bs.size ≤ 140737488355328) :
    Does P E σ o (fun σ' => ∃ A' c', σ' = (σ.rowsTo (R1 ++ ⟨.slice A' (n + bs.size) c', e, 1, n + bs.size, xs ++ strCells bs⟩ :: R2)).put o.dst (.c (.v (.slice A' (n + bs.size) c')))) := by
  intro a w Q next hr hnx
  obtain ⟨i, z, hi, hz, hk, hby, hzs, h0⟩ := tApp_spec ha
  have hrow := hr.rows _ (by rw [hR]; simp : (⟨v, e, 1, n, xs⟩ : Rw) ∈ σ.rows)
  have hs' : a.eval s = v := ev_den hr.see hs
  have hx' : a.eval x = .string bs := ev_den hr.see hx
  obtain ⟨A', c', w', hrun, hown, hg, hat⟩ := run_append_row_str (P := P) w t u o.type e i z (tSlice_spec ht) (tStr_spec hu) hi hz hk hby hzs v n xs hrow.is bs h63 hb
  unfold Oper.wp execOp
  simp only [ho, resolve, invoke, builtin, Sem.run_bind, Sem.run_pure, Result.andThen_ok, List.map_toArray, List.map_cons, List.map_nil, hs', hx', hrun]
  exact hnx _ _ _ ⟨A', c', rfl⟩ ((hr.grow (r' := ⟨.slice A' (n + bs.size) c', e, 1, n + bs.size, xs ++ strCells bs⟩) hR hg hown hat).put o.dst (.c (.v (.slice A' (n + bs.size) c'))) (dOk_lt hd))
end
end Go.Proofs.YtohdfcnjcpjdcaaDoor
