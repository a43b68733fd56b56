/- A new row from an argument's cells. Conditions: as each law states them. -/
import Derived.Test.YtohdfcnjcpjdcaaGreatDoorWCq
namespace Go.Proofs.YtohdfcnjcpjdcaaGreatDoor
open Go.RowKit
set_option linter.unusedSimpArgs false
section
variable {P : Program} {E : Env} {σ : St} {o : Oper}
theorem run_append_nil_sc (w : World) (t ty e : TypeId) (i : TypeInfo) (z : Value) (size bytes : Nat) (ht : P.underlying t = some (.slice e)) (hi : P.info? e = some i) (hz : i.zero = some z)
  (hsize : i.size = size) (hby : i.bytes = bytes) (hzs : z.cells.size = size) (A : Option Addr) (m c : Nat) (news : List Value) (hl : news.length = m * size)
  (hA : 0 < m → ∃ a, A = some a ∧ ∀ j u, news[j]? = some u → w.cell? (a.add j) = some u) (h63 : m ≤ maxLen) (hbytes : m * bytes ≤ 140737488355328) :
  ∃ A' c' w', (Builtin.append_ #[t, t] ty #[.slice none 0 0, .slice A m c]).run P w = .ok (.slice A' m c') w' ∧ RowIs w' ⟨.slice A' m c', e, size, m, news⟩ ∧ w.grownBy w' (rb (.slice none 0 0)) ∧
   ∀ g, rb (.slice A' m c') = some g → rb (.slice none 0 0) = some g ∨ w.heap.size ≤ g := by
 subst hsize
 subst hby
 by_cases hm : m = 0
 ·subst hm
  have hn : news = [] := List.eq_nil_of_length_eq_zero (by simpa using hl)
  subst hn
  refine ⟨none, 0, w, ?_, .inl ⟨none, rfl, rfl, rfl⟩, World.grownBy.refl w _, fun g hg => .inl hg⟩
  cases A <;> simp [Builtin.append_, run_underlying ht, sizeOf, typeInfo, hi, Builtin.lenOf, Builtin.firstCells, loadCells, loadCellsFrom, storeCells]
 ·obtain ⟨a, rfl, hnew⟩ := hA (by omega)
  have hrun := run_append_nil (P := P) w t ty e i z ht hi hz a m c news hl hnew (by omega) (by unfold maxLen at h63; omega) (by omega)
  have hge := grownCap_ge w m 0 e
  have hcm := grownCap_le_maxLen w m 0 e h63
  refine ⟨_, _, _, hrun, .inr (.inl ⟨hl, .inr ⟨w.heap.size, _, _, rfl, Nat.zero_le _, heap_alloc_new w.drew _, hge, hcm, ?_, ?_⟩⟩), ⟨rfl, rfl, rfl, by simp, fun k hk _ => Below.heap_alloc w.drew _ k hk⟩, fun g hg => .inr ?_⟩
  ·simp only [Array.size_append, List.size_toArray, size_zeroCells, hzs, hl, ← Nat.add_mul]
   congr 1
   omega
  ·simp only [Array.toList_append]
   rw [← hl]
   exact List.take_left
  ·unfold rb at hg
   simp only at hg
   split at hg
   ·cases hg
   ·cases hg; exact Nat.le_refl _
/-- a new row from an argument's cells -/
theorem appendNil_does {s x : Operand} {t e kc by_ m cx : Nat} {Ax : Option Addr} {news : List Value} {R1 R2 : List Rw} (ho : o.op = .call ⟨.builtin .append, #[s, x], #[t, t]⟩) (ht : tSlice P t = some e) (ha : tApp P e = some (kc, by_))
  (hR : σ.rows = R1 ++ ⟨.slice none 0 0, e, kc, 0, []⟩ :: R2) (hs : ev σ s = some (.c (.v (.slice none 0 0)))) (hx : ev σ x = some (.c (.v (.slice Ax m cx)))) (hd : dOk E o.dst)
  (h63 : m ≤ maxLen) (hb : m * by_ ≤ 140737488355328) (hn : ∀ G : GW, Now E σ G → Sc G kc m (.slice Ax m cx) news) :
  Does P E σ o (fun σ' => ∃ A' c', σ' = (σ.rowsTo (R1 ++ ⟨.slice A' m c', e, kc, m, news⟩ :: R2)).put o.dst (.c (.v (.slice A' m c')))) := by
 intro a w Q next hr hnx
 obtain ⟨i, z, hi, hz, hk, hby, hzs, h0⟩ := tApp_spec ha
 have hs' : a.eval s = .slice none 0 0 := ev_den hr.see hs
 have hx' : a.eval x = .slice Ax m cx := ev_den hr.see hx
 obtain ⟨A1, c1, e1, q1, q2, q3, q4⟩ := hn _ hr.now
 cases e1
 obtain ⟨A', c', w', hrun, hown, hg, hat⟩ := run_append_nil_sc (P := P) w t o.type e i z kc by_ (tSlice_spec ht) hi hz hk hby hzs Ax m cx news q3 (fun hm => by
  obtain ⟨g, o', rfl, _, _, hcell⟩ := q4 hm
  refine ⟨_, rfl, fun j u hj => ?_⟩
  have hadd : (⟨g, o', none⟩ : Addr).add j = ⟨g, o' + j, none⟩ := by unfold Addr.add; split <;> simp_all
  rw [hadd]
  exact hcell j u hj) h63 hb
 unfold Oper.wp execOp
 simp only [ho, resolve, invoke, builtin, Sem.run_bind, Sem.run_pure, Result.andThen_ok, List.map_toArray, List.map_cons, List.map_nil, hs', hx', hrun]
 exact hnx _ _ _ ⟨A', c', rfl⟩ ((hr.grow (r' := ⟨.slice A' m c', e, kc, m, news⟩) hR hg hown hat).put o.dst (.c (.v (.slice A' m c'))) (dOk_lt hd))
end
end Go.Proofs.YtohdfcnjcpjdcaaGreatDoor
