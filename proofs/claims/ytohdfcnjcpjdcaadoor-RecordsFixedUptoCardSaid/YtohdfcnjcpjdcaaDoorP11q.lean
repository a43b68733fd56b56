/- A row of zero values that the call makes. Names no program. Conditions: as each law states them. -/
import Derived.Test.YtohdfcnjcpjdcaaDoorP9q
import Derived.Deep.OwnRows
namespace Go.Proofs.YtohdfcnjcpjdcaaDoor
open Go.RowKit
set_option linter.unusedSimpArgs false
section
variable {P : Program} {E : Env} {σ : St} {o : Oper}
theorem made_eq (z : Value) (n : Nat) : madeCells #[z] n = (List.replicate n z).toArray := by
  unfold madeCells
  apply Array.ext'
  apply List.ext_getElem
  · simp
  · intro j h1 h2
    simp [Nat.mod_one]
theorem makeOwn_does {t e : TypeId} {l c : Operand} (n : Nat) {b : Nat} {kl kc : IntKind} {z : Value} (ho : o.op = .makeSlice t l c) (ht : tSlice P t = some e) (hinfo : (P.info? e).map (fun i => (i.zero, i.size, i.bytes)) = some (some z, 1, b)) (hz1 : z.cells = #[z]) (hb : b ≤ 8)
    (hl : ev σ l = some (.c (.v (.int kl (n : Int))))) (hc : ev σ c = some (.c (.v (.int kc (n : Int))))) (hn : n ≤ 100000) (hd : dOk E o.dst) :
    Does P E σ o (fun σ' => ∃ g, σ' = (σ.add g e (List.replicate n (.v z))).put o.dst (.c (.v (.slice (some ⟨g, 0, none⟩) n n)))) := by
  intro a w Q next hr hnx
  have hl' : a.eval l = .int kl (n : Int) := ev_den hr.see hl
  have hc' : a.eval c = .int kc (n : Int) := ev_den hr.see hc
  have hbn : b * n ≤ 281474976710656 := by
    have := Nat.mul_le_mul hb hn
    omega
  have hrun0 := run_make_row' (P := P) t e z b (tSlice_spec ht) hinfo hz1 kl kc n hbn (by omega) w
  have hcs : madeCells #[z] n = dens (List.replicate n (SC.v z)) := by
    rw [made_eq]
    simp [dens, SC.den]
  rw [hcs] at hrun0
  have hrun : (execOp a.eval o).run P w = .ok (.value (.slice (some ⟨w.heap.size, 0, none⟩) n n)) (w.alloc (.cells (dens (List.replicate n (SC.v z))) e)) := by
    unfold execOp
    simp only [ho, hl', hc', Sem.run_bind, hrun0, Result.andThen_ok, Sem.run_pure]
  exact wp_of_value hrun (hnx _ _ _ ⟨w.heap.size, rfl⟩ ((hr.add e (List.replicate n (.v z))).put o.dst (.c (.v _)) (dOk_lt hd)))
/-- the same row, that nobody writes any more -/
theorem make_does {t e : TypeId} {l c : Operand} (n : Nat) {b : Nat} {kl kc : IntKind} {z : Value} (ho : o.op = .makeSlice t l c) (ht : tSlice P t = some e) (hinfo : (P.info? e).map (fun i => (i.zero, i.size, i.bytes)) = some (some z, 1, b)) (hz1 : z.cells = #[z]) (hb : b ≤ 8)
    (hl : ev σ l = some (.c (.v (.int kl (n : Int))))) (hc : ev σ c = some (.c (.v (.int kc (n : Int))))) (hn : n ≤ 100000) (hd : dOk E o.dst) :
    Does P E σ o (fun σ' => ∃ A G, Sl G e 1 n (.slice A n n) (List.replicate n z) ∧ (∀ s ∈ σ.snaps, s.Le G) ∧ σ' = (σ.seen G).put o.dst (.c (.v (.slice A n n)))) := by
  intro a w Q next hr hnx
  have hl' : a.eval l = .int kl (n : Int) := ev_den hr.see hl
  have hc' : a.eval c = .int kc (n : Int) := ev_den hr.see hc
  have hbn : b * n ≤ 281474976710656 := by
    have := Nat.mul_le_mul hb hn
    omega
  have hrun0 := run_make_row' (P := P) t e z b (tSlice_spec ht) hinfo hz1 kl kc n hbn (by omega) w
  have hrun : (execOp a.eval o).run P w = .ok (.value (.slice (some ⟨w.heap.size, 0, none⟩) n n)) (w.alloc (.cells (madeCells #[z] n) e)) := by
    unfold execOp
    simp only [ho, hl', hc', Sem.run_bind, hrun0, Result.andThen_ok, Sem.run_pure]
  have hch : Chg Non w (w.alloc (.cells (madeCells #[z] n) e)) := Chg.of_below (below_al ⟨rfl, rfl, rfl, Nat.le_refl _, fun _ _ => rfl⟩ _)
  have h2 := hr.called hch
  have hnm : ¬ σ.M E w.heap.size := fun q => Nat.lt_irrefl _ (hr.wf _ q)
  refine wp_of_value hrun (hnx _ _ _ ⟨some ⟨w.heap.size, 0, none⟩, ⟨σ.M E, _⟩, ?_, fun s hs => h2.snaps s (List.mem_cons_of_mem _ hs), rfl⟩ (h2.put o.dst (.c (.v _)) (dOk_lt hd)))
  refine ⟨_, n, rfl, Nat.le_refl _, by unfold maxLen; omega, by simp, fun _ => ⟨w.heap.size, 0, (List.replicate n z).toArray, (0, 0), rfl, hnm, ?_, fun j u hu => by rw [Nat.zero_add, List.getElem?_toArray]; exact hu⟩⟩
  rw [← made_eq]
  exact heap_alloc_new w _
end
end Go.Proofs.YtohdfcnjcpjdcaaDoor
