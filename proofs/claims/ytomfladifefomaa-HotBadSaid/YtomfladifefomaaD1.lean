/- The orders of a region that draws, gone through by what has been done. Names no program. Conditions: as each law states them. -/
import Derived.Test.YtomfladifefomaaA3
namespace Go.Proofs.Ytomfladifefomaa
open Go.RowKit
section
variable {P : Program} {E : Env} {k : Cont} {ops : Array Oper} {B : List Bl} {V : List Vw} {f : Nat} {listed : Array Bool} {σ : St}
theorem alts_last : Ok E σ (sem P k (.alts ops B V f listed .last)) := fun _ _ _ i hi => by cases hi
theorem alts_step {i : Nat} {p r p' : Plan} (n : Nat) (hk : k.ok) (hp : planOk ops listed (.alt i p .last) = true) (hq : planAlt.planRest ops listed (.alt i p .last) = true) (hB : ∀ b ∈ B, b ∈ σ.blks) (hV : ∀ v ∈ V, v ∈ σ.views)
    (h1 : WxO P E (W P E n k) k ⟨ops, B, V, f, listed⟩ i p σ ops[i]?) (h2 : Ok E σ (sem P k (.alts ops B V f listed r))) : Ok E σ (sem P k (.alts ops B V f listed (.alt i p' r))) := by
  have h3 : Ok E σ (sem P k (.alts ops B V f listed (.alt i p .last))) := W_sound (n + 1) k (.alts ops B V f listed (.alt i p .last)) σ hk ⟨h1, by
    cases n with
    | zero => exact fun _ => alts_last
    | succ n => trivial⟩ ⟨hp, hq, hB, hV⟩
  intro a w hr j hj
  rcases List.mem_cons.1 hj with rfl | hj
  · exact h3 a w hr j List.mem_cons_self
  · exact h2 a w hr j hj
theorem any_step {i : Nat} {p r q : Plan} (hk : k.ok) (hp : planOk ops listed (.alt i p r) = true) (hq : planAlt ops listed (.alt i p r) = true) (hB : ∀ b ∈ B, b ∈ σ.blks) (hV : ∀ v ∈ V, v ∈ σ.views)
    (h : Ok E σ (sem P k (.alts ops B V f listed (.alt i p r)))) : Ok E σ (sem P k (.any ops B V (f + 1) listed q)) := W_sound 1 k (.any ops B V (f + 1) listed (.alt i p r)) σ hk (fun _ => h) ⟨hp, hq, hB, hV⟩
theorem any_sub {τ : St} {q q' : Plan} (h : Ok E σ (sem P k (.any ops B V f listed q))) (hs : Sub τ σ) : W P E 0 k (.any ops B V f listed q') τ := fun _ a w hr => h a w (hr.sub hs)
theorem next_ok {Φ : Act → World → Prop} (c : Nat) (h : Ok E { σ with next := c } Φ) : Ok E σ Φ := fun a w hr => h a w ⟨hr.tmps, hr.size, hr.defers, hr.blks, hr.nodup, hr.own, hr.rows, hr.apart, hr.rapart, hr.views, hr.chg, hr.snaps, hr.mem⟩
/-- the choice 'i', its block under the number 'c', and what is free behind it -/
theorem alts_step' {i : Nat} {p r p' : Plan} (c n : Nat) (hk : k.ok) (hp : planOk ops listed (.alt i p .last) = true) (hq : planAlt.planRest ops listed (.alt i p .last) = true) (hB : ∀ b ∈ B, b ∈ σ.blks) (hV : ∀ v ∈ V, v ∈ σ.views)
    (h1 : WxO P E (W P E n k) k ⟨ops, B, V, f, listed⟩ i p { σ with next := c } ops[i]?) (h2 : Ok E σ (sem P k (.alts ops B V f listed r))) : Ok E σ (sem P k (.alts ops B V f listed (.alt i p' r))) := by
  have h3 : Ok E { σ with next := c } (sem P k (.alts ops B V f listed (.alt i p .last))) := alts_step (r := .last) n hk hp hq hB hV h1 alts_last
  intro a w hr j hj
  rcases List.mem_cons.1 hj with rfl | hj
  · exact next_ok c h3 a w hr j List.mem_cons_self
  · exact h2 a w hr j hj
theorem any_sub' {τ : St} {q q' : Plan} {l2 : Array Bool} (h : Ok E σ (sem P k (.any ops B V f listed q))) (hl : l2 = listed) (hs : Sub τ σ) : W P E 0 k (.any ops B V f l2 q') τ := by
  subst hl
  exact any_sub h hs
def blkD (b : Bl) : Nat × TypeId × Array Value := (b.g, b.t, dens b.cs)
/-- slots and cells told otherwise -/
theorem same_ok {τ : St} {Φ : Act → World → Prop} (h : Ok E τ Φ) (ht : ∀ t v, look τ.tmps t = some v → ∃ u, look σ.tmps t = some u ∧ u.den = v.den) (hb : σ.blks.map blkD = τ.blks.map blkD) (hr1 : σ.rows = τ.rows) (hv : σ.views = τ.views) (hs : σ.snaps = τ.snaps) : Ok E σ Φ := by
  intro a w hr
  have hg : σ.blks.map (·.g) = τ.blks.map (·.g) := by
    have := congrArg (List.map Prod.fst) hb
    simpa [blkD, Function.comp_def] using this
  have hmem : ∀ {l l' : List Bl}, l.map blkD = l'.map blkD → ∀ b ∈ l', ∃ c ∈ l, c.g = b.g ∧ c.t = b.t ∧ dens c.cs = dens b.cs := fun {l l'} e b hb' => by
    have : blkD b ∈ l.map blkD := by rw [e]; exact List.mem_map.2 ⟨b, hb', rfl⟩
    obtain ⟨c, hc, e2⟩ := List.mem_map.1 this
    unfold blkD at e2
    simp only [Prod.mk.injEq] at e2
    exact ⟨c, hc, e2.1, e2.2.1, e2.2.2⟩
  have hM : σ.M E = τ.M E := by
    funext k
    have e : (∃ b ∈ σ.blks, b.g = k) = (∃ b ∈ τ.blks, b.g = k) := by
      rw [show (∃ b ∈ σ.blks, b.g = k) = (k ∈ σ.blks.map (·.g)) from by simp, hg]
      simp
    unfold St.M
    rw [hr1, e]
  refine h a w ⟨fun t v hv' => ?_, hr.size, hr.defers, fun b hb' => ?_, ?_, fun b hb' => ?_, ?_, ?_, ?_, ?_, hr.chg, ?_, hr.mem⟩
  · obtain ⟨u, hu, e⟩ := ht t v hv'
    rw [hr.tmps t u hu, e]
  · obtain ⟨c, hc, e1, e2, e3⟩ := hmem hb b hb'
    have := hr.blks c hc
    rw [e1, e2, e3] at this
    exact this
  · have := List.pairwise_map.2 hr.nodup
    rw [hg] at this
    exact List.pairwise_map.1 this
  · obtain ⟨c, hc, e1, _⟩ := hmem hb b hb'
    have := hr.own c hc
    rw [e1] at this
    exact this
  · rw [← hr1]; exact hr.rows
  · intro r hr' b hb'
    obtain ⟨c, hc, e1, _⟩ := hmem hb b hb'
    have := hr.apart r (by rw [hr1]; exact hr') c hc
    rw [e1] at this
    exact this
  · rw [← hr1]; exact hr.rapart
  · rw [← hv, ← hM]; exact hr.views
  · rw [← hs, ← hM]; exact hr.snaps
end
/-- behind a piece of code the states are among these: what comes is gone through once -/
theorem cut_code {ι : Type} {P : Program} {E : Env} {k : Cont} {N : Nat} {c : Code} {σ : St} (σI : ι → St) (C : ι → Prop) (hk : k.ok) (h1 : ∀ i, C i → W P E N k .norm (σI i))
    (h2 : Ok E σ (sem P (.inv (Again E σI C (fun _ => 0) 1) k) (.code c))) : Ok E σ (sem P k (.code c)) := fun a w hr =>
  Code.wp_mono (fun e a w h => by
    cases e with
    | normal =>
      obtain ⟨i, ⟨hC, hr⟩, _⟩ := (h : Again E σI C (fun _ => 0) 1 a w)
      exact W_sound N k .norm (σI i) hk (h1 i hC) trivial a w hr
    | _ => exact h) (h2 a w hr)
/-- the same, with all that comes behind out of sight -/
theorem cut_code2 {ι : Type} {P : Program} {E : Env} {k : Cont} {N : Nat} {c : Code} {σ : St} (σI : ι → St) (C : ι → Prop) (hk : k.ok) (h1 : ∀ i, C i → W P E N k .norm (σI i))
    (h2 : ∀ (k' : Cont) (J : Act → World → Prop), k'.ok → (∀ (i : ι) (τ : St), C i → Sub τ (σI i) → Ok E τ J) → Ok E σ (sem P (.inv J k') (.code c))) : Ok E σ (sem P k (.code c)) :=
  cut_code σI C hk h1 (h2 k _ hk fun i _ hC hs => again_ok i hC (by decide) hs)
theorem alloc_heap (w : World) (o : Obj) : (w.alloc o).heap[w.heap.size]? = some o := by
  show (w.heap.push o)[w.heap.size]? = some o
  exact Array.getElem?_push_size
section
variable {P : Program} {E : Env} {σ : St} {o : Oper}
theorem take_lit {rec_ : Cmd → St → Prop} {dr : Dr} {q : Nat} {p : Plan} {t e kc : Nat} {x i : Operand} {g n c m id : Nat} {kk : IntKind} {j : Int} (ho : o.op = .indexAddr t x i) (ht : tSlice P t = some e) (hk : tSize P e = some kc)
    (hx : ev σ x = some (.c (.s id g 0 n c))) (hi : ev σ i = some (.c (.v (.int kk j)))) (hd : dOk E o.dst) (hj : j = (m : Int)) (hm : m < n)
    (h : rec_ (dr.next q p) (σ.put o.dst (.c (.p id g (m * kc))))) : TakeStop P E rec_ dr q p o σ := by
  refine ⟨.c (.p id g (m * kc)), hd, fun a w hr => ?_, h⟩
  have hx' : a.eval x = .slice (some ⟨g, 0, none⟩) n c := ev_den hr hx
  have hi' : a.eval i = .int kk j := ev_den hr hi
  obtain ⟨inf, hinf, hsz⟩ := tSize_spec hk
  show (execOp a.eval o).run P w = .ok (.value (.pointer (some ⟨g, m * kc, none⟩))) w
  unfold execOp
  subst hj
  have hc1 : 0 ≤ (m : Int) ∧ (m : Int) < (n : Int) := ⟨by omega, by omega⟩
  simp only [ho, hx', hi', Instr.indexAt, Sem.run_bind, asIntOf, Sem.run_pure, Result.andThen_ok, run_underlying (tSlice_spec ht), hc1, and_self, if_true, sizeOf, typeInfo, run_program, hinf, hsz, Int.toNat_natCast, Addr.add_mid, Nat.zero_add]
theorem lit_elem_does {t e kc : Nat} {x i : Operand} {g n c m id : Nat} {kk : IntKind} {j : Int} (ho : o.op = .indexAddr t x i) (ht : tSlice P t = some e) (hk : tSize P e = some kc)
    (hx : ev σ x = some (.c (.s id g 0 n c))) (hi : ev σ i = some (.c (.v (.int kk j)))) (hd : dOk E o.dst) (hj : j = (m : Int)) (hm : m < n) :
    Does P E σ o (fun σ' => σ' = σ.put o.dst (.c (.p id g (m * kc)))) := by
  intro a w Q next hr hn
  have hx' : a.eval x = .slice (some ⟨g, 0, none⟩) n c := ev_den hr.see hx
  have hi' : a.eval i = .int kk j := ev_den hr.see hi
  obtain ⟨inf, hinf, hsz⟩ := tSize_spec hk
  have hrun : (execOp a.eval o).run P w = .ok (.value (.pointer (some ⟨g, m * kc, none⟩))) w := by
    unfold execOp
    subst hj
    have hc1 : 0 ≤ (m : Int) ∧ (m : Int) < (n : Int) := ⟨by omega, by omega⟩
    simp only [ho, hx', hi', Instr.indexAt, Sem.run_bind, asIntOf, Sem.run_pure, Result.andThen_ok, run_underlying (tSlice_spec ht), hc1, and_self, if_true, sizeOf, typeInfo, run_program, hinf, hsz, Int.toNat_natCast, Addr.add_mid, Nat.zero_add]
  exact wp_of_value hrun (hn _ _ _ rfl (hr.put o.dst (.c (.p id g (m * kc))) (dOk_lt hd)))
theorem make_does {t e : TypeId} {l c : Operand} {n : Nat} {kl kc : IntKind} {i : TypeInfo} {z : Value} (ho : o.op = .makeSlice t l c) (ht : tSlice P t = some e) (hi : P.info? e = some i) (hz : i.zero = some z) (hz1 : z.cells = #[z]) (hk : i.size = 1) (hby : i.bytes = 1)
    (hl : ev σ l = some (.c (.v (.int kl (n : Int))))) (hc : ev σ c = some (.c (.v (.int kc (n : Int))))) (hn : n ≤ 100000) (hd : dOk E o.dst) :
    Does P E σ o (fun σ' => ∃ A G, Sl G e 1 n (.slice A n n) (List.replicate n z) ∧ (∀ s ∈ σ.snaps, s.Le G) ∧ σ' = (σ.seen G).put o.dst (.c (.v (.slice A n n)))) := by
  intro a w Q next hr hnx
  have hl' : a.eval l = .int kl (n : Int) := ev_den hr.see hl
  have hc' : a.eval c = .int kc (n : Int) := ev_den hr.see hc
  have hrun0 := run_make_rowN (P := P) t e i z (tSlice_spec ht) hi hz kl kc n n (Nat.le_refl _) (by rw [hby]; omega) (by omega) w
  have hcs : madeCells z.cells (n * i.size) = (List.replicate n z).toArray := by
    rw [hk, hz1]
    unfold madeCells
    apply Array.ext'
    apply List.ext_getElem
    · simp
    · intro j h1 h2
      simp [Nat.mod_one]
  have hrun : (execOp a.eval o).run P w = .ok (.value (.slice (some ⟨w.heap.size, 0, none⟩) n n)) (w.alloc (.cells (madeCells z.cells (n * i.size)) e)) := by
    unfold execOp
    simp only [ho, hl', hc', Sem.run_bind, hrun0, Result.andThen_ok, Sem.run_pure]
  have hch : Chg Non w (w.alloc (.cells (madeCells z.cells (n * i.size)) e)) := Chg.of_below (below_al ⟨rfl, rfl, rfl, Nat.le_refl _, fun _ _ => rfl⟩ _)
  have h2 := hr.called hch
  have hnm : ¬ σ.M E w.heap.size := fun q => Nat.lt_irrefl _ (hr.wf _ q)
  refine wp_of_value hrun (hnx _ _ _ ⟨some ⟨w.heap.size, 0, none⟩, ⟨σ.M E, _⟩, ?_, fun s hs => h2.snaps s (List.mem_cons_of_mem _ hs), rfl⟩ (h2.put o.dst (.c (.v _)) (dOk_lt hd)))
  refine ⟨_, n, rfl, Nat.le_refl _, by unfold maxLen; omega, by simp, fun _ => ⟨w.heap.size, 0, (List.replicate n z).toArray, (0, 0), rfl, hnm, ?_, fun j u hu => by rw [Nat.zero_add, List.getElem?_toArray]; exact hu⟩⟩
  rw [← hcs]
  exact alloc_heap w _
theorem lenLit_does {x : Operand} {t e id g o' n c : Nat} (ho : o.op = .call ⟨.builtin .len, #[x], #[t]⟩) (ht : tSlice P t = some e) (hx : ev σ x = some (.c (.s id g o' n c))) (hd : dOk E o.dst) :
    Does P E σ o (fun σ' => σ' = σ.put o.dst (.c (.v (.int .i64 (n : Int))))) := by
  intro a w Q next hr hn
  have hx' : a.eval x = .slice (some ⟨g, o', none⟩) n c := ev_den hr.see hx
  have hrun : (execOp a.eval o).run P w = .ok (.value (.int .i64 (n : Int))) w := by
    unfold execOp
    simp [ho, hx', resolve, invoke, builtin, Builtin.len_, run_underlying (tSlice_spec ht), goInt]
  exact wp_of_value hrun (hn _ _ _ rfl (hr.put o.dst (.c (.v (.int .i64 (n : Int)))) (dOk_lt hd)))
end
end Go.Proofs.Ytomfladifefomaa
