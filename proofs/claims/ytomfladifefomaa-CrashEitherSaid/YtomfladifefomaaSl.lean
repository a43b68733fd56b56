/- Loops, and what a state says less than another. Names no program. Conditions: as each law states them. -/
import Derived.Test.YtomfladifefomaaSt
namespace Go.Proofs.Ytomfladifefomaa
open Go.RowKit
/-- slots that hold at least this -/
def SubT (T : List (Nat × SV)) : List (Nat × SV) → Prop
  | [] => True
  | x :: r => look T x.1 = some x.2 ∧ SubT T r
theorem subT_look {T : List (Nat × SV)} : ∀ {L : List (Nat × SV)}, SubT T L → ∀ t v, look L t = some v → look T t = some v
  | [], _, t, v, h => by cases h
  | x :: r, hs, t, v, h => by
    unfold look at h
    split at h
    · rename_i e
      cases h
      rw [← e]; exact hs.1
    · exact subT_look hs.2 t v h
def SubB (B : List Bl) : List Bl → Prop
  | [] => True
  | x :: r => getBl B x.id = some x ∧ SubB B r
theorem subB_mem {B : List Bl} : ∀ {L : List Bl}, SubB B L → ∀ b ∈ L, getBl B b.id = some b
  | [], _, b, h => by cases h
  | x :: r, hs, b, h => by
    rcases List.mem_cons.1 h with rfl | h
    · exact hs.1
    · exact subB_mem hs.2 b h
def ids : List Bl → List Nat
  | [] => []
  | b :: r => b.id :: ids r
/-- all of these are different -/
def Diff : List Nat → Prop
  | [] => True
  | x :: r => (∀ y ∈ r, x ≠ y) ∧ Diff r
def Sub (σ τ : St) : Prop := SubT σ.tmps τ.tmps ∧ SubB σ.blks τ.blks ∧ Diff (ids τ.blks) ∧ List.Sublist τ.rows σ.rows ∧ (∀ v ∈ τ.views, v ∈ σ.views) ∧ ∀ s ∈ τ.snaps, s ∈ σ.snaps
theorem pair_g {B : List Bl} (hp : B.Pairwise fun b c => b.g ≠ c.g) {b c : Bl} (hb : b ∈ B) (hc : c ∈ B) (h : b.id ≠ c.id) : b.g ≠ c.g := by
  rcases List.mem_iff_getElem.1 hb with ⟨i, hi, rfl⟩
  rcases List.mem_iff_getElem.1 hc with ⟨j, hj, rfl⟩
  have hij : i ≠ j := fun q => h (by subst q; rfl)
  rcases Nat.lt_or_gt_of_ne hij with q | q
  · exact List.pairwise_iff_getElem.1 hp i j hi hj q
  · exact fun e => List.pairwise_iff_getElem.1 hp j i hj hi q e.symm
theorem mem_ids {l : List Bl} : ∀ {b : Bl}, b ∈ l → b.id ∈ ids l := by
  induction l with
  | nil => intro b h; cases h
  | cons x r ih =>
    intro b h
    rcases List.mem_cons.1 h with rfl | h
    · exact List.mem_cons_self
    · exact List.mem_cons_of_mem _ (ih h)
theorem pair_of_diff {B : List Bl} (hp : B.Pairwise fun b c => b.g ≠ c.g) : ∀ {L : List Bl}, (∀ b ∈ L, b ∈ B) → Diff (ids L) → L.Pairwise fun b c => b.g ≠ c.g
  | [], _, _ => List.Pairwise.nil
  | x :: _, h, hd => List.Pairwise.cons (fun y hy => pair_g hp (h x List.mem_cons_self) (h y (List.mem_cons_of_mem _ hy)) (hd.1 y.id (mem_ids hy))) (pair_of_diff hp (fun b hb => h b (List.mem_cons_of_mem _ hb)) hd.2)
theorem Rel.sub {E : Env} {σ τ : St} {a : Act} {w : World} (h : Rel E σ a w) (hs : Sub σ τ) : Rel E τ a w := by
  obtain ⟨h1, h2, h3, h4, h5, h6⟩ := hs
  have hb : ∀ b ∈ τ.blks, b ∈ σ.blks := fun b hb => getBl_mem (subB_mem h2 b hb)
  have hM : ∀ k, τ.M E k → σ.M E k := by
    intro k hk
    rcases hk with hk | ⟨b, hb', rfl⟩ | ⟨_, hr, e⟩
    · exact .inl hk
    · exact .inr (.inl ⟨b, hb b hb', rfl⟩)
    · exact .inr (.inr ⟨_, h4.subset hr, e⟩)
  refine ⟨fun t v hv => h.tmps t v (subT_look h1 t v hv), h.size, h.defers, fun b hb' => h.blks b (hb b hb'), pair_of_diff h.nodup hb h3, fun b hb' => h.own b (hb b hb'), fun _ hr => h.rows _ (h4.subset hr), fun r hr b hb' => h.apart r (h4.subset hr) b (hb b hb'), h.rapart.sublist h4, fun v hv => ?_, h.chg, fun s hs => ?_, h.mem⟩
  · obtain ⟨a1, a2, a3⟩ := h.views v (h5 v hv)
    exact ⟨a1, fun q => a2 (hM _ q), a3⟩
  · exact ⟨(h.snaps s (h6 s hs)).size, fun k hk hm => ⟨((h.snaps s (h6 s hs)).keep k hk hm).1, fun q => ((h.snaps s (h6 s hs)).keep k hk hm).2 (hM k q)⟩⟩
theorem sub_ok {E : Env} {σ τ : St} {Φ : Act → World → Prop} (h : Ok E τ Φ) (hs : Sub σ τ) : Ok E σ Φ := fun a w hr => h a w (hr.sub hs)
/-- a look at the world as it stands -/
theorem snap_ok {E : Env} {σ : St} {Φ : Act → World → Prop} (h : ∀ G : GW, (∀ s ∈ σ.snaps, s.Le G) → Ok E (σ.seen G) Φ) : Ok E σ Φ := fun a w hr =>
  h ⟨σ.M E, w⟩ hr.snaps a w (hr.called (Chg.refl _ _))
theorem wp_loop_ix {ι : Type} {P : Program} {Q : Exit → Act → World → Prop} {a : Act} {w : World} {c : Code} (I : ι → Act → World → Prop) (μ : ι → Nat) (i0 : ι) (h₀ : I i0 a w)
    (round : ∀ i a w, I i a w → c.wp P (Exit.then (fun a' w' => ∃ i', I i' a' w' ∧ μ i' < μ i) Q) a w) : (Code.loop c).wp P Q a w := by
  intro b k cs
  have key : ∀ n i a w, μ i = n → I i a w →
      ∃ e a' w', Q e a' w' ∧ Arrives P (lone (b.at a (.code c :: .inLoop c :: k)) cs w) b k cs e a' w' := by
    intro n
    induction n using Nat.strongRecOn with
    | _ n ih =>
      intro i a w hn hI
      obtain ⟨e, a₁, w₁, hq, harr⟩ := round i a w hI b (.inLoop c :: k) cs
      cases e with
      | normal =>
        obtain ⟨i', hI₁, hlt⟩ := hq
        obtain ⟨e₂, a₂, w₂, hq₂, harr₂⟩ := ih (μ i') (hn ▸ hlt) i' a₁ w₁ rfl hI₁
        exact ⟨e₂, a₂, w₂, hq₂, .of_steps (Steps.trans harr (.one step_inLoop)) harr₂⟩
      | exit id => exact ⟨_, a₁, w₁, hq, .pass (x := .inLoop c) rfl (fun _ _ => .inl (by simp)) harr⟩
      | goto l => exact ⟨_, a₁, w₁, hq, .pass (x := .inLoop c) rfl (fun _ _ => .inl (by simp)) harr⟩
      | ret => exact ⟨_, a₁, w₁, hq, .pass (x := .inLoop c) rfl (fun _ _ => .inl (by simp)) harr⟩
      | panic ch => exact ⟨_, a₁, w₁, hq, .pass (x := .inLoop c) rfl (fun _ _ => .inl (by simp)) harr⟩
      | outgrown => exact ⟨_, a₁, w₁, hq, .pass (x := .inLoop c) rfl (fun _ _ => .inl (by simp)) harr⟩
  obtain ⟨e, a', w', hq, harr⟩ := key _ i0 a w rfl h₀
  exact ⟨e, a', w', hq, .of_steps (.one step_loop) harr⟩
/-- behind a round: the state is one of the heads again, further on -/
def Again {ι : Type} (E : Env) (σI : ι → St) (C : ι → Prop) (μ : ι → Nat) (m : Nat) (a : Act) (w : World) : Prop := ∃ i, (C i ∧ Rel E (σI i) a w) ∧ μ i < m
/-- the loop's law: at each round's head the state is one of these, and the measure goes down -/
theorem loop_ok {ι : Type} {P : Program} {E : Env} {k : Cont} {N : Nat} {body : Code} {σ : St} (σI : ι → St) (C : ι → Prop) (μ : ι → Nat) (hk : k.ok) (i0 : ι) (h0 : C i0) (hs : Sub σ (σI i0))
    (hround : ∀ i, C i → W P E N (.inv (Again E σI C μ (μ i)) k) (.code body) (σI i)) : Ok E σ (sem P k (.code (.loop body))) := fun _ _ hr =>
  wp_loop_ix (fun i a w => C i ∧ Rel E (σI i) a w) μ i0 ⟨h0, hr.sub hs⟩ fun i a w hI => W_sound N (.inv (Again E σI C μ (μ i)) k) (.code body) (σI i) hk (hround i hI.1) trivial a w hI.2
theorem again_ok {ι : Type} {E : Env} {σI : ι → St} {C : ι → Prop} {μ : ι → Nat} {m : Nat} {σ : St} (i : ι) (hC : C i) (hm : μ i < m) (hs : Sub σ (σI i)) : Ok E σ (Again E σI C μ m) := fun _ _ hr => ⟨i, ⟨hC, hr.sub hs⟩, hm⟩
/-- the end, as a call's return -/
def FinR (P : Program) (E : Env) (G : GW) (σ : St) (rs : List ResultVar) (T : Value → GW → Prop) : Prop := match resL P σ rs with
  | some (s, vs) => s ∧ ∀ a w, Rel E σ a w → (∀ t ∈ σ.snaps, t.Le ⟨G.M, w⟩) → T (resV vs) ⟨G.M, w⟩
  | none => False
theorem fin_ret {P : Program} {G : GW} {n : Nat} {σ : St} {fn : Func} {rs : Array ResultVar} {T : Value → GW → Prop} (hrs : fn.results = rs) (h : FinR P ⟨G.w, Non, G.M, n⟩ G σ rs.toList T) :
    Ok ⟨G.w, Non, G.M, n⟩ σ (bodyPost P fn (Ret G T) .ret) := by
  unfold FinR at h
  cases hl : resL P σ rs.toList with
  | none => rw [hl] at h; exact h.elim
  | some x =>
    obtain ⟨s, vs⟩ := x
    rw [hl] at h
    exact ret_ok hrs hl h.1 fun a w hr => ⟨_, rfl, h.2 a w hr (fun t ht => hr.fin ht), hr.chg⟩
theorem fin_norm {P : Program} {G : GW} {n : Nat} {σ : St} {fn : Func} {rs : Array ResultVar} {T : Value → GW → Prop} (hrs : fn.results = rs) (h : FinR P ⟨G.w, Non, G.M, n⟩ G σ rs.toList T) :
    Ok ⟨G.w, Non, G.M, n⟩ σ (bodyPost P fn (Ret G T) .normal) := by
  unfold FinR at h
  cases hl : resL P σ rs.toList with
  | none => rw [hl] at h; exact h.elim
  | some x =>
    obtain ⟨s, vs⟩ := x
    rw [hl] at h
    exact end_ok hrs hl h.1 fun a w hr => ⟨_, rfl, h.2 a w hr (fun t ht => hr.fin ht), hr.chg⟩
def finA (E : Env) (G : GW) (σ : St) (T : Value → GW → Prop) (vs : List SV) : Prop := ∀ a w, Rel E σ a w → (∀ t ∈ σ.snaps, t.Le ⟨G.M, w⟩) → T (resV vs) ⟨G.M, w⟩
def finB (E : Env) (G : GW) (σ : St) (T : Value → GW → Prop) : Option (Prop × List SV) → Prop
  | some (s, vs) => s ∧ finA E G σ T vs
  | none => False
def consR : Option (Prop × SV) → Option (Prop × List SV) → Option (Prop × List SV)
  | some (s, v), some (s', vs) => some (s ∧ s', v :: vs)
  | _, _ => none
section
variable (P : Program) (E : Env) (G : GW) (σ : St) (T : Value → GW → Prop)
@[go_sem] theorem FinR_def (rs : List ResultVar) : FinR P E G σ rs T = finB E G σ T (resL P σ rs) := by
  unfold FinR finB finA; cases resL P σ rs <;> rfl
@[go_sem] theorem finB_some (s : Prop) (vs : List SV) : finB E G σ T (some (s, vs)) = (s ∧ finA E G σ T vs) := rfl
@[go_sem] theorem resL_nil : resL P σ [] = some (True, []) := rfl
@[go_sem] theorem resL_cons (r : ResultVar) (l : List ResultVar) : resL P σ (r :: l) = consR (resO P σ r) (resL P σ l) := by unfold consR; rw [resL]; rfl
@[go_sem] theorem consR_some (s s' : Prop) (v : SV) (vs : List SV) : consR (some (s, v)) (some (s', vs)) = some (s ∧ s', v :: vs) := rfl
@[go_sem] theorem resO_tmp (t : Nat) : resO P σ (.tmp t) = tmpR (look σ.tmps t) := rfl
@[go_sem] theorem tmpR_some (v : SV) : tmpR (some v) = some (True, v) := rfl
@[go_sem] theorem resO_cell (x t : Nat) : resO P σ (.cell x t) = cellR P t σ.blks (look σ.tmps x) := rfl
@[go_sem] theorem cellR_p (t id g off : Nat) (B : List Bl) : cellR P t B (some (.c (.p id g off))) = cellB P t g off (getBl B id) := rfl
@[go_sem] theorem cellB_some (t g off i g' t' : Nat) (cs : List SC) : cellB P t g off (some ⟨i, g', t', cs⟩) = valR (loadC2 cs off (g' = g) (tSize P t) (tRow P t)) := rfl
@[go_sem] theorem valR_val (s : Prop) (v : SV) : valR (.val s v) = some (s, v) := rfl
@[go_sem] theorem resV_one (v : SV) : resV [v] = v.den := rfl
@[go_sem] theorem resV_two (v u : SV) : resV [v, u] = .tuple #[v.den, u.den] := rfl
@[go_sem] theorem resV_three (v u x : SV) : resV [v, u, x] = .tuple #[v.den, u.den, x.den] := rfl
@[go_sem] theorem resV_four (v u x y : SV) : resV [v, u, x, y] = .tuple #[v.den, u.den, x.den, y.den] := rfl
@[go_sem] theorem resV_five (v u x y z : SV) : resV [v, u, x, y, z] = .tuple #[v.den, u.den, x.den, y.den, z.den] := rfl
@[go_sem] theorem resV_nil : resV [] = .tuple #[] := rfl
@[go_sem] theorem den_v (x : Value) : (SV.c (.v x)).den = x := rfl
@[go_sem] theorem den_p (id g off : Nat) : (SV.c (.p id g off)).den = .pointer (some ⟨g, off, none⟩) := rfl
@[go_sem] theorem den_s (id g off l c : Nat) : (SV.c (.s id g off l c)).den = .slice (some ⟨g, off, none⟩) l c := rfl
@[go_sem] theorem den_f (f : FuncId) (l : List (Nat × Nat × Nat)) : (SV.c (.f f l)).den = .func (.func f) #[] (l.map fun c => Value.pointer (some ⟨c.2.1, c.2.2, none⟩)).toArray := rfl
@[go_sem] theorem den_a (l : List SC) : (SV.a l).den = .agg (dens l) := rfl
@[go_sem] theorem dens_def (l : List SC) : dens l = (l.map SC.den).toArray := rfl
@[go_sem] theorem sden_v (x : Value) : (SC.v x).den = x := rfl
@[go_sem] theorem sden_p (id g off : Nat) : (SC.p id g off).den = .pointer (some ⟨g, off, none⟩) := rfl
@[go_sem] theorem sden_s (id g off l c : Nat) : (SC.s id g off l c).den = .slice (some ⟨g, off, none⟩) l c := rfl
@[go_sem] theorem sden_f (f : FuncId) (l : List (Nat × Nat × Nat)) : (SC.f f l).den = .func (.func f) #[] (l.map fun c => Value.pointer (some ⟨c.2.1, c.2.2, none⟩)).toArray := rfl
@[go_sem] theorem sub_def (T T' : List (Nat × SV)) (B B' : List Bl) (R R' : List Rw) (V V' : List Vw) (S S' : List GW) (n n' : Nat) : Sub ⟨T, B, R, V, S, n⟩ ⟨T', B', R', V', S', n'⟩ = (SubT T T' ∧ SubB B B' ∧ Diff (ids B') ∧ List.Sublist R' R ∧ (∀ v ∈ V', v ∈ V) ∧ ∀ s ∈ S', s ∈ S) := rfl
@[go_sem] theorem subT_nil (T : List (Nat × SV)) : SubT T [] = True := rfl
@[go_sem] theorem subT_cons (T r : List (Nat × SV)) (t : Nat) (v : SV) : SubT T ((t, v) :: r) = (look T t = some v ∧ SubT T r) := rfl
@[go_sem] theorem subB_nil (B : List Bl) : SubB B [] = True := rfl
@[go_sem] theorem subB_cons (B r : List Bl) (i g t : Nat) (cs : List SC) : SubB B (⟨i, g, t, cs⟩ :: r) = (getBl B i = some ⟨i, g, t, cs⟩ ∧ SubB B r) := rfl
@[go_sem] theorem ids_nil : ids [] = [] := rfl
@[go_sem] theorem ids_cons (i g t : Nat) (cs : List SC) (r : List Bl) : ids (⟨i, g, t, cs⟩ :: r) = i :: ids r := rfl
@[go_sem] theorem diff_nil : Diff [] = True := rfl
@[go_sem] theorem diff_cons (x : Nat) (r : List Nat) : Diff (x :: r) = ((∀ y ∈ r, x ≠ y) ∧ Diff r) := rfl
end
end Go.Proofs.Ytomfladifefomaa
