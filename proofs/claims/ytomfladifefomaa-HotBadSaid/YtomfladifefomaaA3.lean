/- Symbolic execution, part 3: loops, calls, rows, texts, literals. Names no program. Conditions: as each law states them. -/
import Derived.Test.YtomfladifefomaaA2
import Derived.Lib.ConvBytes
import Derived.Lib.AppendZerosOnto
import Derived.Deep.Slices
import Derived.Deep.Fields
import Derived.ChangeSame
import Derived.WideShapes
-- Sl: Loops, and what a state says less than another. Names no program. Conditions: as each law states them.
namespace Go.Proofs.Ytomfladifefomaa
open Go.RowKit
/-- slots that hold at least this -/
def SubT (T : List (Nat × SV)) : List (Nat × SV) → Prop
  | [] => True
  | x :: r => look T x.1 = some x.2 ∧ SubT T r
theorem subT_look {T : List (Nat × SV)} : ∀ {L : List (Nat × SV)}, SubT T L → ∀ t v, look L t = some v → look T t = some v
  | [], _, t, v, h => by cases h
  | x :: r, hs, t, v, h => by
    unfold look at h
    split at h
    · rename_i e
      cases h
      rw [← e]; exact hs.1
    · exact subT_look hs.2 t v h
def SubB (B : List Bl) : List Bl → Prop
  | [] => True
  | x :: r => getBl B x.id = some x ∧ SubB B r
theorem subB_mem {B : List Bl} : ∀ {L : List Bl}, SubB B L → ∀ b ∈ L, getBl B b.id = some b
  | [], _, b, h => by cases h
  | x :: r, hs, b, h => by
    rcases List.mem_cons.1 h with rfl | h
    · exact hs.1
    · exact subB_mem hs.2 b h
def ids : List Bl → List Nat
  | [] => []
  | b :: r => b.id :: ids r
/-- all of these are different -/
def Diff : List Nat → Prop
  | [] => True
  | x :: r => (∀ y ∈ r, x ≠ y) ∧ Diff r
def Sub (σ τ : St) : Prop := SubT σ.tmps τ.tmps ∧ SubB σ.blks τ.blks ∧ Diff (ids τ.blks) ∧ List.Sublist τ.rows σ.rows ∧ (∀ v ∈ τ.views, v ∈ σ.views) ∧ ∀ s ∈ τ.snaps, s ∈ σ.snaps
theorem pair_g {B : List Bl} (hp : B.Pairwise fun b c => b.g ≠ c.g) {b c : Bl} (hb : b ∈ B) (hc : c ∈ B) (h : b.id ≠ c.id) : b.g ≠ c.g := by
  rcases List.mem_iff_getElem.1 hb with ⟨i, hi, rfl⟩
  rcases List.mem_iff_getElem.1 hc with ⟨j, hj, rfl⟩
  have hij : i ≠ j := fun q => h (by subst q; rfl)
  rcases Nat.lt_or_gt_of_ne hij with q | q
  · exact List.pairwise_iff_getElem.1 hp i j hi hj q
  · exact fun e => List.pairwise_iff_getElem.1 hp j i hj hi q e.symm
theorem mem_ids {l : List Bl} : ∀ {b : Bl}, b ∈ l → b.id ∈ ids l := by
  induction l with
  | nil => intro b h; cases h
  | cons x r ih =>
    intro b h
    rcases List.mem_cons.1 h with rfl | h
    · exact List.mem_cons_self
    · exact List.mem_cons_of_mem _ (ih h)
theorem pair_of_diff {B : List Bl} (hp : B.Pairwise fun b c => b.g ≠ c.g) : ∀ {L : List Bl}, (∀ b ∈ L, b ∈ B) → Diff (ids L) → L.Pairwise fun b c => b.g ≠ c.g
  | [], _, _ => List.Pairwise.nil
  | x :: _, h, hd => List.Pairwise.cons (fun y hy => pair_g hp (h x List.mem_cons_self) (h y (List.mem_cons_of_mem _ hy)) (hd.1 y.id (mem_ids hy))) (pair_of_diff hp (fun b hb => h b (List.mem_cons_of_mem _ hb)) hd.2)
theorem Rel.sub {E : Env} {σ τ : St} {a : Act} {w : World} (h : Rel E σ a w) (hs : Sub σ τ) : Rel E τ a w := by
  obtain ⟨h1, h2, h3, h4, h5, h6⟩ := hs
  have hb : ∀ b ∈ τ.blks, b ∈ σ.blks := fun b hb => getBl_mem (subB_mem h2 b hb)
  have hM : ∀ k, τ.M E k → σ.M E k := by
    intro k hk
    rcases hk with hk | ⟨b, hb', rfl⟩ | ⟨_, hr, e⟩
    · exact .inl hk
    · exact .inr (.inl ⟨b, hb b hb', rfl⟩)
    · exact .inr (.inr ⟨_, h4.subset hr, e⟩)
  refine ⟨fun t v hv => h.tmps t v (subT_look h1 t v hv), h.size, h.defers, fun b hb' => h.blks b (hb b hb'), pair_of_diff h.nodup hb h3, fun b hb' => h.own b (hb b hb'), fun _ hr => h.rows _ (h4.subset hr), fun r hr b hb' => h.apart r (h4.subset hr) b (hb b hb'), h.rapart.sublist h4, fun v hv => ?_, h.chg, fun s hs => ?_, h.mem⟩
  · obtain ⟨a1, a2, a3⟩ := h.views v (h5 v hv)
    exact ⟨a1, fun q => a2 (hM _ q), a3⟩
  · exact ⟨(h.snaps s (h6 s hs)).size, fun k hk hm => ⟨((h.snaps s (h6 s hs)).keep k hk hm).1, fun q => ((h.snaps s (h6 s hs)).keep k hk hm).2 (hM k q)⟩⟩
theorem sub_ok {E : Env} {σ τ : St} {Φ : Act → World → Prop} (h : Ok E τ Φ) (hs : Sub σ τ) : Ok E σ Φ := fun a w hr => h a w (hr.sub hs)
/-- a look at the world as it stands -/
theorem snap_ok {E : Env} {σ : St} {Φ : Act → World → Prop} (h : ∀ G : GW, (∀ s ∈ σ.snaps, s.Le G) → Ok E (σ.seen G) Φ) : Ok E σ Φ := fun a w hr =>
  h ⟨σ.M E, w⟩ hr.snaps a w (hr.called (Chg.refl _ _))
theorem wp_loop_ix {ι : Type} {P : Program} {Q : Exit → Act → World → Prop} {a : Act} {w : World} {c : Code} (I : ι → Act → World → Prop) (μ : ι → Nat) (i0 : ι) (h₀ : I i0 a w)
    (round : ∀ i a w, I i a w → c.wp P (Exit.then (fun a' w' => ∃ i', I i' a' w' ∧ μ i' < μ i) Q) a w) : (Code.loop c).wp P Q a w := by
  intro b k cs
  have key : ∀ n i a w, μ i = n → I i a w →
      ∃ e a' w', Q e a' w' ∧ Arrives P (lone (b.at a (.code c :: .inLoop c :: k)) cs w) b k cs e a' w' := by
    intro n
    induction n using Nat.strongRecOn with
    | _ n ih =>
      intro i a w hn hI
      obtain ⟨e, a₁, w₁, hq, harr⟩ := round i a w hI b (.inLoop c :: k) cs
      cases e with
      | normal =>
        obtain ⟨i', hI₁, hlt⟩ := hq
        obtain ⟨e₂, a₂, w₂, hq₂, harr₂⟩ := ih (μ i') (hn ▸ hlt) i' a₁ w₁ rfl hI₁
        exact ⟨e₂, a₂, w₂, hq₂, .of_steps (Steps.trans harr (.one step_inLoop)) harr₂⟩
      | exit id => exact ⟨_, a₁, w₁, hq, .pass (x := .inLoop c) rfl (fun _ _ => .inl (by simp)) harr⟩
      | goto l => exact ⟨_, a₁, w₁, hq, .pass (x := .inLoop c) rfl (fun _ _ => .inl (by simp)) harr⟩
      | ret => exact ⟨_, a₁, w₁, hq, .pass (x := .inLoop c) rfl (fun _ _ => .inl (by simp)) harr⟩
      | panic ch => exact ⟨_, a₁, w₁, hq, .pass (x := .inLoop c) rfl (fun _ _ => .inl (by simp)) harr⟩
      | outgrown => exact ⟨_, a₁, w₁, hq, .pass (x := .inLoop c) rfl (fun _ _ => .inl (by simp)) harr⟩
  obtain ⟨e, a', w', hq, harr⟩ := key _ i0 a w rfl h₀
  exact ⟨e, a', w', hq, .of_steps (.one step_loop) harr⟩
/-- behind a round: the state is one of the heads again, further on -/
def Again {ι : Type} (E : Env) (σI : ι → St) (C : ι → Prop) (μ : ι → Nat) (m : Nat) (a : Act) (w : World) : Prop := ∃ i, (C i ∧ Rel E (σI i) a w) ∧ μ i < m
/-- the loop's law: at each round's head the state is one of these, and the measure goes down -/
theorem loop_ok {ι : Type} {P : Program} {E : Env} {k : Cont} {N : Nat} {body : Code} {σ : St} (σI : ι → St) (C : ι → Prop) (μ : ι → Nat) (hk : k.ok) (i0 : ι) (h0 : C i0) (hs : Sub σ (σI i0))
    (hround : ∀ i, C i → W P E N (.inv (Again E σI C μ (μ i)) k) (.code body) (σI i)) : Ok E σ (sem P k (.code (.loop body))) := fun _ _ hr =>
  wp_loop_ix (fun i a w => C i ∧ Rel E (σI i) a w) μ i0 ⟨h0, hr.sub hs⟩ fun i a w hI => W_sound N (.inv (Again E σI C μ (μ i)) k) (.code body) (σI i) hk (hround i hI.1) trivial a w hI.2
theorem again_ok {ι : Type} {E : Env} {σI : ι → St} {C : ι → Prop} {μ : ι → Nat} {m : Nat} {σ : St} (i : ι) (hC : C i) (hm : μ i < m) (hs : Sub σ (σI i)) : Ok E σ (Again E σI C μ m) := fun _ _ hr => ⟨i, ⟨hC, hr.sub hs⟩, hm⟩
/-- the end, as a call's return -/
def FinR (P : Program) (E : Env) (G : GW) (σ : St) (rs : List ResultVar) (T : Value → GW → Prop) : Prop := match resL P σ rs with
  | some (s, vs) => s ∧ ∀ a w, Rel E σ a w → (∀ t ∈ σ.snaps, t.Le ⟨G.M, w⟩) → T (resV vs) ⟨G.M, w⟩
  | none => False
theorem fin_ret {P : Program} {G : GW} {n : Nat} {σ : St} {fn : Func} {rs : Array ResultVar} {T : Value → GW → Prop} (hrs : fn.results = rs) (h : FinR P ⟨G.w, Non, G.M, n⟩ G σ rs.toList T) :
    Ok ⟨G.w, Non, G.M, n⟩ σ (bodyPost P fn (Ret G T) .ret) := by
  unfold FinR at h
  cases hl : resL P σ rs.toList with
  | none => rw [hl] at h; exact h.elim
  | some x =>
    obtain ⟨s, vs⟩ := x
    rw [hl] at h
    exact ret_ok hrs hl h.1 fun a w hr => ⟨_, rfl, h.2 a w hr (fun t ht => hr.fin ht), hr.chg⟩
theorem fin_norm {P : Program} {G : GW} {n : Nat} {σ : St} {fn : Func} {rs : Array ResultVar} {T : Value → GW → Prop} (hrs : fn.results = rs) (h : FinR P ⟨G.w, Non, G.M, n⟩ G σ rs.toList T) :
    Ok ⟨G.w, Non, G.M, n⟩ σ (bodyPost P fn (Ret G T) .normal) := by
  unfold FinR at h
  cases hl : resL P σ rs.toList with
  | none => rw [hl] at h; exact h.elim
  | some x =>
    obtain ⟨s, vs⟩ := x
    rw [hl] at h
    exact end_ok hrs hl h.1 fun a w hr => ⟨_, rfl, h.2 a w hr (fun t ht => hr.fin ht), hr.chg⟩
def finA (E : Env) (G : GW) (σ : St) (T : Value → GW → Prop) (vs : List SV) : Prop := ∀ a w, Rel E σ a w → (∀ t ∈ σ.snaps, t.Le ⟨G.M, w⟩) → T (resV vs) ⟨G.M, w⟩
def finB (E : Env) (G : GW) (σ : St) (T : Value → GW → Prop) : Option (Prop × List SV) → Prop
  | some (s, vs) => s ∧ finA E G σ T vs
  | none => False
def consR : Option (Prop × SV) → Option (Prop × List SV) → Option (Prop × List SV)
  | some (s, v), some (s', vs) => some (s ∧ s', v :: vs)
  | _, _ => none
section
variable (P : Program) (E : Env) (G : GW) (σ : St) (T : Value → GW → Prop)
@[go_sem] theorem FinR_def (rs : List ResultVar) : FinR P E G σ rs T = finB E G σ T (resL P σ rs) := by
  unfold FinR finB finA; cases resL P σ rs <;> rfl
@[go_sem] theorem finB_some (s : Prop) (vs : List SV) : finB E G σ T (some (s, vs)) = (s ∧ finA E G σ T vs) := rfl
@[go_sem] theorem resL_nil : resL P σ [] = some (True, []) := rfl
@[go_sem] theorem resL_cons (r : ResultVar) (l : List ResultVar) : resL P σ (r :: l) = consR (resO P σ r) (resL P σ l) := by unfold consR; rw [resL]; rfl
@[go_sem] theorem consR_some (s s' : Prop) (v : SV) (vs : List SV) : consR (some (s, v)) (some (s', vs)) = some (s ∧ s', v :: vs) := rfl
@[go_sem] theorem resO_tmp (t : Nat) : resO P σ (.tmp t) = tmpR (look σ.tmps t) := rfl
@[go_sem] theorem tmpR_some (v : SV) : tmpR (some v) = some (True, v) := rfl
@[go_sem] theorem resO_cell (x t : Nat) : resO P σ (.cell x t) = cellR P t σ.blks (look σ.tmps x) := rfl
@[go_sem] theorem cellR_p (t id g off : Nat) (B : List Bl) : cellR P t B (some (.c (.p id g off))) = cellB P t g off (getBl B id) := rfl
@[go_sem] theorem cellB_some (t g off i g' t' : Nat) (cs : List SC) : cellB P t g off (some ⟨i, g', t', cs⟩) = valR (loadC2 cs off (g' = g) (tSize P t) (tRow P t)) := rfl
@[go_sem] theorem valR_val (s : Prop) (v : SV) : valR (.val s v) = some (s, v) := rfl
@[go_sem] theorem resV_one (v : SV) : resV [v] = v.den := rfl
@[go_sem] theorem resV_two (v u : SV) : resV [v, u] = .tuple #[v.den, u.den] := rfl
@[go_sem] theorem resV_three (v u x : SV) : resV [v, u, x] = .tuple #[v.den, u.den, x.den] := rfl
@[go_sem] theorem resV_four (v u x y : SV) : resV [v, u, x, y] = .tuple #[v.den, u.den, x.den, y.den] := rfl
@[go_sem] theorem resV_five (v u x y z : SV) : resV [v, u, x, y, z] = .tuple #[v.den, u.den, x.den, y.den, z.den] := rfl
@[go_sem] theorem resV_nil : resV [] = .tuple #[] := rfl
@[go_sem] theorem den_v (x : Value) : (SV.c (.v x)).den = x := rfl
@[go_sem] theorem den_p (id g off : Nat) : (SV.c (.p id g off)).den = .pointer (some ⟨g, off, none⟩) := rfl
@[go_sem] theorem den_s (id g off l c : Nat) : (SV.c (.s id g off l c)).den = .slice (some ⟨g, off, none⟩) l c := rfl
@[go_sem] theorem den_f (f : FuncId) (l : List (Nat × Nat × Nat)) : (SV.c (.f f l)).den = .func (.func f) #[] (l.map fun c => Value.pointer (some ⟨c.2.1, c.2.2, none⟩)).toArray := rfl
@[go_sem] theorem den_a (l : List SC) : (SV.a l).den = .agg (dens l) := rfl
@[go_sem] theorem dens_def (l : List SC) : dens l = (l.map SC.den).toArray := rfl
@[go_sem] theorem sden_v (x : Value) : (SC.v x).den = x := rfl
@[go_sem] theorem sden_p (id g off : Nat) : (SC.p id g off).den = .pointer (some ⟨g, off, none⟩) := rfl
@[go_sem] theorem sden_s (id g off l c : Nat) : (SC.s id g off l c).den = .slice (some ⟨g, off, none⟩) l c := rfl
@[go_sem] theorem sden_f (f : FuncId) (l : List (Nat × Nat × Nat)) : (SC.f f l).den = .func (.func f) #[] (l.map fun c => Value.pointer (some ⟨c.2.1, c.2.2, none⟩)).toArray := rfl
@[go_sem] theorem sub_def (T T' : List (Nat × SV)) (B B' : List Bl) (R R' : List Rw) (V V' : List Vw) (S S' : List GW) (n n' : Nat) : Sub ⟨T, B, R, V, S, n⟩ ⟨T', B', R', V', S', n'⟩ = (SubT T T' ∧ SubB B B' ∧ Diff (ids B') ∧ List.Sublist R' R ∧ (∀ v ∈ V', v ∈ V) ∧ ∀ s ∈ S', s ∈ S) := rfl
@[go_sem] theorem subT_nil (T : List (Nat × SV)) : SubT T [] = True := rfl
@[go_sem] theorem subT_cons (T r : List (Nat × SV)) (t : Nat) (v : SV) : SubT T ((t, v) :: r) = (look T t = some v ∧ SubT T r) := rfl
@[go_sem] theorem subB_nil (B : List Bl) : SubB B [] = True := rfl
@[go_sem] theorem subB_cons (B r : List Bl) (i g t : Nat) (cs : List SC) : SubB B (⟨i, g, t, cs⟩ :: r) = (getBl B i = some ⟨i, g, t, cs⟩ ∧ SubB B r) := rfl
@[go_sem] theorem ids_nil : ids [] = [] := rfl
@[go_sem] theorem ids_cons (i g t : Nat) (cs : List SC) (r : List Bl) : ids (⟨i, g, t, cs⟩ :: r) = i :: ids r := rfl
@[go_sem] theorem diff_nil : Diff [] = True := rfl
@[go_sem] theorem diff_cons (x : Nat) (r : List Nat) : Diff (x :: r) = ((∀ y ∈ r, x ≠ y) ∧ Diff r) := rfl
end
end Go.Proofs.Ytomfladifefomaa
-- Sp: What is read in blocks that nobody writes; operations that 'stepO' leaves: calls, elements, appends. Names no program. Conditions: as each law states them.
namespace Go.Proofs.Ytomfladifefomaa
open Go.RowKit
/-- a slice of n elements, of k cells each, of element type t, that reads as these cells, in a block that nobody writes -/
def Sl (G : GW) (t k n : Nat) (v : Value) (cells : List Value) : Prop :=
  ∃ A c, v = .slice A n c ∧ n ≤ c ∧ c ≤ maxLen ∧ cells.length = n * k ∧
    (0 < n → ∃ g o cur fr, A = some ⟨g, o, none⟩ ∧ ¬ G.M g ∧ G.w.heap[g]? = some (.cells cur t fr) ∧ ∀ j u, cells[j]? = some u → cur[o + j]? = some u)
theorem Sl.mono {G G' : GW} {t k n : Nat} {v : Value} {cells : List Value} (h : Sl G t k n v cells) (hl : G.Le G') : Sl G' t k n v cells := by
  obtain ⟨A, c, rfl, h1, h2, h3, h4⟩ := h
  refine ⟨A, c, rfl, h1, h2, h3, fun hn => ?_⟩
  obtain ⟨g, o, cur, fr, rfl, hm, hb, hc⟩ := h4 hn
  obtain ⟨e, m⟩ := hl.keep g (lt_of_block hb) hm
  exact ⟨g, o, cur, fr, rfl, m, e.trans hb, hc⟩
theorem Sl.tsl {G : GW} {t k n : Nat} {v : Value} {cells : List Value} (h : Sl G t k n v cells) : TSl G.w t k n v cells := by
  obtain ⟨A, c, rfl, h1, h2, h3, h4⟩ := h
  refine ⟨A, c, rfl, h1, h2, h3, fun hn => ?_⟩
  obtain ⟨g, o, cur, fr, rfl, _, hb, hc⟩ := h4 hn
  exact ⟨g, o, cur, fr, rfl, hb, hc⟩
theorem Sl.nil (G : GW) (t k : Nat) : Sl G t k 0 (.slice none 0 0) [] := ⟨none, 0, rfl, Nat.le_refl _, Nat.zero_le _, by simp, fun h => absurd h (by omega)⟩
/-- cells, an element each, that hold these things -/
def ElG {α : Type} (R : GW → α → List Value → Prop) (k : Nat) (G : GW) (css : List (List Value)) (l : List α) : Prop :=
  css.length = l.length ∧ (∀ cs ∈ css, cs.length = k) ∧ ∀ (i : Nat) (cs : List Value) (x : α), css[i]? = some cs → l[i]? = some x → R G x cs
def MonoR {α : Type} (R : GW → α → List Value → Prop) : Prop := ∀ G G' x cs, GW.Le G G' → R G x cs → R G' x cs
/-- a slice of such elements -/
def Sq {α : Type} (R : GW → α → List Value → Prop) (t k : Nat) (G : GW) (v : Value) (l : List α) : Prop := ∃ css, ElG R k G css l ∧ Sl G t k l.length v css.flatten
section
variable {α : Type} {R : GW → α → List Value → Prop} {t k : Nat} {G G' : GW} {v : Value} {l : List α} {css : List (List Value)}
theorem ElG.mono (h : ElG R k G css l) (hR : MonoR R) (hl : G.Le G') : ElG R k G' css l := ⟨h.1, h.2.1, fun i cs x h1 h2 => hR _ _ _ _ hl (h.2.2 i cs x h1 h2)⟩
theorem Sq.mono (h : Sq R t k G v l) (hR : MonoR R) (hl : G.Le G') : Sq R t k G' v l := by
  obtain ⟨css, he, hs⟩ := h
  exact ⟨css, he.mono hR hl, hs.mono hl⟩
theorem ElG.nil : ElG R k G [] [] := ⟨rfl, by simp, fun i cs x h => by simp at h⟩
theorem ElG.snoc (h : ElG R k G css l) {cs : List Value} {x : α} (hl : cs.length = k) (hr : R G x cs) : ElG R k G (css ++ [cs]) (l ++ [x]) := by
  refine ⟨by simp [h.1], ?_, ?_⟩
  · intro c hc
    rcases List.mem_append.1 hc with hc | hc
    · exact h.2.1 c hc
    · simp at hc; subst hc; exact hl
  · intro i c y hc hy
    by_cases hi : i < css.length
    · rw [List.getElem?_append_left hi] at hc
      rw [List.getElem?_append_left (by rw [← h.1]; exact hi)] at hy
      exact h.2.2 i c y hc hy
    · have hb : i < (css ++ [cs]).length := (List.getElem?_eq_some_iff.1 hc).1
      have e : i = css.length := by simp at hb; omega
      subst e
      rw [List.getElem?_append_right (Nat.le_refl _)] at hc
      rw [List.getElem?_append_right (by rw [h.1]; exact Nat.le_refl _)] at hy
      simp at hc
      rw [h.1] at hy
      simp at hy
      subst hc; subst hy; exact hr
theorem ElG.at_ (h : ElG R k G css l) {i : Nat} {x : α} (hx : l[i]? = some x) : ∃ cs, css[i]? = some cs ∧ cs.length = k ∧ R G x cs := by
  have hi : i < css.length := by rw [h.1]; exact (List.getElem?_eq_some_iff.1 hx).1
  exact ⟨css[i], List.getElem?_eq_getElem hi, h.2.1 _ (List.getElem_mem hi), h.2.2 i _ x (List.getElem?_eq_getElem hi) hx⟩
theorem Sq.nil : Sq R t k G (.slice none 0 0) [] := ⟨[], ElG.nil, Sl.nil G t k⟩
theorem Sq.form (h : Sq R t k G v l) : ∃ A c, v = .slice A l.length c ∧ l.length ≤ c ∧ c ≤ maxLen := by
  obtain ⟨css, _, A, c, rfl, h1, h2, _⟩ := h
  exact ⟨A, c, rfl, h1, h2⟩
/-- the element at a place: where it lies, and its cells -/
theorem Sq.at_ {A : Option Addr} {n c i : Nat} {x : α} (h : Sq R t k G (.slice A n c) l) (hx : l[i]? = some x) :
    ∃ g o cs, A = some ⟨g, o, none⟩ ∧ g < G.w.heap.size ∧ ¬ G.M g ∧ cs.length = k ∧ R G x cs ∧ G.w.rangeAt g (o + i * k) cs ∧ n = l.length := by
  obtain ⟨css, he, A', c', e, h1, h2, h3, h4⟩ := h
  cases e
  obtain ⟨cs, hc, hl, hr⟩ := he.at_ hx
  have hi : i < l.length := (List.getElem?_eq_some_iff.1 hx).1
  obtain ⟨g, o, cur, fr, rfl, hm, hb, hcell⟩ := h4 (by omega)
  refine ⟨g, o, cs, rfl, lt_of_block hb, hm, hl, hr, fun j u hu => ?_, rfl⟩
  have hj : j < cs.length := (List.getElem?_eq_some_iff.1 hu).1
  rw [cell_of_block hb, Nat.add_assoc]
  refine hcell _ u ?_
  rw [flatten_at css he.2.1 i j cs hc (by omega), hu]
end

/-- what an operation may make of a state -/
def Does (P : Program) (E : Env) (σ : St) (o : Oper) (S : St → Prop) : Prop := ∀ a w (Q : Exit → Act → World → Prop) (next : Act → World → Prop), Rel E σ a w → (∀ σ' a' w', S σ' → Rel E σ' a' w' → next a' w') → o.wp P a w next Q
section
variable {P : Program} {E : Env} {σ : St} {o : Oper} {S : St → Prop} {k : Cont} {N : Nat} {ops : Array Oper}
theorem plain_ok {rest : List Oper} (hd : Does P E σ o S) (hk : k.ok) (hg : gdOk ops σ o) (h : ∀ σ', S σ' → W P E N k (.ops ops rest) σ') : Ok E σ (wpList P ops (k.den P) (o :: rest)) := by
  intro a w hr
  unfold wpList
  rw [if_pos (gdOk_wanted hg hr)]
  exact .inl (hd a w _ _ hr fun σ' a' w' hS hr' => W_sound N k _ _ hk (h σ' hS) trivial _ _ hr')
theorem any_ok {B : List Bl} {V : List Vw} {fu i : Nat} {listed : Array Bool} {p : Plan} (hd : Does P E σ o S) (hk : k.ok) (hi : ops[i]? = some o) (hg : gdOk ops σ o)
    (hB : ∀ σ', S σ' → (∀ b ∈ B, b ∈ σ.blks) → ∀ b ∈ B, b ∈ σ'.blks) (hV : ∀ σ', S σ' → ∀ v ∈ σ.views, v ∈ σ'.views)
    (h : ∀ σ', S σ' → W P E N k (.any ops B V fu (listed.setIfInBounds i true) p) σ') : AnyStop P E k ops B V fu listed i p o σ := by
  intro hI a w hr
  obtain ⟨hpl, hpa, hB0, hV0⟩ := hI
  unfold wpOp
  simp only [hi, gdOk_wanted hg hr, if_true]
  refine .inl (hd a w _ _ hr fun σ' a' w' hS hr' => ?_)
  have hB' := hB σ' hS hB0
  have hV' : ∀ v ∈ V, v ∈ σ'.views := fun v hv => hV σ' hS v (hV0 v hv)
  exact ⟨Sof_of hr' hB' hV', W_sound N k _ _ hk (h σ' hS) ⟨hpl, hpa, hB', hV'⟩ _ _ hr'⟩
/-- the same, where no block turns -/
theorem any_ok2 {B : List Bl} {V : List Vw} {fu i : Nat} {listed : Array Bool} {p : Plan} (hd : Does P E σ o S) (hk : k.ok) (hi : ops[i]? = some o) (hg : gdOk ops σ o)
    (hK : ∀ σ', S σ' → σ'.blks = σ.blks ∧ ∀ v ∈ σ.views, v ∈ σ'.views)
    (h : ∀ σ', S σ' → W P E N k (.any ops B V fu (listed.setIfInBounds i true) p) σ') : AnyStop P E k ops B V fu listed i p o σ :=
  any_ok hd hk hi hg (fun σ' hS hB b hb => by rw [(hK σ' hS).1]; exact hB b hb) (fun σ' hS => (hK σ' hS).2) h
/-- what is known of the world at a call -/
structure Now (E : Env) (σ : St) (G : GW) : Prop where
  le : ∀ s ∈ σ.snaps, s.Le G
  blks : ∀ b ∈ σ.blks, Blk G.w b.g b.t (dens b.cs)
  mine : ∀ b ∈ σ.blks, G.M b.g
  chg : Chg E.A E.W G.w
  wf : G.Wf
  only : ∀ k, G.M k → σ.M E k
  rows : ∀ r ∈ σ.rows, G.w.ownsRow E.W.heap.size r.t r.k r.v r.n r.xs
theorem Rel.wf {a : Act} {w : World} (h : Rel E σ a w) : GW.Wf ⟨σ.M E, w⟩ := by
  intro k hk
  rcases hk with hk | ⟨b, hb, rfl⟩ | ⟨r, hr, e⟩
  · exact Nat.lt_of_lt_of_le (h.mem k hk) h.chg.size
  · exact (h.blks b hb).lt
  · exact (ownsRow_lt (h.rows r hr) e).2
theorem Rel.now {a : Act} {w : World} (h : Rel E σ a w) : Now E σ ⟨σ.M E, w⟩ := ⟨h.snaps, h.blks, fun b hb => .inr (.inl ⟨b, hb, rfl⟩), h.chg, h.wf, fun _ q => q, h.rows⟩
/-- a call, by its contract -/
theorem call_does {c : Call} {f : FuncId} {vs : List SV} (T : Value → GW → Prop) (ho : o.op = .call c) (hcal : c.callee = .value (.func f)) (hf : isFn P f = true)
    (hev : evs σ c.args.toList = some vs) (hd : dOk E o.dst) (hct : ∀ G : GW, Now E σ G → Calls P f (vs.map SV.den).toArray G.w (Ret G T)) :
    Does P E σ o (fun σ' => ∃ v G, T v G ∧ Now E σ G ∧ σ' = (σ.seen G).put o.dst (.c (.v v))) := by
  intro a w Q next hr hn
  unfold Oper.wp
  rw [run_call ho hcal hev hf hr.see]
  refine Calls.mono (hct ⟨σ.M E, w⟩ hr.now) fun e w' he => ?_
  obtain ⟨v, rfl, hT, hc⟩ := he
  have hw := (hr.called hc).now
  exact hn _ _ _ ⟨v, _, hT, ⟨fun s hs => hw.le s (List.mem_cons_of_mem _ hs), hw.blks, hw.mine, hw.chg, hw.wf, hw.only, hw.rows⟩, rfl⟩ ((hr.called hc).put o.dst (.c (.v v)) (dOk_lt hd))
theorem Rel.addV {a : Act} {w : World} (h : Rel E σ a w) {g o' : Nat} {cs : List Value} (h1 : g < w.heap.size) (h2 : ¬ σ.M E g) (h3 : w.rangeAt g o' cs) : Rel E { σ with views := ⟨σ.next, g, o', cs⟩ :: σ.views, next := σ.next + 1 } a w :=
  ⟨h.tmps, h.size, h.defers, h.blks, h.nodup, h.own, h.rows, h.apart, h.rapart, fun v hv => by
    rcases List.mem_cons.1 hv with rfl | hv
    · exact ⟨h1, h2, h3⟩
    · exact h.views v hv, h.chg, h.snaps, h.mem⟩
def St.view (σ : St) (g o : Nat) (cs : List Value) : St := { σ with views := ⟨σ.next, g, o, cs⟩ :: σ.views, next := σ.next + 1 }
/-- an element of a slice that is only read -/
theorem elem_does {α : Type} {R : GW → α → List Value → Prop} {t e kc : Nat} {x i : Operand} {A : Option Addr} {n c m : Nat} {kk : IntKind} {j : Int} {l : List α} {y : α} (ho : o.op = .indexAddr t x i) (ht : tSlice P t = some e) (hk : tSize P e = some kc)
    (hx : ev σ x = some (.c (.v (.slice A n c)))) (hi : ev σ i = some (.c (.v (.int kk j)))) (hd : dOk E o.dst) (hj : j = (m : Int)) (hy : l[m]? = some y)
    (hs : ∀ G : GW, Now E σ G → Sq R e kc G (.slice A n c) l) :
    Does P E σ o (fun σ' => ∃ g o' cs G, cs.length = kc ∧ R G y cs ∧ σ' = ((σ.seen G).view g o' cs).put o.dst (.c (.q σ.next g o' 0))) := by
  intro a w Q next hr hn
  obtain ⟨g, o', cs, rfl, hg, hm, hl, hR, hrg, rfl⟩ := (hs ⟨σ.M E, w⟩ hr.now).at_ hy
  have hx' : a.eval x = .slice (some ⟨g, o', none⟩) l.length c := ev_den hr.see hx
  have hi' : a.eval i = .int kk j := ev_den hr.see hi
  have hml : m < l.length := (List.getElem?_eq_some_iff.1 hy).1
  have hu : P.underlying t = some (.slice e) := by
    unfold tSlice at ht
    split at ht
    · rename_i e' hh; cases ht; exact hh
    · cases ht
  obtain ⟨inf, hinf, hsz⟩ := tSize_spec hk
  have hrun : (execOp a.eval o).run P w = .ok (.value (.pointer (some ⟨g, o' + m * kc, none⟩))) w := by
    unfold execOp
    subst hj
    have hc1 : 0 ≤ (m : Int) ∧ (m : Int) < (l.length : Int) := ⟨by omega, by omega⟩
    simp only [ho, hx', hi', Instr.indexAt, Sem.run_bind, asIntOf, Sem.run_pure, Result.andThen_ok, run_underlying hu, hc1, and_self, if_true, sizeOf, typeInfo, run_program, hinf, hsz, Int.toNat_natCast, Addr.add_mid]
  refine wp_of_value hrun (hn _ _ _ ⟨g, o' + m * kc, cs, ⟨σ.M E, w⟩, hl, hR, rfl⟩ ?_)
  exact (((hr.called (Chg.refl _ _)).addV hg (fun q => hm q) hrg).put o.dst (.c (.q σ.next g (o' + m * kc) 0)) (dOk_lt hd))
/-- an element's address, taken first: its view is laid ahead -/
theorem take_elem {rec_ : Cmd → St → Prop} {dr : Dr} {q : Nat} {p : Plan} {t e kc : Nat} {x i : Operand} {g o' n c m : Nat} (id : Nat) {kk : IntKind} {j : Int} (ho : o.op = .indexAddr t x i) (ht : tSlice P t = some e) (hk : tSize P e = some kc)
    (hx : ev σ x = some (.c (.v (.slice (some ⟨g, o', none⟩) n c)))) (hi : ev σ i = some (.c (.v (.int kk j)))) (hd : dOk E o.dst) (hj : j = (m : Int)) (hm : m < n)
    (h : rec_ (dr.next q p) (σ.put o.dst (.c (.q id g (o' + m * kc) 0)))) : TakeStop P E rec_ dr q p o σ := by
  refine ⟨.c (.q id g (o' + m * kc) 0), hd, fun a w hr => ?_, h⟩
  have hx' : a.eval x = .slice (some ⟨g, o', none⟩) n c := ev_den hr hx
  have hi' : a.eval i = .int kk j := ev_den hr hi
  obtain ⟨inf, hinf, hsz⟩ := tSize_spec hk
  show (execOp a.eval o).run P w = .ok (.value (.pointer (some ⟨g, o' + m * kc, none⟩))) w
  unfold execOp
  subst hj
  have hc1 : 0 ≤ (m : Int) ∧ (m : Int) < (n : Int) := ⟨by omega, by omega⟩
  simp only [ho, hx', hi', Instr.indexAt, Sem.run_bind, asIntOf, Sem.run_pure, Result.andThen_ok, run_underlying (tSlice_spec ht), hc1, and_self, if_true, sizeOf, typeInfo, run_program, hinf, hsz, Int.toNat_natCast, Addr.add_mid]
end
/-- a contract in the elder form -/
theorem ret_of {P : Program} {f : FuncId} {args : Array Value} {G : GW} {R : Ending → World → Prop} {T : Value → GW → Prop} (h : Calls P f args G.w R)
    (k : ∀ e w', R e w' → ∃ v, e = .returned v ∧ T v ⟨G.M, w'⟩ ∧ Below G.w.heap.size G.w w') : Calls P f args G.w (Ret G T) :=
  h.mono fun e w' hr => let ⟨v, he, hT, hb⟩ := k e w' hr; ⟨v, he, hT, Chg.of_below hb⟩
@[go_sem] theorem view_mk (T : List (Nat × SV)) (B : List Bl) (R : List Rw) (V : List Vw) (S : List GW) (n g o : Nat) (cs : List Value) : (St.mk T B R V S n).view g o cs = ⟨T, B, R, ⟨n, g, o, cs⟩ :: V, S, n + 1⟩ := rfl
end Go.Proofs.Ytomfladifefomaa
-- Sq: Appends to rows of the call's own; rows that are read from now on; texts as bytes; cuts of slices. Names no program. Conditions: as each law states them.
namespace Go.Proofs.Ytomfladifefomaa
open Go.RowKit
/-- what 'append' asks of an element's type: its cells, its bytes -/
def tApp (P : Program) (e : TypeId) : Option (Nat × Nat) := (P.info? e).bind fun i => i.zero.bind fun z => if z.cells.size = i.size ∧ 0 < i.size then some (i.size, i.bytes) else none
theorem tApp_spec {P : Program} {e k b : Nat} (h : tApp P e = some (k, b)) : ∃ i z, P.info? e = some i ∧ i.zero = some z ∧ i.size = k ∧ i.bytes = b ∧ z.cells.size = k ∧ 0 < k := by
  obtain ⟨i, hi, h⟩ := Option.bind_eq_some_iff.1 h
  obtain ⟨z, hz, h⟩ := Option.bind_eq_some_iff.1 h
  split at h
  · rename_i hc
    cases h
    exact ⟨i, z, hi, hz, rfl, rfl, hc.1, hc.2⟩
  · cases h
def St.rowsTo (σ : St) (R : List Rw) : St := { σ with rows := R }
section
variable {P : Program} {E : Env} {σ : St} {o : Oper}
theorem Rel.grow {a : Act} {w w' : World} (h : Rel E σ a w) {R1 R2 : List Rw} {r r' : Rw} (hR : σ.rows = R1 ++ r :: R2) (hg : w.grownBy w' r.v.ownBlock)
    (hown : w'.ownsRow E.W.heap.size r'.t r'.k r'.v r'.n r'.xs) (hat : r'.v.ownBlock = r.v.ownBlock ∨ r'.v.ownBlock = some w.heap.size) : Rel E (σ.rowsTo (R1 ++ r' :: R2)) a w' := by
  have hrm : r ∈ σ.rows := by rw [hR]; simp
  have hap := h.rapart
  rw [hR, List.pairwise_append, List.pairwise_cons] at hap
  obtain ⟨p1, ⟨p2, p3⟩, p4⟩ := hap
  have hWs := h.chg.size
  have hoth : ∀ q ∈ R1 ++ R2, q ∈ σ.rows ∧ ∀ g, q.v.ownBlock = some g → r.v.ownBlock ≠ some g := by
    intro q hq
    rcases List.mem_append.1 hq with hq | hq
    · exact ⟨by rw [hR]; exact List.mem_append_left _ hq, fun g hg => p4 q hq r List.mem_cons_self g hg⟩
    · exact ⟨by rw [hR]; exact List.mem_append_right _ (List.mem_cons_of_mem _ hq), fun g hg e => p2 q hq g e hg⟩
  have hnew : ∀ g, g < w.heap.size → r'.v.ownBlock = some g → r.v.ownBlock = some g := by
    intro g hl e
    rcases hat with q | q
    · rw [← q]; exact e
    · rw [q] at e; cases e; omega
  have hbg : ∀ b ∈ σ.blks, r'.v.ownBlock ≠ some b.g := fun b hb e => h.apart r hrm b hb (hnew _ (h.blks b hb).lt e)
  have hqg : ∀ q ∈ R1 ++ R2, ∀ g, q.v.ownBlock = some g → r'.v.ownBlock ≠ some g := fun q hq g e e' => (hoth q hq).2 g e (hnew g (ownsRow_lt (h.rows q (hoth q hq).1) e).2 e')
  have hmem : ∀ q, q ∈ R1 ++ r' :: R2 → q = r' ∨ q ∈ R1 ++ R2 := by
    intro q hq
    rcases List.mem_append.1 hq with hq | hq
    · exact .inr (List.mem_append_left _ hq)
    · rcases List.mem_cons.1 hq with hq | hq
      · exact .inl hq
      · exact .inr (List.mem_append_right _ hq)
  have hM : ∀ k, k < w.heap.size → St.M E (σ.rowsTo (R1 ++ r' :: R2)) k → σ.M E k := by
    intro k hk hm
    rcases hm with hm | hm | ⟨q, hq, e⟩
    · exact .inl hm
    · exact .inr (.inl hm)
    · rcases hmem q hq with rfl | hq
      · exact .inr (.inr ⟨r, hrm, hnew k hk e⟩)
      · exact .inr (.inr ⟨q, (hoth q hq).1, e⟩)
  refine ⟨h.tmps, h.size, h.defers, fun b hb => (h.blks b hb).grown hg (fun e => h.apart r hrm b hb e.symm), h.nodup, h.own, ?_, ?_, ?_, ?_, ?_, ?_, h.mem⟩
  · intro q hq
    rcases hmem q hq with rfl | hq
    · exact hown
    · exact ownsRow_block (h.rows q (hoth q hq).1) fun g e => hg.block g (ownsRow_lt (h.rows q (hoth q hq).1) e).2 (fun q' => (hoth q hq).2 g e q'.symm)
  · intro q hq b hb
    rcases hmem q hq with rfl | hq
    · exact hbg b hb
    · exact h.apart q (hoth q hq).1 b hb
  · show (R1 ++ r' :: R2).Pairwise _
    rw [List.pairwise_append, List.pairwise_cons]
    refine ⟨p1, ⟨fun q hq g e e' => hqg q (List.mem_append_right _ hq) g e' e, p3⟩, fun q hq q' hq' g e => ?_⟩
    rcases List.mem_cons.1 hq' with rfl | hq'
    · exact hqg q (List.mem_append_left _ hq) g e
    · exact p4 q hq q' (List.mem_cons_of_mem _ hq') g e
  · intro v hv
    obtain ⟨h1, h2, h3⟩ := h.views v hv
    exact ⟨Nat.lt_of_lt_of_le h1 hg.size, fun q => h2 (hM _ h1 q), range_block h3 (hg.block _ h1 (fun e => h2 (.inr (.inr ⟨r, hrm, e.symm⟩))))⟩
  · refine ⟨hg.os.trans h.chg.os, hg.tape.trans h.chg.tape, hg.output.trans h.chg.output, Nat.le_trans h.chg.size hg.size, fun k hk hA => ?_⟩
    refine (hg.block k (by omega) (fun e => ?_)).trans (h.chg.block k hk hA)
    have := (ownsRow_lt (h.rows r hrm) e.symm).1
    omega
  · intro s hs
    have hs' := h.snaps s hs
    refine ⟨Nat.le_trans hs'.size hg.size, fun k hk hm => ?_⟩
    obtain ⟨e, n⟩ := hs'.keep k hk hm
    have hkw : k < w.heap.size := Nat.lt_of_lt_of_le hk hs'.size
    exact ⟨(hg.block k hkw (fun e => n (.inr (.inr ⟨r, hrm, e.symm⟩)))).trans e, fun q => n (hM k hkw q)⟩
/-- a row that is appended to -/
theorem append_does {s x : Operand} {t e kc by_ m cx n : Nat} {Ax : Option Addr} {news : List Value} {R1 R2 : List Rw} {v : Value} {xs : List Value} (ho : o.op = .call ⟨.builtin .append, #[s, x], #[t, t]⟩) (ht : tSlice P t = some e) (ha : tApp P e = some (kc, by_))
    (hR : σ.rows = R1 ++ ⟨v, e, kc, n, xs⟩ :: R2) (hs : ev σ s = some (.c (.v v))) {xv : SV} (hx : ev σ x = some xv) (hxv : xv.den = .slice Ax m cx) (hd : dOk E o.dst) (h1 : ∀ u ∈ news, u.oneCell' = true)
    (h63 : n + m ≤ maxLen) (hb : (n + m) * by_ ≤ 140737488355328) (hn : ∀ G : GW, Now E σ G → TSl G.w e kc m (.slice Ax m cx) news) :
    Does P E σ o (fun σ' => ∃ A' c', σ' = (σ.rowsTo (R1 ++ ⟨.slice A' (n + m) c', e, kc, n + m, xs ++ news⟩ :: R2)).put o.dst (.c (.v (.slice A' (n + m) c')))) := by
  intro a w Q next hr hnx
  obtain ⟨i, z, hi, hz, hk, hby, hzs, h0⟩ := tApp_spec ha
  have hrow := hr.rows _ (by rw [hR]; simp : (⟨v, e, kc, n, xs⟩ : Rw) ∈ σ.rows)
  have hs' : a.eval s = v := ev_den hr.see hs
  have hx' : a.eval x = .slice Ax m cx := (ev_den hr.see hx).trans hxv
  refine wp_append_tsl w s x t ho E.W.heap.size e i z kc by_ (tSlice_spec ht) hi hz hk hby hzs h0 v n xs hs' hrow Ax m cx news hx' (hn _ hr.now) h1 h63 hb hr.chg.size ?_
  intro A' c' w' hown hg hat
  exact hnx _ _ _ ⟨A', c', rfl⟩ ((hr.grow (r' := ⟨.slice A' (n + m) c', e, kc, n + m, xs ++ news⟩) hR hg hown hat).put o.dst (.c (.v (.slice A' (n + m) c'))) (dOk_lt hd))
/-- a literal that was just laid reads as its cells -/
theorem tsl_blk {G : GW} {b : Bl} {m k : Nat} (hn : Now E σ G) (hb : b ∈ σ.blks) (hl : b.cs.length = m * k) (h : m ≤ maxLen) : TSl G.w b.t k m (.slice (some ⟨b.g, 0, none⟩) m m) (b.cs.map SC.den) := by
  refine ⟨_, m, rfl, Nat.le_refl _, h, by simpa using hl, fun _ => ⟨b.g, 0, dens b.cs, (0, 0), rfl, hn.blks b hb, fun j u hj => ?_⟩⟩
  rw [Nat.zero_add]
  simpa [dens] using hj
/-- a row that there is none of yet -/
theorem row_ok {Φ : Act → World → Prop} (e kc : Nat) (h : Ok E (σ.rowsTo (⟨.slice none 0 0, e, kc, 0, []⟩ :: σ.rows)) Φ) : Ok E σ Φ := by
  intro a w hr
  refine h a w ⟨hr.tmps, hr.size, hr.defers, hr.blks, hr.nodup, hr.own, ?_, ?_, List.Pairwise.cons (fun q _ k e => by cases e) hr.rapart, ?_, hr.chg, ?_, hr.mem⟩
  · intro r hr'
    rcases List.mem_cons.1 hr' with rfl | hr'
    · exact World.ownsRow_nil w _ e kc
    · exact hr.rows r hr'
  · intro r hr' b hb
    rcases List.mem_cons.1 hr' with rfl | hr'
    · intro e; cases e
    · exact hr.apart r hr' b hb
  · intro v hv
    obtain ⟨h1, h2, h3⟩ := hr.views v hv
    refine ⟨h1, fun q => h2 ?_, h3⟩
    rcases q with q | q | ⟨r, hr', e⟩
    · exact .inl q
    · exact .inr (.inl q)
    · rcases List.mem_cons.1 hr' with rfl | hr'
      · cases e
      · exact .inr (.inr ⟨r, hr', e⟩)
  · intro s hs
    refine ⟨(hr.snaps s hs).size, fun k hk hm => ⟨((hr.snaps s hs).keep k hk hm).1, fun q => ((hr.snaps s hs).keep k hk hm).2 ?_⟩⟩
    rcases q with q | q | ⟨r, hr', e⟩
    · exact .inl q
    · exact .inr (.inl q)
    · rcases List.mem_cons.1 hr' with rfl | hr'
      · cases e
      · exact .inr (.inr ⟨r, hr', e⟩)
/-- a row that is only read from now on -/
theorem read_ok {Φ : Act → World → Prop} {R1 R2 : List Rw} {r : Rw} (hR : σ.rows = R1 ++ r :: R2) (h : ∀ G : GW, (∀ s ∈ σ.snaps, s.Le G) → Sl G r.t r.k r.n r.v r.xs → Ok E ((σ.rowsTo (R1 ++ R2)).seen G) Φ) : Ok E σ Φ := by
  intro a w hr
  have hrm : r ∈ σ.rows := by rw [hR]; simp
  have hsub : ∀ q ∈ R1 ++ R2, q ∈ σ.rows := by
    intro q hq
    rw [hR]
    rcases List.mem_append.1 hq with hq | hq
    · exact List.mem_append_left _ hq
    · exact List.mem_append_right _ (List.mem_cons_of_mem _ hq)
  have hap := hr.rapart
  rw [hR, List.pairwise_append, List.pairwise_cons] at hap
  obtain ⟨p1, ⟨p2, p3⟩, p4⟩ := hap
  have hM : ∀ k, St.M E (σ.rowsTo (R1 ++ R2)) k → σ.M E k := by
    intro k hk
    rcases hk with q | q | ⟨r, hr', e⟩
    · exact .inl q
    · exact .inr (.inl q)
    · exact .inr (.inr ⟨r, hsub r hr', e⟩)
  have hr2 : Rel E (σ.rowsTo (R1 ++ R2)) a w := ⟨hr.tmps, hr.size, hr.defers, hr.blks, hr.nodup, hr.own, fun q hq => hr.rows q (hsub q hq), fun q hq => hr.apart q (hsub q hq),
    List.pairwise_append.2 ⟨p1, p3, fun q hq q' hq' => p4 q hq q' (List.mem_cons_of_mem _ hq')⟩,
    fun v hv => let ⟨h1, h2, h3⟩ := hr.views v hv; ⟨h1, fun q => h2 (hM _ q), h3⟩, hr.chg,
    fun s hs => ⟨(hr.snaps s hs).size, fun k hk hm => ⟨((hr.snaps s hs).keep k hk hm).1, fun q => ((hr.snaps s hs).keep k hk hm).2 (hM k q)⟩⟩, hr.mem⟩
  refine h ⟨St.M E (σ.rowsTo (R1 ++ R2)), w⟩ hr2.snaps ?_ a w (hr2.called (Chg.refl _ _))
  have hrow := hr.rows r hrm
  rcases hrow.2 with ⟨e1, e2⟩ | ⟨g, cap, cur, e, hb, hg, h1, h2, h3, h4⟩
  · rw [e1, e2]
    have : r.xs = [] := List.eq_nil_of_length_eq_zero (by rw [hrow.1, e2, Nat.zero_mul])
    rw [this]
    exact Sl.nil _ _ _
  · refine ⟨_, cap, e, h1, h2, hrow.1, fun _ => ⟨g, 0, cur, (0, 0), rfl, fun q => ?_, hg, fun j u hu => ?_⟩⟩
    · have hown : r.v.ownBlock = some g := by rw [e]; rfl
      have hWs := hr.chg.size
      rcases q with q | ⟨b, hb', e'⟩ | ⟨q, hq, e'⟩
      · have := hr.mem g q
        have := (ownsRow_lt hrow hown).1
        omega
      · exact hr.apart r hrm b hb' (by rw [hown, e'])
      · rcases List.mem_append.1 hq with hq | hq
        · exact p4 q hq r List.mem_cons_self g e' hown
        · exact p2 q hq g hown e'
    · rw [← h4, List.getElem?_take] at hu
      split at hu
      · simpa using hu
      · cases hu
end
end Go.Proofs.Ytomfladifefomaa
-- Sv: Texts as bytes, bytes as texts, cuts of slices. Names no program. Conditions: as each law states them.
namespace Go.Proofs.Ytomfladifefomaa
open Go.RowKit
/-- bytes that nobody writes; e: the type of bytes -/
def Byt (e : TypeId) (G : GW) (v : Value) (bs : List UInt8) : Prop := Sl G e 1 bs.length v (bs.map enc8)
section
variable {P : Program} {E : Env} {σ : St} {o : Oper}
theorem tInt_spec {t : TypeId} {k : IntKind} (h : tInt P t = some k) : P.underlying t = some (.int k) := by
  unfold tInt at h
  split at h
  · rename_i hh; cases h; exact hh
  · cases h
theorem tStr_spec {t : TypeId} (h : tStr P t = true) : P.underlying t = some .string := by
  unfold tStr at h
  split at h
  · rename_i hh; exact hh
  · cases h
theorem chg_bytes (W : World) (e : TypeId) (s : ByteArray) : Chg Non W (Lib.bytesWorld W e s) := by
  refine ⟨?_, ?_, ?_, by rw [Lib.bytesWorld_size]; omega, fun k hk _ => Lib.bytesWorld_at_old W e s k hk⟩
  all_goals
    unfold Lib.bytesWorld World.freeze
    rw [if_neg (by omega)]
    rfl
/-- a text as bytes -/
theorem bytes_does {src dst e : TypeId} {x : Operand} {s : ByteArray} (ho : o.op = .convert src dst x) (h1 : tStr P src = true) (h2 : tSlice P dst = some e) (h3 : tInt P e = some .u8)
    (hx : ev σ x = some (.c (.v (.string s)))) (hd : dOk E o.dst) (hsz : s.size ≤ 1000000) :
    Does P E σ o (fun σ' => ∃ A c G, Byt e G (.slice A s.data.toList.length c) s.data.toList ∧ σ' = (σ.seen G).put o.dst (.c (.v (.slice A s.data.toList.length c)))) := by
  intro a w Q next hr hn
  have hx' : a.eval x = .string s := ev_den hr.see hx
  have hl : s.data.toList.length = s.size := by rw [Array.length_toList]; rfl
  have hrun := Lib.run_convert_string_bytes (P := P) w src dst e s (tStr_spec h1) (tSlice_spec h2) (tInt_spec h3)
  rw [← hl] at hrun
  have hrun2 : (execOp a.eval o).run P w = .ok (.value (.slice (some ⟨w.heap.size, 0, none⟩) s.data.toList.length (grownCap w s.data.toList.length 0 e))) (Lib.bytesWorld w e s) := by
    unfold execOp
    simp only [ho, hx', Sem.run_bind, hrun, Result.andThen_ok, Sem.run_pure]
  have hc := chg_bytes w e s
  refine wp_of_value hrun2 (hn _ _ _ ⟨_, _, ⟨σ.M E, Lib.bytesWorld w e s⟩, ?_, rfl⟩ ((hr.called hc).put o.dst (.c (.v _)) (dOk_lt hd)))
  refine ⟨_, _, rfl, by rw [hl]; exact grownCap_ge w s.size 0 _, by rw [hl]; exact grownCap_le_maxLen w s.size 0 _ (by unfold maxLen; omega), by simp, fun _ => ⟨_, 0, _, _, rfl, fun q => ?_, Lib.bytesWorld_at_new w e s, fun j u hu => ?_⟩⟩
  · have : w.heap.size < w.heap.size := hr.wf _ q
    omega
  · have hj : j < s.data.toList.length := by simpa using (List.getElem?_eq_some_iff.1 hu).1
    rw [Nat.zero_add]
    unfold Lib.bytesCells
    rw [Array.getElem?_append_left (by simpa using hj), ← hu]
    simp
    rfl
theorem strOf_enc (bs : List UInt8) : strOfNums (bs.map fun b => (b.toNat : Int)) = ⟨bs.toArray⟩ := by
  unfold strOfNums
  congr 1
  rw [List.map_map]
  congr 1
  conv => rhs; rw [← List.map_id bs]
  apply List.map_congr_left
  intro b _
  simp
/-- bytes as a text -/
theorem text_does {src dst e : TypeId} {x : Operand} {v : Value} {bs : List UInt8} (ho : o.op = .convert src dst x) (h1 : tStr P dst = true) (h2 : tSlice P src = some e) (h3 : tInt P e = some .u8)
    (hx : ev σ x = some (.c (.v v))) (hd : dOk E o.dst) (hb : ∀ G : GW, Now E σ G → Byt e G v bs) :
    Does P E σ o (fun σ' => σ' = σ.put o.dst (.c (.v (.string ⟨bs.toArray⟩)))) := by
  intro a w Q next hr hn
  have hx' : a.eval x = v := ev_den hr.see hx
  obtain ⟨A, c, rfl, hc1, hc2, hl, hbk⟩ := hb _ hr.now
  have hrun : (convert src dst (.slice A bs.length c)).run P w = .ok (.string ⟨bs.toArray⟩) w := by
    cases bs with
    | nil =>
      cases A with
      | none => exact run_convert_bytes_nil w src e (tSlice_spec h2) (tInt_spec h3) 0 c dst (tStr_spec h1)
      | some ad =>
        simp [convert, run_underlying (tSlice_spec h2), run_underlying (tStr_spec h1), run_underlying (tInt_spec h3), Conv.bytesToString, loadCells, loadCellsFrom]
        rfl
    | cons b r =>
      obtain ⟨g, o', cur, fr, rfl, _, hbl, hcell⟩ := hbk (by simp)
      have := run_convert_bytes_arg w src e (tSlice_spec h2) (tInt_spec h3) g o' (b :: r).length c ((b :: r).map fun b => (b.toNat : Int)) (by simp) (fun i hi => by
        rw [cell_of_block hbl]
        refine hcell i _ ?_
        rw [List.getElem?_map, List.getElem?_eq_getElem hi]
        rw [List.getD_eq_getElem?_getD, List.getElem?_map, List.getElem?_eq_getElem hi]
        rfl) dst (tStr_spec h1)
      rw [strOf_enc] at this
      exact this
  have hrun2 : (execOp a.eval o).run P w = .ok (.value (.string ⟨bs.toArray⟩)) w := by
    unfold execOp
    simp only [ho, hx', Sem.run_bind, hrun, Result.andThen_ok, Sem.run_pure]
  exact wp_of_value hrun2 (hn _ _ _ rfl (hr.put o.dst (.c (.v (.string ⟨bs.toArray⟩))) (dOk_lt hd)))
end
end Go.Proofs.Ytomfladifefomaa
-- So: Calls that hand memory over; rows that are written in their midst; which types of blocks somebody writes. Names no program. Conditions: as each law states them.
namespace Go.Proofs.Ytomfladifefomaa
open Go.RowKit
/-- no block that somebody writes is of these types -/
def Tid (X : TypeId → Bool) (G : GW) : Prop := ∀ k, G.M k → ∀ cur t fr, G.w.heap[k]? = some (.cells cur t fr) → X t = false
theorem keepX_le {X : TypeId → Bool} {G G' : GW} (h : G.Le G') (ht : Tid X G) : KeepX X G.w G'.w :=
  ⟨h.size, fun g cur t fr hg hx => (h.keep g (lt_of_block hg) (fun hm => by rw [ht g hm cur t fr hg] at hx; cases hx)).1.trans hg⟩
theorem keepX_chg {X : TypeId → Bool} {w w' : World} (h : Chg Non w w') : KeepX X w w' := KeepX.of_below h.below
theorem Tid.mono {X Y : TypeId → Bool} {G : GW} (h : Tid X G) (hy : ∀ t, Y t = true → X t = true) : Tid Y G := fun k hm cur t fr hk => by
  have := h k hm cur t fr hk
  cases hyt : Y t with
  | false => rfl
  | true => rw [hy t hyt] at this; cases this
theorem tid_now {X : TypeId → Bool} {E : Env} {σ : St} {G : GW} (hn : Now E σ G) (hA : ∀ k, ¬ E.A k) (h0 : Tid X ⟨E.M, E.W⟩) (hm : ∀ k, E.M k → k < E.W.heap.size) (hr : ∀ r ∈ σ.rows, X r.t = false) (hb : ∀ b ∈ σ.blks, X b.t = false) : Tid X G := by
  intro k hk cur t fr hc
  rcases hn.only k hk with q | ⟨b, hb', rfl⟩ | ⟨r, hr', e'⟩
  · exact h0 k q cur t fr ((hn.chg.block k (hm k q) (hA k)).symm.trans hc)
  · have := hn.blks b hb'
    unfold Blk at this
    rw [this] at hc
    cases hc
    exact hb b hb'
  · have := hn.rows r hr'
    rcases this.2 with ⟨e, _⟩ | ⟨g, cap, cur', e, _, hg, _⟩
    · rw [e] at e'; cases e'
    · rw [e] at e'; cases e'
      rw [hg] at hc; cases hc
      exact hr r hr'
/-- apart rows -/
def RApart (R : List Rw) : Prop := R.Pairwise fun r r' => ∀ k, r.v.ownBlock = some k → r'.v.ownBlock ≠ some k
/-- what a call returns that hands rows over: the caller may write them -/
def RetO (G : GW) (T : Value → List Rw → GW → Prop) (e : Ending) (w' : World) : Prop := ∃ v R, e = .returned v ∧ (∀ r ∈ R, w'.ownsRow G.w.heap.size r.t r.k r.v r.n r.xs) ∧ RApart R ∧
  T v R ⟨fun k => G.M k ∨ ∃ r ∈ R, r.v.ownBlock = some k, w'⟩ ∧ Chg Non G.w w'
section
variable {P : Program} {E : Env} {σ : St} {o : Oper}
theorem Rel.calledO {a : Act} {w w' : World} (h : Rel E σ a w) (hc : Chg Non w w') {R : List Rw} (hown : ∀ r ∈ R, w'.ownsRow w.heap.size r.t r.k r.v r.n r.xs) (hap : RApart R) :
    Rel E ((σ.rowsTo (R ++ σ.rows)).seen ⟨fun k => σ.M E k ∨ ∃ r ∈ R, r.v.ownBlock = some k, w'⟩) a w' := by
  have hWs := h.chg.size
  have hr := h.called hc
  have hM : ∀ k, St.M E (σ.rowsTo (R ++ σ.rows)) k ↔ (σ.M E k ∨ ∃ r ∈ R, r.v.ownBlock = some k) := by
    intro k
    constructor
    · rintro (q | q | ⟨r, hr', e⟩)
      · exact .inl (.inl q)
      · exact .inl (.inr (.inl q))
      · rcases List.mem_append.1 hr' with hr' | hr'
        · exact .inr ⟨r, hr', e⟩
        · exact .inl (.inr (.inr ⟨r, hr', e⟩))
    · rintro ((q | q | ⟨r, hr', e⟩) | ⟨r, hr', e⟩)
      · exact .inl q
      · exact .inr (.inl q)
      · exact .inr (.inr ⟨r, List.mem_append_right _ hr', e⟩)
      · exact .inr (.inr ⟨r, List.mem_append_left _ hr', e⟩)
  have hnew : ∀ r ∈ R, ∀ g, r.v.ownBlock = some g → w.heap.size ≤ g := fun r hr' g e => (ownsRow_lt (hown r hr') e).1
  refine ⟨hr.tmps, hr.size, hr.defers, hr.blks, hr.nodup, hr.own, ?_, ?_, ?_, ?_, hr.chg, ?_, hr.mem⟩
  · intro r hr'
    rcases List.mem_append.1 hr' with hr' | hr'
    · exact ownsRow_base (hown r hr') hWs
    · exact hr.rows r hr'
  · intro r hr' b hb
    rcases List.mem_append.1 hr' with hr' | hr'
    · intro e
      have := hnew r hr' _ e
      have := (h.blks b hb).lt
      omega
    · exact hr.apart r hr' b hb
  · refine List.pairwise_append.2 ⟨hap, hr.rapart, fun r hr' q hq g e e' => ?_⟩
    have := hnew r hr' g e
    have := (ownsRow_lt (h.rows q hq) e').2
    omega
  · intro v hv
    obtain ⟨h1, h2, h3⟩ := h.views v hv
    refine ⟨Nat.lt_of_lt_of_le h1 hc.size, fun q => ?_, range_block h3 (hc.block _ h1 id)⟩
    rcases (hM _).1 q with q | ⟨r, hr', e⟩
    · exact h2 q
    · have := hnew r hr' _ e
      omega
  · intro s hs
    rcases List.mem_cons.1 hs with rfl | hs
    · exact ⟨Nat.le_refl _, fun k _ hm => ⟨rfl, fun q => hm ((hM k).1 q)⟩⟩
    · have hs' := h.snaps s hs
      refine ⟨Nat.le_trans hs'.size hc.size, fun k hk hm => ?_⟩
      obtain ⟨e, n⟩ := hs'.keep k hk hm
      have hkw : k < w.heap.size := Nat.lt_of_lt_of_le hk hs'.size
      refine ⟨(hc.block k hkw id).trans e, fun q => ?_⟩
      rcases (hM k).1 q with q | ⟨r, hr', e⟩
      · exact n q
      · have := hnew r hr' k e
        omega
/-- a call that hands rows over -/
theorem callO_does {c : Call} {f : FuncId} {vs : List SV} (T : Value → List Rw → GW → Prop) (ho : o.op = .call c) (hcal : c.callee = .value (.func f)) (hf : isFn P f = true)
    (hev : evs σ c.args.toList = some vs) (hd : dOk E o.dst) (hct : ∀ G : GW, Now E σ G → Calls P f (vs.map SV.den).toArray G.w (RetO G T)) :
    Does P E σ o (fun σ' => ∃ v R G, T v R G ∧ Now E (σ.rowsTo (R ++ σ.rows)) G ∧ σ' = ((σ.rowsTo (R ++ σ.rows)).seen G).put o.dst (.c (.v v))) := by
  intro a w Q next hr hn
  unfold Oper.wp
  rw [run_call ho hcal hev hf hr.see]
  refine Calls.mono (hct ⟨σ.M E, w⟩ hr.now) fun e w' he => ?_
  obtain ⟨v, R, rfl, hown, hap, hT, hc⟩ := he
  have hr' := hr.calledO hc hown hap
  have hw := hr'.now
  refine hn _ _ _ ⟨v, R, _, hT, ⟨fun s hs => ?_, hw.blks, fun b hb => .inl (.inr (.inl ⟨b, hb, rfl⟩)), hw.chg, fun k hk => ?_, fun k hk => ?_, hw.rows⟩, rfl⟩ (hr'.put o.dst (.c (.v v)) (dOk_lt hd))
  · have h1 := hr'.snaps s (List.mem_cons_of_mem _ hs)
    refine ⟨h1.size, fun k hk hm => ⟨(h1.keep k hk hm).1, fun q => (h1.keep k hk hm).2 ?_⟩⟩
    rcases q with (q | q | ⟨r, hr2, e⟩) | ⟨r, hr2, e⟩
    · exact .inl q
    · exact .inr (.inl q)
    · exact .inr (.inr ⟨r, List.mem_append_right _ hr2, e⟩)
    · exact .inr (.inr ⟨r, List.mem_append_left _ hr2, e⟩)
  · rcases hk with q | ⟨r, hr2, e⟩
    · exact Nat.lt_of_lt_of_le (hr.wf k q) hc.size
    · exact (ownsRow_lt (hown r hr2) e).2
  · rcases hk with (q | q | ⟨r, hr2, e⟩) | ⟨r, hr2, e⟩
    · exact .inl q
    · exact .inr (.inl q)
    · exact .inr (.inr ⟨r, List.mem_append_right _ hr2, e⟩)
    · exact .inr (.inr ⟨r, List.mem_append_left _ hr2, e⟩)
/-- a row that is written in its midst from now on: a block of the call's own, whose cells are a list -/
theorem rowBlk_ok {Φ : Act → World → Prop} {R1 R2 : List Rw} {r : Rw} (hR : σ.rows = R1 ++ r :: R2) (hn : 0 < r.n)
    (h : ∀ (g cap : Nat) (cur : List Value), r.v = .slice (some ⟨g, 0, none⟩) r.n cap → r.n ≤ cap → cap ≤ maxLen → cur.length = cap * r.k → cur.take (r.n * r.k) = r.xs →
      Ok E { σ with rows := R1 ++ R2, blks := ⟨σ.next, g, r.t, cur.map .v⟩ :: σ.blks, next := σ.next + 1 } Φ) : Ok E σ Φ := by
  intro a w hr
  have hrm : r ∈ σ.rows := by rw [hR]; simp
  have hrow := hr.rows r hrm
  rcases hrow.2 with ⟨_, e2⟩ | ⟨g, cap, cur, e, hb, hg, h1, h2, h3, h4⟩
  · omega
  have hown : r.v.ownBlock = some g := by rw [e]; rfl
  have hsub : ∀ q ∈ R1 ++ R2, q ∈ σ.rows := by
    intro q hq
    rw [hR]
    rcases List.mem_append.1 hq with hq | hq
    · exact List.mem_append_left _ hq
    · exact List.mem_append_right _ (List.mem_cons_of_mem _ hq)
  have hap := hr.rapart
  rw [hR, List.pairwise_append, List.pairwise_cons] at hap
  obtain ⟨p1, ⟨p2, p3⟩, p4⟩ := hap
  have hM : ∀ k, St.M E { σ with rows := R1 ++ R2, blks := ⟨σ.next, g, r.t, cur.toList.map .v⟩ :: σ.blks, next := σ.next + 1 } k → σ.M E k := by
    intro k hk
    rcases hk with q | ⟨b, hb', rfl⟩ | ⟨q, hq, e'⟩
    · exact .inl q
    · rcases List.mem_cons.1 hb' with rfl | hb'
      · exact .inr (.inr ⟨r, hrm, hown⟩)
      · exact .inr (.inl ⟨b, hb', rfl⟩)
    · exact .inr (.inr ⟨q, hsub q hq, e'⟩)
  refine h g cap cur.toList e h1 h2 (by simpa using h3) h4 a w ⟨hr.tmps, hr.size, hr.defers, ?_, ?_, ?_, fun q hq => hr.rows q (hsub q hq), ?_, ?_, fun v hv => ?_, hr.chg, fun s hs => ?_, hr.mem⟩
  · intro b hb'
    rcases List.mem_cons.1 hb' with rfl | hb'
    · show w.heap[g]? = _
      rw [hg, dens_v, Array.toArray_toList]
    · exact hr.blks b hb'
  · exact List.Pairwise.cons (fun b hb' e' => hr.apart r hrm b hb' (by rw [hown]; exact congrArg some e')) hr.nodup
  · intro b hb'
    rcases List.mem_cons.1 hb' with rfl | hb'
    · exact .inr hb
    · exact hr.own b hb'
  · intro q hq b hb'
    rcases List.mem_cons.1 hb' with rfl | hb'
    · intro e'
      rcases List.mem_append.1 hq with hq | hq
      · exact p4 q hq r List.mem_cons_self g e' hown
      · exact p2 q hq g hown e'
    · exact hr.apart q (hsub q hq) b hb'
  · exact List.pairwise_append.2 ⟨p1, p3, fun q hq q' hq' => p4 q hq q' (List.mem_cons_of_mem _ hq')⟩
  · obtain ⟨a1, a2, a3⟩ := hr.views v hv
    exact ⟨a1, fun q => a2 (hM _ q), a3⟩
  · exact ⟨(hr.snaps s hs).size, fun k hk hm => ⟨((hr.snaps s hs).keep k hk hm).1, fun q => ((hr.snaps s hs).keep k hk hm).2 (hM k q)⟩⟩
/-- an element of a slice whose block is the call's own -/
theorem own_elem_does {t e kc : Nat} {x i : Operand} {g n c m id : Nat} {kk : IntKind} {j : Int} (ho : o.op = .indexAddr t x i) (ht : tSlice P t = some e) (hk : tSize P e = some kc)
    (hx : ev σ x = some (.c (.v (.slice (some ⟨g, 0, none⟩) n c)))) (hi : ev σ i = some (.c (.v (.int kk j)))) (hd : dOk E o.dst) (hj : j = (m : Int)) (hm : m < n) :
    Does P E σ o (fun σ' => σ' = σ.put o.dst (.c (.p id g (m * kc)))) := by
  intro a w Q next hr hn
  have hx' : a.eval x = .slice (some ⟨g, 0, none⟩) n c := ev_den hr.see hx
  have hi' : a.eval i = .int kk j := ev_den hr.see hi
  obtain ⟨inf, hinf, hsz⟩ := tSize_spec hk
  have hrun : (execOp a.eval o).run P w = .ok (.value (.pointer (some ⟨g, m * kc, none⟩))) w := by
    unfold execOp
    subst hj
    have hc1 : 0 ≤ (m : Int) ∧ (m : Int) < (n : Int) := ⟨by omega, by omega⟩
    simp only [ho, hx', hi', Instr.indexAt, Sem.run_bind, asIntOf, Sem.run_pure, Result.andThen_ok, run_underlying (tSlice_spec ht), hc1, and_self, if_true, sizeOf, typeInfo, run_program, hinf, hsz, Int.toNat_natCast, Addr.add_mid, Nat.zero_add]
  exact wp_of_value hrun (hn _ _ _ rfl (hr.put o.dst (.c (.p id g (m * kc))) (dOk_lt hd)))
end
@[go_sem] theorem rowsTo_mk (T : List (Nat × SV)) (B : List Bl) (R R' : List Rw) (V : List Vw) (S : List GW) (n : Nat) : (St.mk T B R V S n).rowsTo R' = ⟨T, B, R', V, S, n⟩ := rfl
end Go.Proofs.Ytomfladifefomaa
-- Sf: 'append(row, make(row, n)...)' onto a row of one's own: zeros. Names no program. Conditions: as each law states them.
namespace Go.Proofs.Ytomfladifefomaa
open Go.RowKit
theorem zero_cells_one (z : Value) (n : Nat) : (Builtin.zeroCells #[z] n).toList = List.replicate n z := by
  unfold Builtin.zeroCells
  apply List.ext_getElem
  · simp
  · intro i h1 h2
    simp [Nat.mod_one]
section
variable {P : Program}
theorem run_append_fill (w : World) (base : Nat) (t tn ty e : TypeId) (i : TypeInfo) (zv z : Value) (k kn : IntKind) (ht : P.underlying t = some (.slice e)) (htn : P.underlying tn = some (.int kn)) (hi : P.info? e = some i) (hz : i.zero = some zv) (hzc : zv.cells = #[z]) (hz1 : z.oneCell' = true)
    (hsize : i.size = 1) (v : Value) (n : Nat) (xs : List Value) (hown : w.ownsRow base e 1 v n xs) (m : Nat)
    (h63 : n + m ≤ maxLen) (hbytes : (n + m) * i.bytes ≤ 140737488355328) (hbase : base ≤ w.heap.size) :
    ∃ A' c' w', (Builtin.append_ #[t, tn] ty #[v, .int k (m : Int)]).run P w = .ok (.slice A' (n + m) c') w' ∧ w'.ownsRow base e 1 (.slice A' (n + m) c') (n + m) (xs ++ List.replicate m z) ∧ w.grownBy w' v.ownBlock ∧
      ((Value.slice A' (n + m) c').ownBlock = v.ownBlock ∨ (Value.slice A' (n + m) c').ownBlock = some w.heap.size) := by
  have hsmall : n + m ≤ 9223372036854775807 := by simp only [maxLen] at h63; omega
  have hw : IntKind.i64.wrap (m : Int) = m := by rw [IntKind.wrap_i64]; omega
  have hneg : ¬ ((m : Int) < 0) := by omega
  have hmb : m * i.bytes ≤ 140737488355328 := Nat.le_trans (Nat.mul_le_mul_right _ (by omega)) hbytes
  have h48i : ¬ (281474976710656 < (m : Int) * (i.bytes : Int)) := by rw [← Int.natCast_mul]; omega
  have hlen : (xs ++ List.replicate m z).length = (n + m) * 1 := by rw [List.length_append, hown.1, List.length_replicate, Nat.add_mul, Nat.mul_one m]
  have hzl : (Builtin.zeroCells zv.cells m).toList = List.replicate m z := by rw [hzc]; exact zero_cells_one z m
  have hza : ∀ m, Builtin.zeroCells zv.cells m = (List.replicate m z).toArray := fun m => by
    apply Array.ext'
    rw [hzc, zero_cells_one]
  have grown : ∀ (old : Nat), old < n + m → ∀ (row : Option Nat),
      (w.drew.alloc (.cells (xs.toArray ++ (List.replicate m z).toArray ++ (List.replicate (grownCap w (n + m) old e - (n + m)) z).toArray) e)).ownsRow base e 1
        (.slice (some ⟨w.heap.size, 0, none⟩) (n + m) (grownCap w (n + m) old e)) (n + m) (xs ++ List.replicate m z) ∧
      w.grownBy (w.drew.alloc (.cells (xs.toArray ++ (List.replicate m z).toArray ++ (List.replicate (grownCap w (n + m) old e - (n + m)) z).toArray) e)) row := by
    intro old ho row
    have hge := grownCap_ge w (n + m) old e
    have hcm : grownCap w (n + m) old e ≤ maxLen := grownCap_le_maxLen w (n + m) old e h63
    refine ⟨⟨hlen, .inr ⟨w.heap.size, _, _, rfl, hbase, heap_alloc_new w.drew _, hge, hcm, ?_, ?_⟩⟩, ⟨rfl, rfl, rfl, by simp, fun k hk _ => Below.heap_alloc w.drew _ k hk⟩⟩
    · have := hown.1
      simp only [Array.size_append, List.size_toArray, List.length_replicate]
      omega
    · simp only [Array.toList_append, List.append_assoc]
      rw [← List.append_assoc, ← hlen]
      exact List.take_left
  rcases hown.2 with ⟨rfl, rfl⟩ | ⟨g, cap, cur, rfl, hbg, hg, hnc, hcm, hcs, htake⟩
  · have hx : xs = [] := List.eq_nil_of_length_eq_zero (by simpa using hown.1)
    subst hx
    by_cases hm : m = 0
    · subst hm
      refine ⟨none, 0, w, ?_, World.ownsRow_nil w base e 1, ⟨rfl, rfl, rfl, Nat.le_refl _, fun _ _ _ => rfl⟩, Or.inl rfl⟩
      have hw0 : IntKind.i64.wrap 0 = 0 := by rw [IntKind.wrap_i64]; omega
      simp [Builtin.append_, run_underlying ht, run_underlying htn, sizeOf, typeInfo, hi, asInt, asIntOf, hw0]
    · have hr := Lib.run_append_nil_zeros (P := P) w t tn ty e i zv k kn ht htn hi hz m (by omega) (by omega) (by omega) (by omega)
      have hgr := grown 0 (by omega) (Value.ownBlock (.slice none 0 0))
      simp only [Nat.zero_add, List.nil_append, Array.empty_append, hza] at hgr hr ⊢
      exact ⟨_, _, _, hr, hgr.1, hgr.2, Or.inr rfl⟩
  · by_cases hroom : n + m ≤ cap
    · have hfit : n * 1 + (List.replicate m z).length ≤ cur.size := by rw [List.length_replicate, hcs]; omega
      have hst := run_storeCells_at P g (n * 1) e (List.replicate m z) 0 cur w hg (by simpa using hfit) (fun u hu => by rw [(List.mem_replicate.1 hu).2]; exact hz1)
      simp only [Nat.add_zero, Nat.mul_one] at hst
      have hr : (Builtin.append_ #[t, tn] ty #[.slice (some ⟨g, 0, none⟩) n cap, .int k (m : Int)]).run P w = .ok (.slice (some ⟨g, 0, none⟩) (n + m) cap) (w.setRow g (cur.toList.take (n * 1) ++ List.replicate m z ++ cur.toList.drop (n * 1 + m)).toArray) := by
        by_cases hm : m = 0
        · subst hm
          have hw0 : IntKind.i64.wrap 0 = 0 := by rw [IntKind.wrap_i64]; omega
          simp only [List.replicate_zero, List.length_nil, Nat.add_zero] at hst
          simp [Builtin.append_, run_underlying ht, run_underlying htn, sizeOf, typeInfo, hi, asInt, asIntOf, hw0, hnc, hsize, Addr.add_mid, hst]
        · simp [Builtin.append_, run_underlying ht, run_underlying htn, sizeOf, typeInfo, zeroValue, hi, hz, asInt, asIntOf, hw, hneg, h48i, hroom, hsize, hm, hza, Addr.add_mid, hst]
      refine ⟨_, _, _, hr, ⟨hlen, .inr ⟨g, cap, _, rfl, hbg, setRow_heap w g cur _ e _ hg, hroom, hcm, ?_, ?_⟩⟩, ⟨rfl, rfl, rfl, by simp, fun k _ hk => setRow_other w g k _ (fun e => hk (by simp [Value.ownBlock, e]))⟩, Or.inl rfl⟩
      · simp only [List.size_toArray, List.length_append, List.length_take, List.length_drop, Array.length_toList, List.length_replicate]
        simp only [List.length_replicate] at hfit
        omega
      · rw [htake, ← hlen]
        exact List.take_left
    · have holds : ∀ j u, xs[j]? = some u → w.cell? ((⟨g, 0, none⟩ : Addr).add j) = some u := hown.cells (g := g) rfl
      have hfo := run_firstCells_some (P := P) w.drew i.size n ⟨g, 0, none⟩ n cap xs (by rw [hsize]; exact hown.1) (by simpa using holds)
      rw [hsize] at hfo
      have hm : m ≠ 0 := by omega
      have hr := Lib.run_append_grow_zeros (P := P) w t tn ty e i zv k kn ht htn hi hz (some ⟨g, 0, none⟩) n cap xs (by rw [hsize]; exact hfo) m (by omega) (by omega) (by omega) (by omega) (by omega) (growslice_fits (need := n + m) (old := cap) (bytes := i.bytes) (by omega) hbytes)
      simp only [hza] at hr
      have hgr := grown cap (by omega) (Value.ownBlock (.slice (some ⟨g, 0, none⟩) n cap))
      exact ⟨_, _, _, hr, hgr.1, hgr.2, Or.inr rfl⟩
end
section
variable {P : Program} {E : Env} {σ : St} {o : Oper}
theorem append_fill_does {s x : Operand} {t tn e by_ n m : Nat} {kn k : IntKind} {z : Value} {R1 R2 : List Rw} {v : Value} {xs : List Value} (ho : o.op = .call ⟨.builtin .append, #[s, x], #[t, tn]⟩) (ht : tSlice P t = some e) (htn : tInt P tn = some kn) (ha : tApp P e = some (1, by_)) (hzr : tZero P e = some [z])
    (hR : σ.rows = R1 ++ ⟨v, e, 1, n, xs⟩ :: R2) (hs : ev σ s = some (.c (.v v))) {j : Int} (hx : ev σ x = some (.c (.v (.int k j)))) (hj : j = (m : Int)) (hd : dOk E o.dst) (h1 : z.oneCell' = true)
    (h63 : n + m ≤ maxLen) (hb : (n + m) * by_ ≤ 140737488355328) :
    Does P E σ o (fun σ' => ∃ A' c', σ' = (σ.rowsTo (R1 ++ ⟨.slice A' (n + m) c', e, 1, n + m, xs ++ List.replicate m z⟩ :: R2)).put o.dst (.c (.v (.slice A' (n + m) c')))) := by
  intro a w Q next hr hnx
  subst hj
  obtain ⟨i, zv, hi, hz, hk, hby, hzs, h0⟩ := tApp_spec ha
  obtain ⟨i', zv', hi', hz', hzl⟩ := tZero_spec hzr
  rw [hi] at hi'; cases hi'
  rw [hz] at hz'; cases hz'
  have hzc : zv.cells = #[z] := by apply Array.ext'; rw [hzl]
  have hrow := hr.rows _ (by rw [hR]; simp : (⟨v, e, 1, n, xs⟩ : Rw) ∈ σ.rows)
  have hs' : a.eval s = v := ev_den hr.see hs
  have hx' : a.eval x = .int k (m : Int) := ev_den hr.see hx
  subst hby
  obtain ⟨A', c', w', hrun, hown, hg, hat⟩ := run_append_fill (P := P) w E.W.heap.size t tn o.type e i zv z k kn (tSlice_spec ht) (tInt_spec htn) hi hz hzc h1 hk v n xs hrow m h63 hb hr.chg.size
  refine Lib.wp_append_run w s x t tn ho v _ hs' hx' _ _ hrun ?_
  exact hnx _ _ _ ⟨A', c', rfl⟩ ((hr.grow (r' := ⟨.slice A' (n + m) c', e, 1, n + m, xs ++ List.replicate m z⟩) hR hg hown hat).put o.dst (.c (.v (.slice A' (n + m) c'))) (dOk_lt hd))
end
end Go.Proofs.Ytomfladifefomaa
-- Op: Arguments that are slices: what is read of them, element by element, whatever the type of the block they lie in. Names no program. Conditions: as each law states them.
namespace Go.Proofs.Ytomfladifefomaa
open Go.RowKit
/-- a slice of n elements, of k cells each, that reads as these cells, in a block that nobody writes -/
def Sc (G : GW) (k n : Nat) (v : Value) (cells : List Value) : Prop :=
  ∃ A c, v = .slice A n c ∧ n ≤ c ∧ c ≤ maxLen ∧ cells.length = n * k ∧ (0 < n → ∃ g o, A = some ⟨g, o, none⟩ ∧ ¬ G.M g ∧ g < G.w.heap.size ∧ G.w.rangeAt g o cells)
theorem Sc.mono {G G' : GW} {k n : Nat} {v : Value} {cells : List Value} (h : Sc G k n v cells) (hl : G.Le G') : Sc G' k n v cells := by
  obtain ⟨A, c, rfl, h1, h2, h3, h4⟩ := h
  refine ⟨A, c, rfl, h1, h2, h3, fun hn => ?_⟩
  obtain ⟨g, o, rfl, hm, hb, hc⟩ := h4 hn
  obtain ⟨e, m⟩ := hl.keep g hb hm
  exact ⟨g, o, rfl, m, Nat.lt_of_lt_of_le hb hl.size, range_block hc e⟩
theorem Sl.sc {G : GW} {t k n : Nat} {v : Value} {cells : List Value} (h : Sl G t k n v cells) : Sc G k n v cells := by
  obtain ⟨A, c, rfl, h1, h2, h3, h4⟩ := h
  refine ⟨A, c, rfl, h1, h2, h3, fun hn => ?_⟩
  obtain ⟨g, o, cur, fr, rfl, hm, hb, hc⟩ := h4 hn
  exact ⟨g, o, rfl, hm, lt_of_block hb, fun j u hu => (cell_of_block hb).trans (hc j u hu)⟩
/-- a slice of such elements -/
def ScR {α : Type} (R : GW → α → List Value → Prop) (k : Nat) (G : GW) (v : Value) (l : List α) : Prop := ∃ css, ElG R k G css l ∧ Sc G k l.length v css.flatten
section
variable {α : Type} {R : GW → α → List Value → Prop} {t k : Nat} {G G' : GW} {v : Value} {l : List α}
theorem ScR.mono (h : ScR R k G v l) (hR : MonoR R) (hl : G.Le G') : ScR R k G' v l := by
  obtain ⟨css, he, hs⟩ := h
  exact ⟨css, he.mono hR hl, hs.mono hl⟩
theorem Sq.sc (h : Sq R t k G v l) : ScR R k G v l := by
  obtain ⟨css, he, hs⟩ := h
  exact ⟨css, he, hs.sc⟩
theorem ScR.form (h : ScR R k G v l) : ∃ A c, v = .slice A l.length c ∧ l.length ≤ c ∧ c ≤ maxLen := by
  obtain ⟨css, _, A, c, rfl, h1, h2, _⟩ := h
  exact ⟨A, c, rfl, h1, h2⟩
theorem ScR.at_ {A : Option Addr} {n c i : Nat} {x : α} (h : ScR R k G (.slice A n c) l) (hx : l[i]? = some x) :
    ∃ g o cs, A = some ⟨g, o, none⟩ ∧ g < G.w.heap.size ∧ ¬ G.M g ∧ cs.length = k ∧ R G x cs ∧ G.w.rangeAt g (o + i * k) cs ∧ n = l.length := by
  obtain ⟨css, he, A', c', e, h1, h2, h3, h4⟩ := h
  cases e
  obtain ⟨cs, hc, hl, hr⟩ := he.at_ hx
  have hi : i < l.length := (List.getElem?_eq_some_iff.1 hx).1
  obtain ⟨g, o, rfl, hm, hb, hcell⟩ := h4 (by omega)
  refine ⟨g, o, cs, rfl, hb, hm, hl, hr, fun j u hu => ?_, rfl⟩
  have hj : j < cs.length := (List.getElem?_eq_some_iff.1 hu).1
  rw [Nat.add_assoc]
  refine hcell _ u ?_
  rw [flatten_at css he.2.1 i j cs hc (by omega), hu]
end
section
variable {P : Program} {E : Env} {σ : St} {o : Oper}
/-- an element of a slice that is only read -/
theorem elemC_does {α : Type} {R : GW → α → List Value → Prop} {t e kc : Nat} {x i : Operand} {A : Option Addr} {n c m : Nat} {kk : IntKind} {j : Int} {l : List α} {y : α} (ho : o.op = .indexAddr t x i) (ht : tSlice P t = some e) (hk : tSize P e = some kc)
    (hx : ev σ x = some (.c (.v (.slice A n c)))) (hi : ev σ i = some (.c (.v (.int kk j)))) (hd : dOk E o.dst) (hj : j = (m : Int)) (hy : l[m]? = some y)
    (hs : ∀ G : GW, Now E σ G → ScR R kc G (.slice A n c) l) :
    Does P E σ o (fun σ' => ∃ g o' cs G, cs.length = kc ∧ R G y cs ∧ Now E σ G ∧ σ' = ((σ.seen G).view g o' cs).put o.dst (.c (.q σ.next g o' 0))) := by
  intro a w Q next hr hn
  obtain ⟨g, o', cs, rfl, hg, hm, hl, hR, hrg, rfl⟩ := (hs ⟨σ.M E, w⟩ hr.now).at_ hy
  have hx' : a.eval x = .slice (some ⟨g, o', none⟩) l.length c := ev_den hr.see hx
  have hi' : a.eval i = .int kk j := ev_den hr.see hi
  have hml : m < l.length := (List.getElem?_eq_some_iff.1 hy).1
  obtain ⟨inf, hinf, hsz⟩ := tSize_spec hk
  have hrun : (execOp a.eval o).run P w = .ok (.value (.pointer (some ⟨g, o' + m * kc, none⟩))) w := by
    unfold execOp
    subst hj
    have hc1 : 0 ≤ (m : Int) ∧ (m : Int) < (l.length : Int) := ⟨by omega, by omega⟩
    simp only [ho, hx', hi', Instr.indexAt, Sem.run_bind, asIntOf, Sem.run_pure, Result.andThen_ok, run_underlying (tSlice_spec ht), hc1, and_self, if_true, sizeOf, typeInfo, run_program, hinf, hsz, Int.toNat_natCast, Addr.add_mid]
  refine wp_of_value hrun (hn _ _ _ ⟨g, o' + m * kc, cs, ⟨σ.M E, w⟩, hl, hR, hr.now, rfl⟩ ?_)
  exact (((hr.called (Chg.refl _ _)).addV hg (fun q => hm q) hrg).put o.dst (.c (.q σ.next g (o' + m * kc) 0)) (dOk_lt hd))
end
section
open Go.ChangeShapes Go.WideShapes Go.Deep
theorem choose_list {α : Type} {p : Nat → α → Prop} : ∀ (n : Nat), (∀ i, i < n → ∃ x, p i x) → ∃ l : List α, l.length = n ∧ ∀ i x, l[i]? = some x → p i x
  | 0, _ => ⟨[], rfl, fun i x h => by simp at h⟩
  | n + 1, h => by
    obtain ⟨l, hl, hp⟩ := choose_list n fun i hi => h i (by omega)
    obtain ⟨x, hx⟩ := h n (by omega)
    refine ⟨l ++ [x], by simp [hl], fun i y hy => ?_⟩
    by_cases hi : i < n
    · rw [List.getElem?_append_left (by omega)] at hy
      exact hp i y hy
    · have : i < (l ++ [x]).length := (List.getElem?_eq_some_iff.1 hy).1
      have e : i = n := by simp [hl] at this; omega
      subst e
      rw [← hl, List.getElem?_concat_length] at hy
      cases hy; exact hx
variable {H : Type} {enc : TypeId × Value → H} {P : Program} {w : World} {sp : Nat → Bool} {held : Bool}
theorem cells_some {base : Nat} {a : Addr} {n : Nat} {cs : List Value} (h : w.cells? base a n = some cs) : cs.length = n ∧ ∀ j, j < n → w.cell? (a.add j) = cs[j]? := by
  obtain ⟨_, hcl, hat⟩ := World.cells?_some h
  exact ⟨hcl, hat⟩
/-- an argument that is a slice, of elements of k cells: a list of things, each read by R -/
theorem open_seq {α : Type} {R : List Value → α → Prop} {t e k : Nat} {v : Value} {d : DataW H} {p : List MemPlace} (ht : P.underlying t = some (.slice e)) (hk : P.cellsOf e = k) (h0 : 0 < k)
    (hR : ∀ n cs x, DataW.trod enc P w 0 (fun _ => true) held n e cs = some x → cs.length = k → ∃ y, R cs y) {r : Reach} {b0 : Nat} (hok : Value.okWide P w r b0 t v) (h : DataW.Trod enc P w 0 (fun _ => true) held t v d p) :
    ∃ l : List α, ScR (fun _ x cs => R cs x) k ⟨Non, w⟩ v l := by
  obtain ⟨fuel, hf⟩ := h
  obtain ⟨A0, n0, c0, rfl⟩ := okWide_slice ht hok
  have hf : DataW.trod enc P w 0 (fun _ => true) held fuel t [.slice A0 n0 c0] = some (d, p) := hf
  rcases open_slice ht hf with ⟨hcs, _⟩ | ⟨a, len, cap, m, n, D, Pl, hcs, hb, hl, hm, hmm, hx, hi⟩
  · cases hcs
    exact ⟨[], [], ElG.nil, none, 0, rfl, Nat.le_refl _, Nat.zero_le _, by simp, fun h => absurd h (by simp)⟩
  · cases hcs
    simp only [if_true] at hmm
    subst hmm
    obtain ⟨l, hll, hp⟩ := choose_list (α := List Value × α) (p := fun i x => (x.1.length = k ∧ ∀ j, j < k → w.cell? ((a.add (i * k)).add j) = x.1[j]?) ∧ R x.1 x.2) n0 fun i hil => by
      obtain ⟨cs', hc, hd⟩ := hi i (by omega)
      rw [hk] at hc
      obtain ⟨h1, h2⟩ := cells_some hc
      obtain ⟨y, hy⟩ := hR _ _ _ hd h1
      exact ⟨(cs', y), ⟨h1, h2⟩, hy⟩
    have hml : ∀ cs ∈ l.map (·.1), cs.length = k := by
      intro cs hcs
      obtain ⟨x, hx, rfl⟩ := List.mem_map.1 hcs
      obtain ⟨i, hi⟩ := List.mem_iff_getElem?.1 hx
      exact (hp i x hi).1.1
    refine ⟨l.map (·.2), l.map (·.1), ⟨by simp, hml, fun i cs x h1 h2 => ?_⟩, some a, m, by simp [hll], by simpa [hll] using hl, hm, ?_, fun hn => ?_⟩
    · rw [List.getElem?_map] at h1 h2
      cases hx : l[i]? with
      | none => rw [hx] at h1; cases h1
      | some q =>
        rw [hx] at h1 h2
        cases h1; cases h2
        exact (hp i q hx).2
    · rw [flatten_len _ hml]; simp
    · have hl0 : 0 < l.length := by simpa using hn
      obtain ⟨b, off, spot⟩ := a
      have hc0 := (hp 0 l[0] (List.getElem?_eq_getElem hl0)).1
      have hcell : ∃ u, w.cell? ((⟨b, off, spot⟩ : Addr).add 0) = some u := by
        have h1 := hc0.2 0 h0
        rw [List.getElem?_eq_getElem (by rw [hc0.1]; exact h0)] at h1
        refine ⟨(l[0]).1[0]'(by rw [hc0.1]; exact h0), ?_⟩
        simpa [Addr.add] using h1
      obtain ⟨u, hu⟩ := hcell
      obtain rfl : spot = none := by simpa [Addr.add] using World.cell?_spot hu
      refine ⟨b, off, rfl, id, ?_, fun j u hj => ?_⟩
      · rw [Addr.add_mid] at hu
        unfold World.cell? at hu
        simp only at hu
        split at hu
        · rename_i hh; exact lt_of_block hh
        · cases hu
      · have hjl : j < (l.map (·.1)).flatten.length := (List.getElem?_eq_some_iff.1 hj).1
        rw [flatten_len _ hml] at hjl
        have hjk : j / k < l.length := by
          rw [Nat.div_lt_iff_lt_mul h0]; simpa using hjl
        have hmod : j % k < k := Nat.mod_lt _ h0
        have he : j = (j / k) * k + j % k := by rw [Nat.mul_comm]; exact (Nat.div_add_mod j k).symm
        have hcs : (l.map (·.1))[j / k]? = some (l[j / k]).1 := by rw [List.getElem?_map, List.getElem?_eq_getElem hjk]; rfl
        rw [he, flatten_at _ hml _ _ _ hcs hmod] at hj
        have h2 := (hp _ _ (List.getElem?_eq_getElem hjk)).1.2 _ hmod
        rw [Addr.add_mid, Addr.add_mid, Nat.add_assoc, ← he] at h2
        rw [h2, hj]
end
end Go.Proofs.Ytomfladifefomaa
-- Sk: Rows that were written in their midst: rules for their cells, and how they are read from now on. Names no program. Conditions: as each law states them.
namespace Go.Proofs.Ytomfladifefomaa
open Go.RowKit
theorem putCs_none : ∀ (l : List SC) (m : Nat), putCs l m [] = l
  | [], _ => rfl
  | _ :: _, 0 => rfl
  | x :: r, m + 1 => by simp only [putCs, putCs_none r m]
@[go_sem] theorem putCs_map1 : ∀ (L : List Value) (m : Nat) (u : Value), putCs (L.map .v) m [.v u] = (L.set m u).map .v
  | [], _, _ => rfl
  | x :: r, 0, u => by simp only [List.map_cons, putCs, putCs_none, List.set_cons_zero]
  | x :: r, m + 1, u => by simp only [List.map_cons, putCs, List.set_cons_succ, putCs_map1 r m u]
@[go_sem] theorem putCs_map2 : ∀ (L : List Value) (m : Nat) (u v : Value), putCs (L.map .v) m [.v u, .v v] = ((L.set m u).set (m + 1) v).map .v
  | [], _, _, _ => rfl
  | x :: r, 0, u, v => by
    simp only [List.map_cons, putCs, List.set_cons_zero, List.set_cons_succ]
    rw [putCs_map1]
  | x :: r, m + 1, u, v => by simp only [List.map_cons, putCs, List.set_cons_succ, putCs_map2 r m u v]
@[go_sem] theorem putCs_map3 : ∀ (L : List Value) (m : Nat) (u v x : Value), putCs (L.map .v) m [.v u, .v v, .v x] = (((L.set m u).set (m + 1) v).set (m + 2) x).map .v
  | [], _, _, _, _ => rfl
  | y :: r, 0, u, v, x => by
    simp only [List.map_cons, putCs, List.set_cons_zero, List.set_cons_succ]
    rw [putCs_map2]
  | y :: r, m + 1, u, v, x => by simp only [List.map_cons, putCs, List.set_cons_succ, putCs_map3 r m u v x]
@[go_sem] theorem map_den_v (L : List Value) : (L.map SC.v).map SC.den = L := by
  rw [List.map_map]; exact List.map_id L
section
variable {E : Env} {σ : St}
/-- a block of the call's own that is only read from now on -/
theorem blkRead_ok {Φ : Act → World → Prop} {B1 B2 : List Bl} {b : Bl} (hB : σ.blks = B1 ++ b :: B2) (k n cap : Nat) (hn : n ≤ cap) (hc : cap ≤ maxLen) (hl : b.cs.length = cap * k)
    (hA : ¬ E.A b.g) (h : ∀ G : GW, (∀ s ∈ σ.snaps, s.Le G) → Sl G b.t k n (.slice (some ⟨b.g, 0, none⟩) n cap) ((b.cs.map SC.den).take (n * k)) → Ok E (St.seen { σ with blks := B1 ++ B2 } G) Φ) : Ok E σ Φ := by
  intro a w hr
  have hbm : b ∈ σ.blks := by rw [hB]; simp
  have hsub : ∀ q ∈ B1 ++ B2, q ∈ σ.blks := by
    intro q hq
    rw [hB]
    rcases List.mem_append.1 hq with hq | hq
    · exact List.mem_append_left _ hq
    · exact List.mem_append_right _ (List.mem_cons_of_mem _ hq)
  have hnd := hr.nodup
  rw [hB, List.pairwise_append, List.pairwise_cons] at hnd
  obtain ⟨p1, ⟨p2, p3⟩, p4⟩ := hnd
  have hM : ∀ k, St.M E { σ with blks := B1 ++ B2 } k → σ.M E k := by
    intro k hk
    rcases hk with q | ⟨q, hq, e⟩ | q
    · exact .inl q
    · exact .inr (.inl ⟨q, hsub q hq, e⟩)
    · exact .inr (.inr q)
  have hr2 : Rel E { σ with blks := B1 ++ B2 } a w := ⟨hr.tmps, hr.size, hr.defers, fun q hq => hr.blks q (hsub q hq), List.pairwise_append.2 ⟨p1, p3, fun q hq q' hq' => p4 q hq q' (List.mem_cons_of_mem _ hq')⟩,
    fun q hq => hr.own q (hsub q hq), hr.rows, fun r hr' q hq => hr.apart r hr' q (hsub q hq), hr.rapart,
    fun v hv => let ⟨h1, h2, h3⟩ := hr.views v hv; ⟨h1, fun q => h2 (hM _ q), h3⟩, hr.chg,
    fun s hs => ⟨(hr.snaps s hs).size, fun k hk hm => ⟨((hr.snaps s hs).keep k hk hm).1, fun q => ((hr.snaps s hs).keep k hk hm).2 (hM k q)⟩⟩, hr.mem⟩
  refine h ⟨St.M E { σ with blks := B1 ++ B2 }, w⟩ hr2.snaps ?_ a w (hr2.called (Chg.refl _ _))
  refine ⟨_, cap, rfl, hn, hc, ?_, fun _ => ⟨b.g, 0, dens b.cs, (0, 0), rfl, fun q => ?_, hr.blks b hbm, fun j u hu => ?_⟩⟩
  · rw [List.length_take, List.length_map, hl]
    exact Nat.min_eq_left (Nat.mul_le_mul_right k hn)
  · have hWs := hr.chg.size
    rcases q with q | ⟨q, hq, e⟩ | ⟨r, hr', e⟩
    · rcases hr.own b hbm with o | o
      · exact hA o
      · have := hr.mem b.g q; omega
    · rcases List.mem_append.1 hq with hq | hq
      · exact p4 q hq b List.mem_cons_self e
      · exact p2 q hq e.symm
    · exact hr.apart r hr' b hbm e
  · rw [List.getElem?_take] at hu
    split at hu
    · simpa [dens] using hu
    · cases hu
end
/-- cells of rows of one cell each, place by place -/
def PW {α : Type} (R : GW → α → List Value → Prop) (G : GW) (S : List Value) (l : List α) : Prop := ∀ (j : Nat) (x : α), l[j]? = some x → ∃ u, S[j]? = some u ∧ R G x [u]
section
variable {α : Type} {R : GW → α → List Value → Prop} {G G' : GW} {S : List Value} {l : List α}
theorem PW.mono (h : PW R G S l) (hR : MonoR R) (hl : G.Le G') : PW R G' S l := fun j x hx => let ⟨u, h1, h2⟩ := h j x hx; ⟨u, h1, hR _ _ _ _ hl h2⟩
theorem PW.set_ (h : PW R G S l) {m : Nat} {u : Value} {x : α} (hm : m < S.length) (hr : R G x [u]) : PW R G (S.set m u) (l.set m x) := by
  intro j y hy
  by_cases e : m = j
  · subst e
    have hml : m < l.length := by
      have := (List.getElem?_eq_some_iff.1 hy).1
      simpa using this
    rw [List.getElem?_set_self hml] at hy
    cases hy
    exact ⟨u, List.getElem?_set_self hm, hr⟩
  · rw [List.getElem?_set_ne e] at hy
    rw [List.getElem?_set_ne e]
    exact h j y hy
theorem PW.of {css : List (List Value)} {cur : List Value} (h : ElG R 1 G css l) (hc : cur.take (l.length * 1) = css.flatten) : PW R G cur l := by
  intro j x hx
  obtain ⟨cs, h1, h2, h3⟩ := h.at_ hx
  obtain ⟨u, rfl⟩ : ∃ u, cs = [u] := by
    match cs, h2 with
    | [u], _ => exact ⟨u, rfl⟩
  refine ⟨u, ?_, h3⟩
  have hj : j < l.length := (List.getElem?_eq_some_iff.1 hx).1
  have := flatten_at css h.2.1 j 0 [u] h1 (by omega)
  rw [← hc, Nat.mul_one, Nat.mul_one, Nat.add_zero, List.getElem?_take_of_lt hj] at this
  exact this
theorem PW.sq {t n : Nat} {v : Value} (h : PW R G S l) (hn : n = l.length) (hl : n ≤ S.length) (hs : Sl G t 1 n v (S.take (n * 1))) : Sq R t 1 G v l := by
  subst hn
  refine ⟨(S.take l.length).map fun u => [u], ⟨by simp; omega, ?_, fun i cs x h1 h2 => ?_⟩, ?_⟩
  · intro cs hcs
    obtain ⟨u, _, rfl⟩ := List.mem_map.1 hcs
    rfl
  · obtain ⟨u, hu, hr⟩ := h i x h2
    have hi : i < l.length := (List.getElem?_eq_some_iff.1 h2).1
    rw [List.getElem?_map, List.getElem?_take_of_lt hi, hu] at h1
    cases h1
    exact hr
  · have : ((S.take l.length).map fun u => [u]).flatten = S.take l.length := by
      generalize S.take l.length = T
      induction T with
      | nil => rfl
      | cons a r ih => simp [ih]
    rw [this]
    rw [Nat.mul_one] at hs
    exact hs
end
end Go.Proofs.Ytomfladifefomaa
-- Sc: Cuts of slices that are only read. Names no program. Conditions: as each law states them.
namespace Go.Proofs.Ytomfladifefomaa
open Go.RowKit
abbrev cutArg (σ : St) (x : Option Operand) (d r : Nat) : Prop := match x with
  | none => r = d
  | some x => ∃ kk j, ev σ x = some (.c (.v (.int kk j))) ∧ j = (r : Int)
theorem Sl.cut {G : GW} {t k n c l n' c' : Nat} {A : Option Addr} {cells : List Value} (h : Sl G t k n (.slice A n c) cells) (h1 : l + n' ≤ n) (h2 : n' ≤ c') (h3 : l + c' ≤ c) :
    Sl G t k n' (.slice (if l + c' = l then A else A.map (·.add (l * k))) n' c') ((cells.drop (l * k)).take (n' * k)) := by
  obtain ⟨A', c0, e, q1, q2, q3, q4⟩ := h
  cases e
  refine ⟨_, c', rfl, h2, by omega, ?_, fun hn => ?_⟩
  · rw [List.length_take, List.length_drop, q3, ← Nat.sub_mul]
    exact Nat.min_eq_left (Nat.mul_le_mul_right k (by omega))
  · obtain ⟨g, o, cur, fr, rfl, hm, hb, hc⟩ := q4 (by omega)
    refine ⟨g, o + l * k, cur, fr, ?_, hm, hb, fun j u hj => ?_⟩
    · rw [if_neg (by omega), Option.map_some, Addr.add_mid]
    · rw [List.getElem?_take] at hj
      split at hj
      · rw [List.getElem?_drop] at hj
        rw [Nat.add_assoc]
        exact hc _ _ hj
      · cases hj
section
variable {P : Program} {E : Env} {σ : St} {o : Oper}
theorem run_bounds (w : World) (n c l h m : Nat) (lo hi mx : Option Value) (hlo : lo = none ∧ l = 0 ∨ ∃ kk, lo = some (.int kk (l : Int))) (hhi : (hi = none ∧ h = n) ∨ ∃ kk, hi = some (.int kk (h : Int))) (hmx : (mx = none ∧ m = c) ∨ ∃ kk, mx = some (.int kk (m : Int)))
    (hmh : mx.isSome = true → hi.isSome = true) (h1 : l ≤ h) (h2 : h ≤ m) (h3 : m ≤ c) : (Instr.sliceBounds true n c lo hi mx).run P w = .ok (l, h, m) w := by
  have bnd : ∀ (kk : IntKind) (i y : Nat) (code : BoundsCode), i ≤ y → (Instr.sliceBound (.int kk (i : Int)) y code).run P w = .ok i w := fun kk i y code h => by
    have := run_sliceBound (P := P) w kk (i : Int) y code (by omega) (by omega)
    simpa using this
  rcases hlo with ⟨rfl, hl⟩ | ⟨k1, rfl⟩ <;> rcases hhi with ⟨rfl, hh⟩ | ⟨k2, rfl⟩ <;> rcases hmx with ⟨rfl, hm⟩ | ⟨k3, rfl⟩
  · subst hl; subst hh; subst hm; simp [Instr.sliceBounds]
  · simp at hmh
  · subst hl; subst hm; simp [Instr.sliceBounds, *]
  · subst hl; simp [Instr.sliceBounds, *]
  · subst hh; subst hm; simp [Instr.sliceBounds, *]
  · simp at hmh
  · subst hm; simp [Instr.sliceBounds, *]
  · simp [Instr.sliceBounds, *]
theorem run_cut {t e : TypeId} {inf : TypeInfo} (hu : P.underlying t = some (.slice e)) (hi0 : P.info? e = some inf) (w : World) (A : Option Addr) (n c l n' c' : Nat) (lo hi mx : Option Value)
    (hb : (Instr.sliceBounds true n c lo hi mx).run P w = .ok (l, l + n', l + c') w) :
    (Instr.sliceAt t (.slice A n c) lo hi mx).run P w = .ok (.slice (if l + c' = l then A else A.map (·.add (l * inf.size))) n' c') w := by
  have e1 : l + n' - l = n' := by omega
  have e2 : l + c' - l = c' := by omega
  simp only [Instr.sliceAt, Instr.slice, Sem.run_bind, run_underlying hu, Result.andThen_ok, hb, sizeOf, typeInfo, run_program, hi0, Sem.run_pure, e1, e2]
theorem cut_does {t e k : Nat} {x : Operand} {lo hi mx : Option Operand} {A : Option Addr} {n c : Nat} {cells : List Value} (l n' c' : Nat) (ho : o.op = .slice t x lo hi mx) (ht : tSlice P t = some e) (hk : tSize P e = some k)
    (hx : ev σ x = some (.c (.v (.slice A n c)))) (hlo : cutArg σ lo 0 l) (hhi : cutArg σ hi n (l + n')) (hmx : cutArg σ mx c (l + c')) (hmh : mx.isSome = true → hi.isSome = true) (hd : dOk E o.dst) (h1 : l + n' ≤ n) (h2 : n' ≤ c') (h3 : l + c' ≤ c)
    (hs : ∀ G : GW, Now E σ G → Sl G e k n (.slice A n c) cells) :
    Does P E σ o (fun σ' => ∃ A' G, Sl G e k n' (.slice A' n' c') ((cells.drop (l * k)).take (n' * k)) ∧ Now E σ G ∧ σ' = (σ.seen G).put o.dst (.c (.v (.slice A' n' c')))) := by
  intro a w Q next hr hn
  obtain ⟨inf, hinf, hsz⟩ := tSize_spec hk
  have hS := hs ⟨σ.M E, w⟩ hr.now
  have hnc : n ≤ c := by obtain ⟨A0, c0, e0, q, _⟩ := hS; cases e0; exact q
  have hx' : a.eval x = .slice A n c := ev_den hr.see hx
  have arg : ∀ (y : Option Operand) (d r : Nat), cutArg σ y d r → (y.map a.eval = none ∧ r = d) ∨ ∃ kk, y.map a.eval = some (.int kk (r : Int)) := by
    intro y d r h
    cases y with
    | none => exact .inl ⟨rfl, h⟩
    | some y =>
      obtain ⟨kk, j, hy, rfl⟩ := h
      exact .inr ⟨kk, congrArg some (ev_den hr.see hy)⟩
  have hrun : (execOp a.eval o).run P w = .ok (.value (.slice (if l + c' = l then A else A.map (·.add (l * k))) n' c')) w := by
    have := run_cut (tSlice_spec ht) hinf w A n c l n' c' _ _ _ (run_bounds w n c l (l + n') (l + c') _ _ _ (arg lo 0 l hlo) (arg hi n (l + n') hhi) (arg mx c (l + c') hmx) (by simpa using hmh) (by omega) (by omega) h3)
    rw [hsz] at this
    unfold execOp
    simp only [ho, hx', Sem.run_bind, this, Result.andThen_ok, Sem.run_pure]
  exact wp_of_value hrun (hn _ _ _ ⟨_, _, hS.cut h1 h2 h3, hr.now, rfl⟩ ((hr.called (Chg.refl _ _)).put o.dst (.c (.v _)) (dOk_lt hd)))
end
end Go.Proofs.Ytomfladifefomaa
-- Sm: Rows of elements of some cells that are written in their midst. Names no program. Conditions: as each law states them.
namespace Go.Proofs.Ytomfladifefomaa
open Go.RowKit
/-- cells of rows of k cells each, place by place -/
def PWk {α : Type} (R : GW → α → List Value → Prop) (k : Nat) (G : GW) (S : List Value) (l : List α) : Prop := ∀ (j : Nat) (x : α), l[j]? = some x → ∃ cs : List Value, cs.length = k ∧ R G x cs ∧ ∀ (i : Nat) (u : Value), cs[i]? = some u → S[j * k + i]? = some u
section
variable {α : Type} {R : GW → α → List Value → Prop} {G G' : GW} {S : List Value} {l : List α} {k : Nat}
theorem PWk.mono (h : PWk R k G S l) (hR : MonoR R) (hl : G.Le G') : PWk R k G' S l := fun j x hx => let ⟨cs, h1, h2, h3⟩ := h j x hx; ⟨cs, h1, hR _ _ _ _ hl h2, h3⟩
theorem PWk.of {css : List (List Value)} {cur : List Value} (h : ElG R k G css l) (hc : cur.take (l.length * k) = css.flatten) : PWk R k G cur l := by
  intro j x hx
  obtain ⟨cs, h1, h2, h3⟩ := h.at_ hx
  refine ⟨cs, h2, h3, fun i u hu => ?_⟩
  have hi : i < k := by rw [← h2]; exact (List.getElem?_eq_some_iff.1 hu).1
  have hj : j < l.length := (List.getElem?_eq_some_iff.1 hx).1
  have := flatten_at css h.2.1 j i cs h1 hi
  rw [← hc, List.getElem?_take_of_lt (show j * k + i < l.length * k from by
    have : (j + 1) * k ≤ l.length * k := Nat.mul_le_mul_right k hj
    rw [Nat.succ_mul] at this; omega)] at this
  rw [this, hu]
/-- one cell of one element is written -/
theorem PWk.set_ (h : PWk R k G S l) {m i : Nat} {u : Value} {x y : α} (hm : l[m]? = some x) (hi : i < k) (hr : ∀ cs : List Value, cs.length = k → R G x cs → (∀ (i : Nat) (u : Value), cs[i]? = some u → S[m * k + i]? = some u) → R G y (cs.set i u)) : PWk R k G (S.set (m * k + i) u) (l.set m y) := by
  intro j z hz
  have hml : m < l.length := (List.getElem?_eq_some_iff.1 hm).1
  by_cases e : m = j
  · subst e
    rw [List.getElem?_set_self hml] at hz
    cases hz
    obtain ⟨cs, h1, h2, h3⟩ := h m x hm
    refine ⟨cs.set i u, by simpa using h1, hr cs h1 h2 h3, fun i' u' hu => ?_⟩
    by_cases e' : i = i'
    · subst e'
      rw [List.getElem?_set_self (by omega)] at hu
      cases hu
      have hS : m * k + i < S.length := by
        have := h3 i cs[i] (List.getElem?_eq_getElem (by omega))
        exact (List.getElem?_eq_some_iff.1 this).1
      exact List.getElem?_set_self hS
    · rw [List.getElem?_set_ne e'] at hu
      rw [List.getElem?_set_ne (by omega)]
      exact h3 i' u' hu
  · rw [List.getElem?_set_ne e] at hz
    obtain ⟨cs, h1, h2, h3⟩ := h j z hz
    refine ⟨cs, h1, h2, fun i' u' hu => ?_⟩
    have hi' : i' < k := by rw [← h1]; exact (List.getElem?_eq_some_iff.1 hu).1
    rw [List.getElem?_set_ne (fun q => e ?_)]
    · exact h3 i' u' hu
    · have q1 : (m * k + i) / k = m := by rw [Nat.mul_comm, Nat.mul_add_div (by omega), Nat.div_eq_of_lt hi, Nat.add_zero]
      have q2 : (j * k + i') / k = j := by rw [Nat.mul_comm, Nat.mul_add_div (by omega), Nat.div_eq_of_lt hi', Nat.add_zero]
      rw [← q1, ← q2, q]
theorem PWk.sq {t n : Nat} {v : Value} (h : PWk R k G S l) (h0 : 0 < k) (hn : n = l.length) (hs : Sl G t k n v (S.take (n * k))) : Sq R t k G v l := by
  subst hn
  obtain ⟨css, hl, hp⟩ := choose_list (α := List Value) (p := fun j cs => cs.length = k ∧ (∀ x, l[j]? = some x → R G x cs) ∧ ∀ (i : Nat) (u : Value), cs[i]? = some u → S[j * k + i]? = some u) l.length fun j hj => by
    obtain ⟨cs, h1, h2, h3⟩ := h j l[j] (List.getElem?_eq_getElem hj)
    exact ⟨cs, h1, fun x hx => by rw [List.getElem?_eq_getElem hj] at hx; cases hx; exact h2, h3⟩
  have hlen : ∀ cs ∈ css, cs.length = k := fun cs hcs => by
    obtain ⟨i, hi⟩ := List.mem_iff_getElem?.1 hcs
    exact (hp i cs hi).1
  have hsl : (S.take (l.length * k)).length = l.length * k := by obtain ⟨_, _, _, _, _, q, _⟩ := hs; exact q
  have hfl : css.flatten = S.take (l.length * k) := by
    refine flatten_ext css h0 hlen _ (by rw [hsl, hl]) fun i j cs hcs hj => ?_
    have hjl : j < cs.length := by rw [hlen cs (List.mem_of_getElem? hcs)]; exact hj
    have hcj : cs[j]? = some cs[j] := List.getElem?_eq_getElem hjl
    have hi : i < l.length := by rw [← hl]; exact (List.getElem?_eq_some_iff.1 hcs).1
    rw [List.getElem?_take_of_lt (show i * k + j < l.length * k from by
      have : (i + 1) * k ≤ l.length * k := Nat.mul_le_mul_right k hi
      rw [Nat.succ_mul] at this; omega), (hp i cs hcs).2.2 j _ hcj, hcj]
  exact ⟨css, ⟨hl, hlen, fun i cs x h1 h2 => (hp i cs h1).2.1 x h2⟩, hfl.symm ▸ hs⟩
end
theorem take_cells {S : List Value} {n k : Nat} {css : List (List Value)} (hS : S.take (n * k) = css.flatten) (hl : ∀ cs ∈ css, cs.length = k) (hn : css.length = n) {j : Nat} {cs : List Value} (hj : css[j]? = some cs) (i : Nat) (u : Value) (hu : cs[i]? = some u) : S[j * k + i]? = some u := by
  have hi : i < k := by rw [← hl cs (List.mem_of_getElem? hj)]; exact (List.getElem?_eq_some_iff.1 hu).1
  have hjn : j < n := by rw [← hn]; exact (List.getElem?_eq_some_iff.1 hj).1
  have := flatten_at css hl j i cs hj hi
  rw [← hS, List.getElem?_take_of_lt (show j * k + i < n * k from by
    have : (j + 1) * k ≤ n * k := Nat.mul_le_mul_right k hjn
    rw [Nat.succ_mul] at this; omega)] at this
  rw [this, hu]
theorem row3 {S : List Value} {o : Nat} {a b c : Value} (h0 : S[o]? = some a) (h1 : S[o + 1]? = some b) (h2 : S[o + 2]? = some c) : ((S.map SC.v).drop o).take 3 = [.v a, .v b, .v c] := by
  apply List.ext_getElem?
  intro i
  match i with
  | 0 => simp [List.getElem?_drop, h0]
  | 1 => simp [List.getElem?_drop, h1]
  | 2 => simp [List.getElem?_drop, h2]
  | n + 3 => rw [List.getElem?_take, if_neg (by omega)]; rfl
theorem row2 {S : List Value} {o : Nat} {a b : Value} (h0 : S[o]? = some a) (h1 : S[o + 1]? = some b) : ((S.map SC.v).drop o).take 2 = [.v a, .v b] := by
  apply List.ext_getElem?
  intro i
  match i with
  | 0 => simp [List.getElem?_drop, h0]
  | 1 => simp [List.getElem?_drop, h1]
  | n + 2 => rw [List.getElem?_take, if_neg (by omega)]; rfl
/-- a list, of which the first i are turned -/
def setTo {α : Type} (f : α → α) (l : List α) : Nat → List α
  | 0 => l
  | i + 1 => match l[i]? with
    | some x => (setTo f l i).set i (f x)
    | none => setTo f l i
theorem setTo_len {α : Type} (f : α → α) (l : List α) : ∀ i, (setTo f l i).length = l.length
  | 0 => rfl
  | i + 1 => by
    unfold setTo
    split
    · rw [List.length_set]; exact setTo_len f l i
    · exact setTo_len f l i
theorem setTo_at {α : Type} (f : α → α) (l : List α) (j : Nat) : ∀ i, (setTo f l i)[j]? = if j < i then l[j]?.map f else l[j]?
  | 0 => by simp [setTo]
  | i + 1 => by
    have ih := setTo_at f l j i
    unfold setTo
    split
    · rename_i x hx
      have hi : i < l.length := (List.getElem?_eq_some_iff.1 hx).1
      by_cases e : i = j
      · subst e
        rw [List.getElem?_set_self (by rw [setTo_len]; exact hi), if_pos (by omega), hx]; rfl
      · rw [List.getElem?_set_ne e, ih]
        by_cases h : j < i
        · rw [if_pos h, if_pos (by omega)]
        · rw [if_neg h, if_neg (by omega)]
    · rename_i hx
      rw [ih]
      by_cases h : j < i
      · rw [if_pos h, if_pos (by omega)]
      · rw [if_neg h]
        by_cases h' : j < i + 1
        · have : j = i := by omega
          subst this
          rw [if_pos h', hx]; rfl
        · rw [if_neg h']
theorem setTo_all {α : Type} (f : α → α) (l : List α) : setTo f l l.length = l.map f := by
  apply List.ext_getElem?
  intro j
  rw [setTo_at, List.getElem?_map]
  split
  · rfl
  · rw [List.getElem?_eq_none (by omega)]; rfl
theorem setTo_here {α : Type} (f : α → α) (l : List α) (i : Nat) : (setTo f l i)[i]? = l[i]? := by rw [setTo_at, if_neg (by omega)]
theorem setTo_succ {α : Type} (f : α → α) {l : List α} {i : Nat} {x : α} (h : l[i]? = some x) : setTo f l (i + 1) = (setTo f l i).set i (f x) := by simp [setTo, h]
end Go.Proofs.Ytomfladifefomaa
-- Sg: '[]byte("abc")' of a constant text: a literal's row of the call's own is marked, and is only read from then on. Names no program. Conditions: as the law states them.
namespace Go.Proofs.Ytomfladifefomaa
open Go.RowKit
section
variable {P : Program} {E : Env} {σ : St} {o : Oper}
theorem freeze_at {w : World} {g k : Nat} {cur : Array Value} {e : TypeId} (h : w.heap[g]? = some (.cells cur e (0, 0))) : (w.freeze ⟨g, k, none⟩ 1).heap[g]? = some (.cells cur e (k, k + 1)) := by
  unfold World.freeze
  rw [if_neg (by decide)]
  simp only [Array.getElem?_modify, if_true, h, Option.map_some]
  rfl
theorem freeze_other {w : World} {g k j : Nat} (h : j ≠ g) : (w.freeze ⟨g, k, none⟩ 1).heap[j]? = w.heap[j]? := by
  unfold World.freeze
  rw [if_neg (by decide)]
  simp only [Array.getElem?_modify]
  rw [if_neg (fun e => h e.symm)]
theorem freeze_rest (w : World) (a : Addr) (n : Nat) : (w.freeze a n).os = w.os ∧ (w.freeze a n).tape = w.tape ∧ (w.freeze a n).output = w.output ∧ (w.freeze a n).heap.size = w.heap.size := by
  unfold World.freeze
  split <;> simp
/-- a block of the call's own that is marked and goes out of its hands -/
theorem Rel.frozen {a : Act} {w : World} (h : Rel E σ a w) {B1 B2 : List Bl} {b : Bl} (hB : σ.blks = B1 ++ b :: B2) (hA : ¬ E.A b.g) (k : Nat) :
    Rel E (St.seen { σ with blks := B1 ++ B2 } ⟨St.M E { σ with blks := B1 ++ B2 }, w.freeze ⟨b.g, k, none⟩ 1⟩) a (w.freeze ⟨b.g, k, none⟩ 1) ∧ ¬ St.M E { σ with blks := B1 ++ B2 } b.g := by
  have hbm : b ∈ σ.blks := by rw [hB]; simp
  have hsub : ∀ q ∈ B1 ++ B2, q ∈ σ.blks := by
    intro q hq
    rw [hB]
    rcases List.mem_append.1 hq with hq | hq
    · exact List.mem_append_left _ hq
    · exact List.mem_append_right _ (List.mem_cons_of_mem _ hq)
  have hnd := h.nodup
  rw [hB, List.pairwise_append, List.pairwise_cons] at hnd
  obtain ⟨p1, ⟨p2, p3⟩, p4⟩ := hnd
  have hM : ∀ k, St.M E { σ with blks := B1 ++ B2 } k → σ.M E k := by
    intro k hk
    rcases hk with q | ⟨q, hq, e⟩ | q
    · exact .inl q
    · exact .inr (.inl ⟨q, hsub q hq, e⟩)
    · exact .inr (.inr q)
  have hbn : ¬ St.M E { σ with blks := B1 ++ B2 } b.g := by
    intro q
    rcases q with q | ⟨q, hq, e⟩ | ⟨r, hr', e⟩
    · rcases h.own b hbm with o | o
      · exact hA o
      · have := h.mem b.g q; omega
    · rcases List.mem_append.1 hq with hq | hq
      · exact p4 q hq b List.mem_cons_self e
      · exact p2 q hq e.symm
    · exact h.apart r hr' b hbm e
  have hne : ∀ q ∈ B1 ++ B2, q.g ≠ b.g := fun q hq e => by
    rcases List.mem_append.1 hq with hq | hq
    · exact p4 q hq b List.mem_cons_self e
    · exact p2 q hq e.symm
  obtain ⟨f1, f2, f3, f4⟩ := freeze_rest w ⟨b.g, k, none⟩ 1
  refine ⟨⟨h.tmps, h.size, h.defers, fun q hq => (freeze_other (hne q hq)).trans (h.blks q (hsub q hq)), List.pairwise_append.2 ⟨p1, p3, fun q hq q' hq' => p4 q hq q' (List.mem_cons_of_mem _ hq')⟩,
    fun q hq => h.own q (hsub q hq), fun r hr => ownsRow_block (h.rows r hr) (fun g hg => freeze_other (fun e => h.apart r hr b hbm (by rw [hg, e]))), fun r hr' q hq => h.apart r hr' q (hsub q hq), h.rapart,
    fun v hv => ?_, ?_, fun s hs => ?_, h.mem⟩, hbn⟩
  · obtain ⟨h1, h2, h3⟩ := h.views v hv
    exact ⟨by rw [f4]; exact h1, fun q => h2 (hM _ q), range_block h3 (freeze_other (fun e => h2 (.inr (.inl ⟨b, hbm, e.symm⟩))))⟩
  · refine ⟨f1.trans h.chg.os, f2.trans h.chg.tape, f3.trans h.chg.output, by rw [f4]; exact h.chg.size, fun j hj hAj => ?_⟩
    refine (freeze_other (fun e => ?_)).trans (h.chg.block j hj hAj)
    subst e
    rcases h.own b hbm with q | q
    · exact hA q
    · omega
  · rcases List.mem_cons.1 hs with rfl | hs
    · exact GW.Le.refl _
    · refine ⟨by show _ ≤ (w.freeze _ _).heap.size; rw [f4]; exact (h.snaps s hs).size, fun j hj hm => ?_⟩
      obtain ⟨e, n⟩ := (h.snaps s hs).keep j hj hm
      exact ⟨(freeze_other (fun q => n (.inr (.inl ⟨b, hbm, q.symm⟩)))).trans e, fun q => n (hM j q)⟩
/-- a literal's row turned to its own type -/
theorem lit_does {t e : TypeId} {x : Operand} {B1 B2 : List Bl} {b : Bl} (bs : List UInt8) (ho : o.op = .convert t t x) (h2 : tSlice P t = some e) (h3 : tInt P e = some .u8)
    (hB : σ.blks = B1 ++ b :: B2) (hx : ev σ x = some (.c (.s b.id b.g 0 bs.length bs.length))) (ht : b.t = e) (hcs : b.cs = bs.map fun y => .v (enc8 y)) (hn : bs.length ≤ 1000) (hA : ¬ E.A b.g) (hd : dOk E o.dst) :
    Does P E σ o (fun σ' => ∃ G, Byt e G (.slice (some ⟨b.g, 0, none⟩) bs.length bs.length) bs ∧ σ' = (St.seen { σ with blks := B1 ++ B2 } G).put o.dst (.c (.v (.slice (some ⟨b.g, 0, none⟩) bs.length bs.length)))) := by
  intro a w Q next hr hn2
  have hx' : a.eval x = .slice (some ⟨b.g, 0, none⟩) bs.length bs.length := ev_den hr.see hx
  have hbm : b ∈ σ.blks := by rw [hB]; simp
  have hbk : w.heap[b.g]? = some (.cells (dens b.cs) b.t (0, 0)) := hr.blks b hbm
  have hsh : w.shape? b.g = some (b.t, (dens b.cs).size) := by unfold World.shape?; rw [hbk]
  have hrun : (convert t t (.slice (some ⟨b.g, 0, none⟩) bs.length bs.length)).run P w = .ok (.slice (some ⟨b.g, 0, none⟩) bs.length bs.length) (w.freeze ⟨b.g, (dens b.cs).size, none⟩ 1) := by
    simp [convert, run_underlying (tSlice_spec h2), run_underlying (tInt_spec h3), markStringish, hsh]
  have hrun2 : (execOp a.eval o).run P w = .ok (.value (.slice (some ⟨b.g, 0, none⟩) bs.length bs.length)) (w.freeze ⟨b.g, (dens b.cs).size, none⟩ 1) := by
    unfold execOp
    simp only [ho, hx', Sem.run_bind, hrun, Result.andThen_ok, Sem.run_pure]
  obtain ⟨hr2, hbn⟩ := hr.frozen hB hA (dens b.cs).size
  refine wp_of_value hrun2 (hn2 _ _ _ ⟨_, ?_, rfl⟩ (hr2.put o.dst (.c (.v _)) (dOk_lt hd)))
  refine ⟨_, _, rfl, Nat.le_refl _, by unfold maxLen; omega, by simp, fun _ => ⟨_, 0, dens b.cs, ((dens b.cs).size, (dens b.cs).size + 1), rfl, hbn, by rw [← ht]; exact freeze_at hbk, fun j u hu => ?_⟩⟩
  · rw [Nat.zero_add, hcs]
    have hj : j < bs.length := by simpa using (List.getElem?_eq_some_iff.1 hu).1
    rw [← hu]
    simp [dens, hj]
    rfl
end
end Go.Proofs.Ytomfladifefomaa
