/- Blocks under other numbers: what is known does not hang on how own blocks are numbered. Names no program. Conditions: as each law states them. -/
import Derived.Test.YtomfladifefomaaP1
namespace Go.Proofs.Ytomfladifefomaa
open Go.RowKit
set_option linter.unusedSimpArgs false
def SC.ren (f : Nat → Nat) : SC → SC
  | .v x => .v x
  | .p id g o => .p (f id) g o
  | .s id g o l c => .s (f id) g o l c
  | .f fn caps => .f fn (caps.map fun c => (f c.1, c.2))
  | .q id g o r => .q id g o r
theorem SC.ren_den (f : Nat → Nat) (c : SC) : (c.ren f).den = c.den := by
  cases c with
  | f fn caps => simp [SC.ren, SC.den, Function.comp_def]
  | _ => rfl
def SV.ren (f : Nat → Nat) : SV → SV
  | .c x => .c (x.ren f)
  | .a l => .a (l.map (SC.ren f))
theorem dens_ren (f : Nat → Nat) (l : List SC) : dens (l.map (SC.ren f)) = dens l := by
  unfold dens
  rw [List.map_map]
  congr 2
  funext c
  exact SC.ren_den f c
theorem SV.ren_den (f : Nat → Nat) (v : SV) : (v.ren f).den = v.den := by
  cases v with
  | c x => exact SC.ren_den f x
  | a l => exact congrArg Value.agg (dens_ren f l)
def renT (f : Nat → Nat) : List (Nat × SV) → List (Nat × SV)
  | [] => []
  | (t, v) :: r => (t, v.ren f) :: renT f r
def renB (f : Nat → Nat) : List Bl → List Bl
  | [] => []
  | ⟨id, g, t, cs⟩ :: r => ⟨f id, g, t, cs.map (SC.ren f)⟩ :: renB f r
theorem look_ren (f : Nat → Nat) : ∀ (l : List (Nat × SV)) (t : Nat) (v : SV), look (renT f l) t = some v → ∃ u, look l t = some u ∧ v = u.ren f
  | [], t, v, h => by cases h
  | (x, u) :: r, t, v, h => by
    unfold renT look at h
    unfold look
    split at h
    · rename_i e
      cases h
      exact ⟨u, by rw [if_pos e], rfl⟩
    · rename_i e
      obtain ⟨u', h1, h2⟩ := look_ren f r t v h
      exact ⟨u', by rw [if_neg e]; exact h1, h2⟩
theorem mem_renB (f : Nat → Nat) : ∀ {l : List Bl} {b : Bl}, b ∈ renB f l → ∃ c ∈ l, b.g = c.g ∧ b.t = c.t ∧ dens b.cs = dens c.cs
  | ⟨id, g, t, cs⟩ :: r, b, h => by
    rcases List.mem_cons.1 h with rfl | h
    · exact ⟨_, List.mem_cons_self, rfl, rfl, dens_ren f cs⟩
    · obtain ⟨c, hc, h1⟩ := mem_renB f h
      exact ⟨c, List.mem_cons_of_mem _ hc, h1⟩
theorem renB_mem (f : Nat → Nat) : ∀ {l : List Bl} {b : Bl}, b ∈ l → ∃ c ∈ renB f l, c.g = b.g
  | ⟨id, g, t, cs⟩ :: r, b, h => by
    rcases List.mem_cons.1 h with rfl | h
    · exact ⟨_, List.mem_cons_self, rfl⟩
    · obtain ⟨c, hc, h1⟩ := renB_mem f h
      exact ⟨c, List.mem_cons_of_mem _ hc, h1⟩
theorem nodup_ren (f : Nat → Nat) : ∀ {l : List Bl}, l.Pairwise (fun b c => b.g ≠ c.g) → (renB f l).Pairwise fun b c => b.g ≠ c.g
  | [], _ => List.Pairwise.nil
  | ⟨id, g, t, cs⟩ :: r, h => by
    obtain ⟨h1, h2⟩ := List.pairwise_cons.1 h
    refine List.pairwise_cons.2 ⟨fun b hb => ?_, nodup_ren f h2⟩
    obtain ⟨c, hc, e, _⟩ := mem_renB f hb
    rw [e]
    exact h1 c hc
theorem Rel.ren {E : Env} {T : List (Nat × SV)} {B : List Bl} {R : List Rw} {V : List Vw} {S : List GW} {n : Nat} {a : Act} {w : World} (f : Nat → Nat) (h : Rel E ⟨T, B, R, V, S, n⟩ a w) : Rel E ⟨renT f T, renB f B, R, V, S, n⟩ a w := by
  have hM : ∀ k, St.M E ⟨renT f T, renB f B, R, V, S, n⟩ k → St.M E ⟨T, B, R, V, S, n⟩ k := by
    rintro k (q | ⟨b, hb, e⟩ | q)
    · exact .inl q
    · obtain ⟨c, hc, e1, _⟩ := mem_renB f hb
      exact .inr (.inl ⟨c, hc, by rw [← e1]; exact e⟩)
    · exact .inr (.inr q)
  refine ⟨fun t v hv => ?_, h.size, h.defers, fun b hb => ?_, nodup_ren f h.nodup, fun b hb => ?_, h.rows, fun r hr b hb => ?_, h.rapart, fun v hv => ?_, h.chg, fun s hs => ?_, h.mem⟩
  · obtain ⟨u, h1, rfl⟩ := look_ren f T t v hv
    rw [SV.ren_den]
    exact h.tmps t u h1
  · obtain ⟨c, hc, e1, e2, e3⟩ := mem_renB f hb
    rw [e1, e2, e3]
    exact h.blks c hc
  · obtain ⟨c, hc, e1, _⟩ := mem_renB f hb
    rw [e1]
    exact h.own c hc
  · obtain ⟨c, hc, e1, _⟩ := mem_renB f hb
    rw [e1]
    exact h.apart r hr c hc
  · obtain ⟨h1, h2, h3⟩ := h.views v hv
    exact ⟨h1, fun q => h2 (hM _ q), h3⟩
  · refine ⟨(h.snaps s hs).size, fun k hk hm => ?_⟩
    obtain ⟨e, q⟩ := (h.snaps s hs).keep k hk hm
    exact ⟨e, fun x => q (hM k x)⟩
/-- a state whose blocks have other numbers -/
theorem ren_ok {E : Env} {T : List (Nat × SV)} {B : List Bl} {R : List Rw} {V : List Vw} {S : List GW} {n : Nat} {Φ : Act → World → Prop} (f : Nat → Nat) (h : Ok E ⟨renT f T, renB f B, R, V, S, n⟩ Φ) : Ok E ⟨T, B, R, V, S, n⟩ Φ := fun a w hr => h a w (hr.ren f)
def swapN (i j k : Nat) : Nat := if k = i then j else if k = j then i else k
@[go_sem] theorem renT_nil (f : Nat → Nat) : renT f [] = [] := rfl
@[go_sem] theorem renT_cons (f : Nat → Nat) (t : Nat) (v : SV) (r : List (Nat × SV)) : renT f ((t, v) :: r) = (t, v.ren f) :: renT f r := rfl
@[go_sem] theorem renB_nil (f : Nat → Nat) : renB f [] = [] := rfl
@[go_sem] theorem renB_cons (f : Nat → Nat) (id g t : Nat) (cs : List SC) (r : List Bl) : renB f (⟨id, g, t, cs⟩ :: r) = ⟨f id, g, t, cs.map (SC.ren f)⟩ :: renB f r := rfl
@[go_sem] theorem ren_c (f : Nat → Nat) (c : SC) : (SV.c c).ren f = .c (c.ren f) := rfl
@[go_sem] theorem ren_a (f : Nat → Nat) (l : List SC) : (SV.a l).ren f = .a (l.map (SC.ren f)) := rfl
@[go_sem] theorem cren_v (f : Nat → Nat) (x : Value) : (SC.v x).ren f = .v x := rfl
@[go_sem] theorem cren_p (f : Nat → Nat) (id g o : Nat) : (SC.p id g o).ren f = .p (f id) g o := rfl
@[go_sem] theorem cren_s (f : Nat → Nat) (id g o l c : Nat) : (SC.s id g o l c).ren f = .s (f id) g o l c := rfl
@[go_sem] theorem cren_f (f : Nat → Nat) (fn : FuncId) (l : List (Nat × Nat × Nat)) : (SC.f fn l).ren f = .f fn (l.map fun c => (f c.1, c.2)) := rfl
@[go_sem] theorem cren_q (f : Nat → Nat) (id g o r : Nat) : (SC.q id g o r).ren f = .q id g o r := rfl
end Go.Proofs.Ytomfladifefomaa
