/- A call that is given pointers to blocks that nobody writes meanwhile. Names no program. Conditions: as each law states them. -/
import Derived.Test.YtohdfcnjcpjdcaaDoorP6q
namespace Go.Proofs.YtohdfcnjcpjdcaaDoor
open Go.RowKit
set_option linter.unusedSimpArgs false
/-- a block that nobody writes -/
def BlkG (G : GW) (g : Nat) (cs : List Value) : Prop := g < G.w.heap.size ∧ ¬ G.M g ∧ G.w.rangeAt g 0 cs
theorem BlkG.mono {G G' : GW} {g : Nat} {cs : List Value} (h : BlkG G g cs) (hl : G.Le G') : BlkG G' g cs := by
  obtain ⟨h1, h2, h3⟩ := h
  obtain ⟨e, n⟩ := hl.keep g h1 h2
  exact ⟨Nat.lt_of_lt_of_le h1 hl.size, n, range_block h3 e⟩
@[go_sem] def startV (G : GW) (svs : List SV) (vs : List Vw) : St := ⟨initS 0 svs, [], [], vs, [G], vs.length⟩
/-- the beginning: a call that reads blocks which nobody writes -/
theorem enterV {P : Program} {f : FuncId} {fn : Func} {c : Code} {G : GW} {R : Ending → World → Prop} {n : Nat} (N : Nat) (svs : List SV) (vs : List Vw) (hv : ∀ v ∈ vs, v.g < G.w.heap.size ∧ ¬ G.M v.g ∧ G.w.rangeAt v.g v.o v.cs) (hG : G.Wf) (hf : P.funcs[f]? = some fn) (hb : fn.body = some c) (hn : fn.ntmps = n)
    (hl : svs.length ≤ n) (hw : W P ⟨G.w, Non, G.M, n, true⟩ N (.base (bodyPost P fn R)) (.code c) (startV G svs vs)) : Calls P f (svs.map SV.den).toArray G.w R := by
  refine calls_of_wp hf hb ?_
  refine W_sound N (.base (bodyPost P fn R)) (.code c) _ (QOk_body P fn R) hw trivial _ _ ?_
  refine ⟨fun u v hv => ?_, (by simp [hn]; omega), rfl, (fun b hb => by cases hb), List.Pairwise.nil, (fun b hb => by cases hb), (fun r hr => by cases hr), (fun r hr => by cases hr), List.Pairwise.nil, fun v h => ?_, Chg.refl _ _, ?_, hG⟩
  · obtain ⟨hx, _⟩ := look_initS _ _ _ _ hv
    have hx' : (svs.map SV.den).toArray[u]? = some v.den := by
      rw [Nat.sub_zero] at hx
      simp [hx]
    rw [Array.getElem?_append_left (by exact (Array.getElem?_eq_some_iff.1 hx').1)]
    exact hx'
  · obtain ⟨h1, h2, h3⟩ := hv v h
    refine ⟨h1, fun q => ?_, h3⟩
    rcases q with q | ⟨b, hb, _⟩ | ⟨r, hr, _⟩
    · exact h2 q
    · cases hb
    · cases hr
  · intro s hs
    have : s = G := by simpa [startV] using hs
    subst this
    refine ⟨Nat.le_refl _, fun k _ hm => ⟨rfl, fun q => ?_⟩⟩
    rcases q with q | ⟨b, hb, _⟩ | ⟨r, hr, _⟩
    · exact hm q
    · cases hb
    · cases hr
theorem BlkG.vw {G : GW} {g : Nat} {cs : List Value} (h : BlkG G g cs) : ∀ v ∈ [(⟨0, g, 0, cs⟩ : Vw)], v.g < G.w.heap.size ∧ ¬ G.M v.g ∧ G.w.rangeAt v.g v.o v.cs := by
  intro v hv
  obtain rfl := List.mem_singleton.1 hv
  exact h
/-- a world in which some blocks are not written for a time -/
def GW.sub (G : GW) (ks : List Nat) : GW := ⟨fun k => G.M k ∧ k ∉ ks, G.w⟩
theorem GW.le_sub (G : GW) (ks : List Nat) : G.Le (G.sub ks) := ⟨Nat.le_refl _, fun _ _ h => ⟨rfl, fun q => h q.1⟩⟩
theorem GW.Wf.sub {G : GW} (h : G.Wf) (ks : List Nat) : (G.sub ks).Wf := fun k hk => h k hk.1
theorem Now.blkG {E : Env} {σ : St} {G : GW} (hn : Now E σ G) {b : Bl} (hb : b ∈ σ.blks) {ks : List Nat} (hk : b.g ∈ ks) : BlkG (G.sub ks) b.g (b.cs.map SC.den) := by
  have h := hn.blks b hb
  have := range_of_blk h 0 b.cs.length (by omega)
  rw [List.drop_zero, List.take_length] at this
  exact ⟨h.lt, fun q => q.2 hk, this⟩
theorem flatten_take {k : Nat} : ∀ (css : List (List Value)) (_ : ∀ cs ∈ css, cs.length = k) (m : Nat), css.flatten.take (m * k) = (css.take m).flatten
  | [], _, m => by simp
  | c :: css, h, 0 => by simp
  | c :: css, h, m + 1 => by
    have hc : c.length = k := h c List.mem_cons_self
    rw [List.flatten_cons, List.take_succ_cons, List.flatten_cons, Nat.succ_mul, List.take_append, List.take_of_length_le (by omega)]
    congr 1
    rw [show m * k + k - c.length = m * k from by omega]
    exact flatten_take css (fun cs hcs => h cs (List.mem_cons_of_mem _ hcs)) m
theorem ElG.take {α : Type} {R : GW → α → List Value → Prop} {k : Nat} {G : GW} {css : List (List Value)} {l : List α} (h : ElG R k G css l) (m : Nat) : ElG R k G (css.take m) (l.take m) := by
  obtain ⟨h1, h2, h3⟩ := h
  refine ⟨by simp [h1], fun cs hcs => h2 cs (List.mem_of_mem_take hcs), fun i cs x hi hx => ?_⟩
  rw [List.getElem?_take] at hi hx
  split at hi
  · rename_i q
    rw [if_pos q] at hx
    exact h3 i cs x hi hx
  · cases hi
section
variable {P : Program} {E : Env} {σ : St} {o : Oper} {α : Type}
/-- the first ones of a slice -/
theorem cutq_does {R : GW → α → List Value → Prop} {t e k : Nat} {x : Operand} {hi : Option Operand} {A : Option Addr} {n c m : Nat} {l : List α} (hn : n = l.length) (ho : o.op = .slice t x none hi none) (ht : tSlice P t = some e) (hk : tSize P e = some k)
    (hx : ev σ x = some (.c (.v (.slice A n c)))) (hhi : cutArg σ hi n (0 + m)) (hd : dOk E o.dst) (h1 : m ≤ n) (h3 : n ≤ c) :
    Does P E σ o (fun σ' => ∃ A', (∀ G : GW, Sq R e k G (.slice A n c) l → Sq R e k G (.slice A' m c) (l.take m)) ∧ σ' = σ.put o.dst (.c (.v (.slice A' m c)))) := by
  subst hn
  intro a w Q next hr hnx
  refine cutv_does 0 m c ho ht hk hx rfl hhi (show 0 + c = c from Nat.zero_add c) (by simp) hd (by omega) (by omega) a w Q next hr fun σ' a' w' hK hr' => hnx σ' a' w' ⟨_, fun G h => ?_, hK⟩ hr'
  obtain ⟨css, he, hS⟩ := h
  have h4 := hS.cut (l := 0) (n' := m) (c' := c) (by omega) (by omega) (by omega)
  rw [Nat.zero_mul, List.drop_zero, flatten_take css he.2.1 m] at h4
  refine ⟨css.take m, he.take m, ?_⟩
  rw [List.length_take, Nat.min_eq_left h1, Nat.zero_mul]
  exact h4
end
end Go.Proofs.YtohdfcnjcpjdcaaDoor
