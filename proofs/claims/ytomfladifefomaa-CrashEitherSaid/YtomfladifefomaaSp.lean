/- What is read in blocks that nobody writes; operations that 'stepO' leaves: calls, elements, appends. Names no program. Conditions: as each law states them. -/
import Derived.Test.YtomfladifefomaaSl
import Derived.Lib.ConvBytes
namespace Go.Proofs.Ytomfladifefomaa
open Go.RowKit
/-- a slice of n elements, of k cells each, of element type t, that reads as these cells, in a block that nobody writes -/
def Sl (G : GW) (t k n : Nat) (v : Value) (cells : List Value) : Prop :=
  ∃ A c, v = .slice A n c ∧ n ≤ c ∧ c ≤ maxLen ∧ cells.length = n * k ∧
    (0 < n → ∃ g o cur fr, A = some ⟨g, o, none⟩ ∧ ¬ G.M g ∧ G.w.heap[g]? = some (.cells cur t fr) ∧ ∀ j u, cells[j]? = some u → cur[o + j]? = some u)
theorem Sl.mono {G G' : GW} {t k n : Nat} {v : Value} {cells : List Value} (h : Sl G t k n v cells) (hl : G.Le G') : Sl G' t k n v cells := by
  obtain ⟨A, c, rfl, h1, h2, h3, h4⟩ := h
  refine ⟨A, c, rfl, h1, h2, h3, fun hn => ?_⟩
  obtain ⟨g, o, cur, fr, rfl, hm, hb, hc⟩ := h4 hn
  obtain ⟨e, m⟩ := hl.keep g (lt_of_block hb) hm
  exact ⟨g, o, cur, fr, rfl, m, e.trans hb, hc⟩
theorem Sl.tsl {G : GW} {t k n : Nat} {v : Value} {cells : List Value} (h : Sl G t k n v cells) : TSl G.w t k n v cells := by
  obtain ⟨A, c, rfl, h1, h2, h3, h4⟩ := h
  refine ⟨A, c, rfl, h1, h2, h3, fun hn => ?_⟩
  obtain ⟨g, o, cur, fr, rfl, _, hb, hc⟩ := h4 hn
  exact ⟨g, o, cur, fr, rfl, hb, hc⟩
theorem Sl.nil (G : GW) (t k : Nat) : Sl G t k 0 (.slice none 0 0) [] := ⟨none, 0, rfl, Nat.le_refl _, Nat.zero_le _, by simp, fun h => absurd h (by omega)⟩
/-- cells, an element each, that hold these things -/
def ElG {α : Type} (R : GW → α → List Value → Prop) (k : Nat) (G : GW) (css : List (List Value)) (l : List α) : Prop :=
  css.length = l.length ∧ (∀ cs ∈ css, cs.length = k) ∧ ∀ (i : Nat) (cs : List Value) (x : α), css[i]? = some cs → l[i]? = some x → R G x cs
def MonoR {α : Type} (R : GW → α → List Value → Prop) : Prop := ∀ G G' x cs, GW.Le G G' → R G x cs → R G' x cs
/-- a slice of such elements -/
def Sq {α : Type} (R : GW → α → List Value → Prop) (t k : Nat) (G : GW) (v : Value) (l : List α) : Prop := ∃ css, ElG R k G css l ∧ Sl G t k l.length v css.flatten
section
variable {α : Type} {R : GW → α → List Value → Prop} {t k : Nat} {G G' : GW} {v : Value} {l : List α} {css : List (List Value)}
theorem ElG.mono (h : ElG R k G css l) (hR : MonoR R) (hl : G.Le G') : ElG R k G' css l := ⟨h.1, h.2.1, fun i cs x h1 h2 => hR _ _ _ _ hl (h.2.2 i cs x h1 h2)⟩
theorem Sq.mono (h : Sq R t k G v l) (hR : MonoR R) (hl : G.Le G') : Sq R t k G' v l := by
  obtain ⟨css, he, hs⟩ := h
  exact ⟨css, he.mono hR hl, hs.mono hl⟩
theorem ElG.nil : ElG R k G [] [] := ⟨rfl, by simp, fun i cs x h => by simp at h⟩
theorem ElG.snoc (h : ElG R k G css l) {cs : List Value} {x : α} (hl : cs.length = k) (hr : R G x cs) : ElG R k G (css ++ [cs]) (l ++ [x]) := by
  refine ⟨by simp [h.1], ?_, ?_⟩
  · intro c hc
    rcases List.mem_append.1 hc with hc | hc
    · exact h.2.1 c hc
    · simp at hc; subst hc; exact hl
  · intro i c y hc hy
    by_cases hi : i < css.length
    · rw [List.getElem?_append_left hi] at hc
      rw [List.getElem?_append_left (by rw [← h.1]; exact hi)] at hy
      exact h.2.2 i c y hc hy
    · have hb : i < (css ++ [cs]).length := (List.getElem?_eq_some_iff.1 hc).1
      have e : i = css.length := by simp at hb; omega
      subst e
      rw [List.getElem?_append_right (Nat.le_refl _)] at hc
      rw [List.getElem?_append_right (by rw [h.1]; exact Nat.le_refl _)] at hy
      simp at hc
      rw [h.1] at hy
      simp at hy
      subst hc; subst hy; exact hr
theorem ElG.at_ (h : ElG R k G css l) {i : Nat} {x : α} (hx : l[i]? = some x) : ∃ cs, css[i]? = some cs ∧ cs.length = k ∧ R G x cs := by
  have hi : i < css.length := by rw [h.1]; exact (List.getElem?_eq_some_iff.1 hx).1
  exact ⟨css[i], List.getElem?_eq_getElem hi, h.2.1 _ (List.getElem_mem hi), h.2.2 i _ x (List.getElem?_eq_getElem hi) hx⟩
theorem Sq.nil : Sq R t k G (.slice none 0 0) [] := ⟨[], ElG.nil, Sl.nil G t k⟩
theorem Sq.form (h : Sq R t k G v l) : ∃ A c, v = .slice A l.length c ∧ l.length ≤ c ∧ c ≤ maxLen := by
  obtain ⟨css, _, A, c, rfl, h1, h2, _⟩ := h
  exact ⟨A, c, rfl, h1, h2⟩
/-- the element at a place: where it lies, and its cells -/
theorem Sq.at_ {A : Option Addr} {n c i : Nat} {x : α} (h : Sq R t k G (.slice A n c) l) (hx : l[i]? = some x) :
    ∃ g o cs, A = some ⟨g, o, none⟩ ∧ g < G.w.heap.size ∧ ¬ G.M g ∧ cs.length = k ∧ R G x cs ∧ G.w.rangeAt g (o + i * k) cs ∧ n = l.length := by
  obtain ⟨css, he, A', c', e, h1, h2, h3, h4⟩ := h
  cases e
  obtain ⟨cs, hc, hl, hr⟩ := he.at_ hx
  have hi : i < l.length := (List.getElem?_eq_some_iff.1 hx).1
  obtain ⟨g, o, cur, fr, rfl, hm, hb, hcell⟩ := h4 (by omega)
  refine ⟨g, o, cs, rfl, lt_of_block hb, hm, hl, hr, fun j u hu => ?_, rfl⟩
  have hj : j < cs.length := (List.getElem?_eq_some_iff.1 hu).1
  rw [cell_of_block hb, Nat.add_assoc]
  refine hcell _ u ?_
  rw [flatten_at css he.2.1 i j cs hc (by omega), hu]
end

/-- what an operation may make of a state -/
def Does (P : Program) (E : Env) (σ : St) (o : Oper) (S : St → Prop) : Prop := ∀ a w (Q : Exit → Act → World → Prop) (next : Act → World → Prop), Rel E σ a w → (∀ σ' a' w', S σ' → Rel E σ' a' w' → next a' w') → o.wp P a w next Q
section
variable {P : Program} {E : Env} {σ : St} {o : Oper} {S : St → Prop} {k : Cont} {N : Nat} {ops : Array Oper}
theorem plain_ok {rest : List Oper} (hd : Does P E σ o S) (hk : k.ok) (hg : gdOk ops σ o) (h : ∀ σ', S σ' → W P E N k (.ops ops rest) σ') : Ok E σ (wpList P ops (k.den P) (o :: rest)) := by
  intro a w hr
  unfold wpList
  rw [if_pos (gdOk_wanted hg hr)]
  exact .inl (hd a w _ _ hr fun σ' a' w' hS hr' => W_sound N k _ _ hk (h σ' hS) trivial _ _ hr')
theorem any_ok {B : List Bl} {V : List Vw} {fu i : Nat} {listed : Array Bool} {p : Plan} (hd : Does P E σ o S) (hk : k.ok) (hi : ops[i]? = some o) (hg : gdOk ops σ o)
    (hB : ∀ σ', S σ' → (∀ b ∈ B, b ∈ σ.blks) → ∀ b ∈ B, b ∈ σ'.blks) (hV : ∀ σ', S σ' → ∀ v ∈ σ.views, v ∈ σ'.views)
    (h : ∀ σ', S σ' → W P E N k (.any ops B V fu (listed.setIfInBounds i true) p) σ') : AnyStop P E k ops B V fu listed i p o σ := by
  intro hI a w hr
  obtain ⟨hpl, hpa, hB0, hV0⟩ := hI
  unfold wpOp
  simp only [hi, gdOk_wanted hg hr, if_true]
  refine .inl (hd a w _ _ hr fun σ' a' w' hS hr' => ?_)
  have hB' := hB σ' hS hB0
  have hV' : ∀ v ∈ V, v ∈ σ'.views := fun v hv => hV σ' hS v (hV0 v hv)
  exact ⟨Sof_of hr' hB' hV', W_sound N k _ _ hk (h σ' hS) ⟨hpl, hpa, hB', hV'⟩ _ _ hr'⟩
/-- the same, where no block turns -/
theorem any_ok2 {B : List Bl} {V : List Vw} {fu i : Nat} {listed : Array Bool} {p : Plan} (hd : Does P E σ o S) (hk : k.ok) (hi : ops[i]? = some o) (hg : gdOk ops σ o)
    (hK : ∀ σ', S σ' → σ'.blks = σ.blks ∧ ∀ v ∈ σ.views, v ∈ σ'.views)
    (h : ∀ σ', S σ' → W P E N k (.any ops B V fu (listed.setIfInBounds i true) p) σ') : AnyStop P E k ops B V fu listed i p o σ :=
  any_ok hd hk hi hg (fun σ' hS hB b hb => by rw [(hK σ' hS).1]; exact hB b hb) (fun σ' hS => (hK σ' hS).2) h
/-- what is known of the world at a call -/
structure Now (E : Env) (σ : St) (G : GW) : Prop where
  le : ∀ s ∈ σ.snaps, s.Le G
  blks : ∀ b ∈ σ.blks, Blk G.w b.g b.t (dens b.cs)
  mine : ∀ b ∈ σ.blks, G.M b.g
  chg : Chg E.A E.W G.w
  wf : G.Wf
  only : ∀ k, G.M k → σ.M E k
  rows : ∀ r ∈ σ.rows, G.w.ownsRow E.W.heap.size r.t r.k r.v r.n r.xs
theorem Rel.wf {a : Act} {w : World} (h : Rel E σ a w) : GW.Wf ⟨σ.M E, w⟩ := by
  intro k hk
  rcases hk with hk | ⟨b, hb, rfl⟩ | ⟨r, hr, e⟩
  · exact Nat.lt_of_lt_of_le (h.mem k hk) h.chg.size
  · exact (h.blks b hb).lt
  · exact (ownsRow_lt (h.rows r hr) e).2
theorem Rel.now {a : Act} {w : World} (h : Rel E σ a w) : Now E σ ⟨σ.M E, w⟩ := ⟨h.snaps, h.blks, fun b hb => .inr (.inl ⟨b, hb, rfl⟩), h.chg, h.wf, fun _ q => q, h.rows⟩
/-- a call, by its contract -/
theorem call_does {c : Call} {f : FuncId} {vs : List SV} (T : Value → GW → Prop) (ho : o.op = .call c) (hcal : c.callee = .value (.func f)) (hf : isFn P f = true)
    (hev : evs σ c.args.toList = some vs) (hd : dOk E o.dst) (hct : ∀ G : GW, Now E σ G → Calls P f (vs.map SV.den).toArray G.w (Ret G T)) :
    Does P E σ o (fun σ' => ∃ v G, T v G ∧ Now E σ G ∧ σ' = (σ.seen G).put o.dst (.c (.v v))) := by
  intro a w Q next hr hn
  unfold Oper.wp
  rw [run_call ho hcal hev hf hr.see]
  refine Calls.mono (hct ⟨σ.M E, w⟩ hr.now) fun e w' he => ?_
  obtain ⟨v, rfl, hT, hc⟩ := he
  have hw := (hr.called hc).now
  exact hn _ _ _ ⟨v, _, hT, ⟨fun s hs => hw.le s (List.mem_cons_of_mem _ hs), hw.blks, hw.mine, hw.chg, hw.wf, hw.only, hw.rows⟩, rfl⟩ ((hr.called hc).put o.dst (.c (.v v)) (dOk_lt hd))
theorem Rel.addV {a : Act} {w : World} (h : Rel E σ a w) {g o' : Nat} {cs : List Value} (h1 : g < w.heap.size) (h2 : ¬ σ.M E g) (h3 : w.rangeAt g o' cs) : Rel E { σ with views := ⟨σ.next, g, o', cs⟩ :: σ.views, next := σ.next + 1 } a w :=
  ⟨h.tmps, h.size, h.defers, h.blks, h.nodup, h.own, h.rows, h.apart, h.rapart, fun v hv => by
    rcases List.mem_cons.1 hv with rfl | hv
    · exact ⟨h1, h2, h3⟩
    · exact h.views v hv, h.chg, h.snaps, h.mem⟩
def St.view (σ : St) (g o : Nat) (cs : List Value) : St := { σ with views := ⟨σ.next, g, o, cs⟩ :: σ.views, next := σ.next + 1 }
/-- an element of a slice that is only read -/
theorem elem_does {α : Type} {R : GW → α → List Value → Prop} {t e kc : Nat} {x i : Operand} {A : Option Addr} {n c m : Nat} {kk : IntKind} {j : Int} {l : List α} {y : α} (ho : o.op = .indexAddr t x i) (ht : tSlice P t = some e) (hk : tSize P e = some kc)
    (hx : ev σ x = some (.c (.v (.slice A n c)))) (hi : ev σ i = some (.c (.v (.int kk j)))) (hd : dOk E o.dst) (hj : j = (m : Int)) (hy : l[m]? = some y)
    (hs : ∀ G : GW, Now E σ G → Sq R e kc G (.slice A n c) l) :
    Does P E σ o (fun σ' => ∃ g o' cs G, cs.length = kc ∧ R G y cs ∧ σ' = ((σ.seen G).view g o' cs).put o.dst (.c (.q σ.next g o' 0))) := by
  intro a w Q next hr hn
  obtain ⟨g, o', cs, rfl, hg, hm, hl, hR, hrg, rfl⟩ := (hs ⟨σ.M E, w⟩ hr.now).at_ hy
  have hx' : a.eval x = .slice (some ⟨g, o', none⟩) l.length c := ev_den hr.see hx
  have hi' : a.eval i = .int kk j := ev_den hr.see hi
  have hml : m < l.length := (List.getElem?_eq_some_iff.1 hy).1
  have hu : P.underlying t = some (.slice e) := by
    unfold tSlice at ht
    split at ht
    · rename_i e' hh; cases ht; exact hh
    · cases ht
  obtain ⟨inf, hinf, hsz⟩ := tSize_spec hk
  have hrun : (execOp a.eval o).run P w = .ok (.value (.pointer (some ⟨g, o' + m * kc, none⟩))) w := by
    unfold execOp
    subst hj
    have hc1 : 0 ≤ (m : Int) ∧ (m : Int) < (l.length : Int) := ⟨by omega, by omega⟩
    simp only [ho, hx', hi', Instr.indexAt, Sem.run_bind, asIntOf, Sem.run_pure, Result.andThen_ok, run_underlying hu, hc1, and_self, if_true, sizeOf, typeInfo, run_program, hinf, hsz, Int.toNat_natCast, Addr.add_mid]
  refine wp_of_value hrun (hn _ _ _ ⟨g, o' + m * kc, cs, ⟨σ.M E, w⟩, hl, hR, rfl⟩ ?_)
  exact (((hr.called (Chg.refl _ _)).addV hg (fun q => hm q) hrg).put o.dst (.c (.q σ.next g (o' + m * kc) 0)) (dOk_lt hd))
end
/-- a contract in the elder form -/
theorem ret_of {P : Program} {f : FuncId} {args : Array Value} {G : GW} {R : Ending → World → Prop} {T : Value → GW → Prop} (h : Calls P f args G.w R)
    (k : ∀ e w', R e w' → ∃ v, e = .returned v ∧ T v ⟨G.M, w'⟩ ∧ Below G.w.heap.size G.w w') : Calls P f args G.w (Ret G T) :=
  h.mono fun e w' hr => let ⟨v, he, hT, hb⟩ := k e w' hr; ⟨v, he, hT, Chg.of_below hb⟩
@[go_sem] theorem view_mk (T : List (Nat × SV)) (B : List Bl) (R : List Rw) (V : List Vw) (S : List GW) (n g o : Nat) (cs : List Value) : (St.mk T B R V S n).view g o cs = ⟨T, B, R, ⟨n, g, o, cs⟩ :: V, S, n + 1⟩ := rfl
end Go.Proofs.Ytomfladifefomaa
