/- Symbolic steps over frames and blocks of a call's own: the state that is known of a call (slots, blocks, rows), what an operation makes of it, and that the model's operation does so. Names no program. Conditions: as each law states them. -/
import Derived.Test.YtomfladifefomaaMem
import Derived.Laws.CopyRow
import Derived.Deep.MidRow
namespace Go.Proofs.Ytomfladifefomaa
open Go.RowKit

/-- one cell: a value; a pointer into a block of the call's own (its name, its number, the place); a slice there; a function with pointers that it captured; a pointer to cells that nobody writes -/
inductive SC where
  | v (x : Value)
  | p (id g off : Nat)
  | s (id g off len cap : Nat)
  | f (fn : FuncId) (caps : List (Nat × Nat × Nat))
  | q (id g o r : Nat)
def SC.den : SC → Value
  | .v x => x
  | .p _ g off => .pointer (some ⟨g, off, none⟩)
  | .s _ g off len cap => .slice (some ⟨g, off, none⟩) len cap
  | .f fn caps => .func (.func fn) #[] (caps.map fun c => Value.pointer (some ⟨c.2.1, c.2.2, none⟩)).toArray
  | .q _ g o r => .pointer (some ⟨g, o + r, none⟩)
def dens (l : List SC) : Array Value := (l.map SC.den).toArray
/-- what a slot holds: one cell, or cells that are one struct -/
inductive SV where
  | c (x : SC)
  | a (l : List SC)
def SV.den : SV → Value
  | .c x => x.den
  | .a l => .agg (dens l)
def valCells (x : Value) : List SC := match x with
  | .agg cs => cs.toList.map .v
  | y => [.v y]
def SV.cells : SV → List SC
  | .c (.v x) => valCells x
  | .c x => [x]
  | .a l => l
theorem valCells_den (x : Value) : x.cells = dens (valCells x) := by
  have e : SC.den ∘ SC.v = id := rfl
  cases x <;> simp [valCells, Value.cells, dens, SC.den, e]
theorem SV.cells_den (v : SV) : v.den.cells = dens v.cells := by
  cases v with
  | c x => cases x with
    | v x => exact valCells_den x
    | _ => simp [SV.den, SV.cells, SC.den, dens, Value.cells]
  | a l => simp [SV.den, SV.cells, Value.cells]
/-- is it surely the value of one cell? -/
def SC.one : SC → Prop
  | .v x => x.oneCell' = true
  | _ => True
theorem SC.one_den {x : SC} (h : x.one) : x.den.oneCell' = true := by
  cases x with
  | v x => exact h
  | _ => rfl
def ones (l : List SC) : Prop := match l with
  | [] => True
  | x :: r => x.one ∧ ones r
theorem ones_mem : ∀ {l : List SC}, ones l → ∀ x ∈ l, x.one
  | [], _, x, hx => by cases hx
  | y :: r, h, x, hx => by
    cases hx with
    | head => exact h.1
    | tail _ hm => exact ones_mem h.2 x hm

/-- cells that nobody writes, from a place on -/
structure Vw where
  id : Nat
  g : Nat
  o : Nat
  cs : List Value
structure Bl where
  id : Nat
  g : Nat
  t : TypeId
  cs : List SC
/-- a row that the call appends to -/
structure Rw where
  v : Value
  t : TypeId
  k : Nat
  n : Nat
  xs : List Value
/-- a world, and the blocks that somebody still writes -/
structure GW where
  M : Nat → Prop
  w : World
structure GW.Le (s g : GW) : Prop where
  size : s.w.heap.size ≤ g.w.heap.size
  keep : ∀ k, k < s.w.heap.size → ¬ s.M k → g.w.heap[k]? = s.w.heap[k]? ∧ ¬ g.M k
/-- who is still written is there -/
def GW.Wf (G : GW) : Prop := ∀ k, G.M k → k < G.w.heap.size
theorem GW.Le.refl (s : GW) : s.Le s := ⟨Nat.le_refl _, fun _ _ h => ⟨rfl, h⟩⟩
theorem GW.Le.trans {a b c : GW} (h : a.Le b) (k : b.Le c) : a.Le c :=
  ⟨Nat.le_trans h.size k.size, fun i hi hm =>
    let ⟨e, n⟩ := h.keep i hi hm
    let ⟨e', n'⟩ := k.keep i (Nat.lt_of_lt_of_le hi h.size) n
    ⟨e'.trans e, n'⟩⟩
/-- apart from the blocks A the world is as it was -/
structure Chg (A : Nat → Prop) (w w' : World) : Prop where
  os : w'.os = w.os
  tape : w'.tape = w.tape
  output : w'.output = w.output
  size : w.heap.size ≤ w'.heap.size
  block : ∀ k, k < w.heap.size → ¬ A k → w'.heap[k]? = w.heap[k]?
def Non (_ : Nat) : Prop := False
theorem Chg.below {w w' : World} (h : Chg Non w w') : Below w.heap.size w w' := ⟨h.os, h.tape, h.output, h.size, fun k hk => h.block k hk id⟩
theorem Chg.of_below {w w' : World} (h : Below w.heap.size w w') : Chg Non w w' := ⟨h.os, h.tape, h.output, h.size, fun k hk _ => h.block k hk⟩
theorem Chg.refl (A : Nat → Prop) (w : World) : Chg A w w := ⟨rfl, rfl, rfl, Nat.le_refl _, fun _ _ _ => rfl⟩
theorem Chg.trans {A : Nat → Prop} {a b c : World} (h : Chg A a b) (k : Chg A b c) : Chg A a c :=
  ⟨k.os.trans h.os, k.tape.trans h.tape, k.output.trans h.output, Nat.le_trans h.size k.size, fun i hi hA => (k.block i (Nat.lt_of_lt_of_le hi h.size) hA).trans (h.block i hi hA)⟩
/-- what does not turn while the call runs: the world at its beginning, the blocks that it may write, those that its caller still writes, its frame's size -/
structure Env where
  W : World
  A : Nat → Prop
  M : Nat → Prop
  n : Nat
structure St where
  tmps : List (Nat × SV)
  blks : List Bl
  rows : List Rw
  views : List Vw
  snaps : List GW
  next : Nat
def look : List (Nat × SV) → Nat → Option SV
  | [], _ => none
  | x :: l, t => if x.1 = t then some x.2 else look l t
def St.M (E : Env) (σ : St) (k : Nat) : Prop := E.M k ∨ (∃ b ∈ σ.blks, b.g = k) ∨ ∃ r ∈ σ.rows, r.v.ownBlock = some k
structure Rel (E : Env) (σ : St) (a : Act) (w : World) : Prop where
  tmps : ∀ t v, look σ.tmps t = some v → a.tmps[t]? = some v.den
  size : a.tmps.size = E.n
  defers : a.defers = []
  blks : ∀ b ∈ σ.blks, Blk w b.g b.t (dens b.cs)
  nodup : σ.blks.Pairwise fun b c => b.g ≠ c.g
  own : ∀ b ∈ σ.blks, E.A b.g ∨ E.W.heap.size ≤ b.g
  rows : ∀ r ∈ σ.rows, w.ownsRow E.W.heap.size r.t r.k r.v r.n r.xs
  apart : ∀ r ∈ σ.rows, ∀ b ∈ σ.blks, r.v.ownBlock ≠ some b.g
  rapart : σ.rows.Pairwise fun r r' => ∀ k, r.v.ownBlock = some k → r'.v.ownBlock ≠ some k
  views : ∀ v ∈ σ.views, v.g < w.heap.size ∧ ¬ σ.M E v.g ∧ w.rangeAt v.g v.o v.cs
  chg : Chg E.A E.W w
  snaps : ∀ s ∈ σ.snaps, s.Le ⟨σ.M E, w⟩
  mem : ∀ k, E.M k → k < E.W.heap.size
/-- what an operation that only reads must know of a state -/
structure See (σ : St) (a : Act) (w : World) : Prop where
  tmps : ∀ t v, look σ.tmps t = some v → a.tmps[t]? = some v.den
  blks : ∀ b ∈ σ.blks, Blk w b.g b.t (dens b.cs)
  views : ∀ v ∈ σ.views, w.rangeAt v.g v.o v.cs
theorem Rel.see {E : Env} {σ : St} {a : Act} {w : World} (h : Rel E σ a w) : See σ a w := ⟨h.tmps, h.blks, fun v hv => (h.views v hv).2.2⟩
def Ok (E : Env) (σ : St) (Φ : Act → World → Prop) : Prop := ∀ a w, Rel E σ a w → Φ a w
theorem Ok.mono {E : Env} {σ : St} {Φ Ψ : Act → World → Prop} (h : Ok E σ Φ) (k : ∀ a w, Φ a w → Ψ a w) : Ok E σ Ψ := fun a w r => k a w (h a w r)

def St.put (σ : St) (d : Option Tmp) (v : SV) : St := match d with
  | some d => { σ with tmps := (d, v) :: σ.tmps }
  | none => σ
def St.add (σ : St) (g : Nat) (t : TypeId) (cs : List SC) : St := { σ with blks := ⟨σ.next, g, t, cs⟩ :: σ.blks, next := σ.next + 1 }
/-- cells put into cells from a place on -/
def putCs (l : List SC) (off : Nat) (cs : List SC) : List SC := match l, off with
  | [], _ => []
  | x :: r, 0 => match cs with
    | [] => x :: r
    | c :: cs => c :: putCs r 0 cs
  | x :: r, o + 1 => x :: putCs r o cs
def putBl : List Bl → Nat → Nat → List SC → List Bl
  | [], _, _, _ => []
  | b :: r, id, off, cs => if b.id = id then { b with cs := putCs b.cs off cs } :: r else b :: putBl r id off cs
def St.set (σ : St) (id off : Nat) (cs : List SC) : St := { σ with blks := putBl σ.blks id off cs }
def getBl : List Bl → Nat → Option Bl
  | [], _ => none
  | b :: r, id => if b.id = id then some b else getBl r id

theorem getBl_mem : ∀ {l : List Bl} {id : Nat} {b : Bl}, getBl l id = some b → b ∈ l
  | [], _, _, h => by cases h
  | x :: r, id, b, h => by
    unfold getBl at h
    split at h
    · cases h; exact List.mem_cons_self
    · exact List.mem_cons_of_mem _ (getBl_mem h)

section
variable {E : Env} {σ : St} {a : Act} {w : World}
theorem Rel.put (h : Rel E σ a w) (d : Option Tmp) (v : SV) (hd : ∀ t, d = some t → t < E.n) : Rel E (σ.put d v) (a.put d v.den) w := by
  cases d with
  | none => exact h
  | some d =>
    refine ⟨fun t u hu => ?_, ?_, h.defers, h.blks, h.nodup, h.own, h.rows, h.apart, h.rapart, h.views, h.chg, h.snaps, h.mem⟩
    · show (a.tmps.setIfInBounds d v.den)[t]? = _
      have hu' : (if d = t then some v else look σ.tmps t) = some u := hu
      have hlt : d < a.tmps.size := by rw [h.size]; exact hd d rfl
      by_cases e : d = t
      · subst e
        rw [if_pos rfl] at hu'
        cases hu'
        rw [Array.getElem?_setIfInBounds_self_of_lt hlt]
      · rw [if_neg e] at hu'
        rw [Array.getElem?_setIfInBounds_ne e]
        exact h.tmps t u hu'
    · show (a.tmps.setIfInBounds d v.den).size = _
      simpa using h.size
theorem Rel.drew (h : Rel E σ a w) : Rel E σ a { w with drawn := w.drawn + 1 } :=
  ⟨h.tmps, h.size, h.defers, h.blks, h.nodup, h.own, h.rows, h.apart, h.rapart, h.views, ⟨h.chg.os, h.chg.tape, h.chg.output, h.chg.size, h.chg.block⟩, fun s hs => ⟨(h.snaps s hs).size, (h.snaps s hs).keep⟩, h.mem⟩
theorem ownsRow_lt {base e k n : Nat} {v : Value} {xs : List Value} (h : w.ownsRow base e k v n xs) {g : Nat} (hg : v.ownBlock = some g) : base ≤ g ∧ g < w.heap.size := h.lt g hg
theorem range_block {w w' : World} {g o : Nat} {cs : List Value} (h : w.rangeAt g o cs) (e : w'.heap[g]? = w.heap[g]?) : w'.rangeAt g o cs := fun j v hj => by
  rw [← h j v hj]
  simp only [World.cell?, e]
theorem Rel.add (h : Rel E σ a w) (t : TypeId) (cs : List SC) : Rel E (σ.add w.heap.size t cs) a (w.alloc (.cells (dens cs) t)) := by
  have hlt : ∀ b ∈ σ.blks, b.g < w.heap.size := fun b hb => (h.blks b hb).lt
  have hWs : E.W.heap.size ≤ w.heap.size := h.chg.size
  have hk : ∀ k, k < w.heap.size → (w.alloc (.cells (dens cs) t)).heap[k]? = w.heap[k]? := fun k hk => Below.heap_alloc w _ k hk
  refine ⟨h.tmps, h.size, h.defers, ?_, ?_, ?_, ?_, ?_, h.rapart, ?_, ?_, ?_, h.mem⟩
  · intro b hb
    rcases List.mem_cons.1 hb with rfl | hb
    · exact Blk.new w t (dens cs)
    · exact (h.blks b hb).alloc _
  · refine List.Pairwise.cons (fun b hb => ?_) h.nodup
    have := hlt b hb
    show w.heap.size ≠ b.g
    omega
  · intro b hb
    rcases List.mem_cons.1 hb with rfl | hb
    · exact .inr hWs
    · exact h.own b hb
  · intro r hr
    exact ownsRow_block (h.rows r hr) (fun g hg => hk g (ownsRow_lt (h.rows r hr) hg).2)
  · intro r hr b hb
    rcases List.mem_cons.1 hb with rfl | hb
    · intro e
      have := (ownsRow_lt (h.rows r hr) e).2
      simp at this
    · exact h.apart r hr b hb
  · intro v hv
    obtain ⟨h1, h2, h3⟩ := h.views v hv
    refine ⟨by show _ < (w.alloc _).heap.size; simp; omega, fun hM => ?_, range_block h3 (hk _ h1)⟩
    rcases hM with hM | ⟨b, hb, e⟩ | hM
    · exact h2 (.inl hM)
    · rcases List.mem_cons.1 hb with rfl | hb
      · have : w.heap.size = v.g := e
        omega
      · exact h2 (.inr (.inl ⟨b, hb, e⟩))
    · exact h2 (.inr (.inr hM))
  · exact ⟨h.chg.os, h.chg.tape, h.chg.output, by have := h.chg.size; simp; omega, fun k hk' hA => (hk k (by omega)).trans (h.chg.block k hk' hA)⟩
  · intro s hs
    have hs' := h.snaps s hs
    have hss : s.w.heap.size ≤ w.heap.size := hs'.size
    refine ⟨by show _ ≤ (w.alloc _).heap.size; simp; omega, fun k hk' hm => ?_⟩
    obtain ⟨e, n⟩ := hs'.keep k hk' hm
    refine ⟨(hk k (by omega)).trans e, fun hM => ?_⟩
    rcases hM with hM | ⟨b, hb, rfl⟩ | hM
    · exact n (.inl hM)
    · rcases List.mem_cons.1 hb with rfl | hb
      · have : w.heap.size < s.w.heap.size := hk'
        omega
      · exact n (.inr (.inl ⟨b, hb, rfl⟩))
    · exact n (.inr (.inr hM))
theorem getBl_split {id : Nat} {b : Bl} : ∀ {l : List Bl}, getBl l id = some b → ∃ pre post, l = pre ++ b :: post ∧ ∀ off cs, putBl l id off cs = pre ++ { b with cs := putCs b.cs off cs } :: post
  | [], h => by cases h
  | x :: r, h => by
    unfold getBl at h
    split at h
    · rename_i e
      cases h
      exact ⟨[], r, rfl, fun off cs => by unfold putBl; rw [if_pos e]; rfl⟩
    · rename_i e
      obtain ⟨pre, post, rfl, hp⟩ := getBl_split h
      exact ⟨x :: pre, post, rfl, fun off cs => by unfold putBl; rw [if_neg e, hp]; rfl⟩
theorem putCs_eq : ∀ (l : List SC) (off : Nat) (cs : List SC), off + cs.length ≤ l.length → putCs l off cs = l.take off ++ cs ++ l.drop (off + cs.length)
  | [], off, cs, h => by
    have : cs = [] := List.eq_nil_of_length_eq_zero (by have : off + cs.length ≤ 0 := h; omega)
    subst this; simp [putCs]
  | x :: r, 0, [], h => by simp [putCs]
  | x :: r, 0, c :: cs, h => by
    have ih := putCs_eq r 0 cs (by simp at h ⊢; omega)
    simp only [putCs, ih]
    simp
  | x :: r, o + 1, cs, h => by
    have ih := putCs_eq r o cs (by simp at h; omega)
    simp only [putCs, ih]
    simp [Nat.add_right_comm]
/-- a store into a block of the call's own: the world behind it, and what is known -/
theorem Rel.set (h : Rel E σ a w) {id off : Nat} {cs : List SC} {b : Bl} (hb : getBl σ.blks id = some b) (_hl : off + cs.length ≤ b.cs.length) :
    Rel E (σ.set id off cs) a (w.setRow b.g (dens (putCs b.cs off cs))) := by
  have hbm := getBl_mem hb
  have hB : w.heap[b.g]? = some (.cells (dens b.cs) b.t (0, 0)) := h.blks b hbm
  have hset : (w.setRow b.g (dens (putCs b.cs off cs))).heap[b.g]? = some (.cells (dens (putCs b.cs off cs)) b.t (0, 0)) := setRow_heap w b.g _ _ b.t _ hB
  have hoth : ∀ k, k ≠ b.g → (w.setRow b.g (dens (putCs b.cs off cs))).heap[k]? = w.heap[k]? := fun k hk => by
    simp only [World.setRow, Array.getElem?_modify]
    rw [if_neg (fun e => hk e.symm)]
  have hsz : (w.setRow b.g (dens (putCs b.cs off cs))).heap.size = w.heap.size := by simp [World.setRow]
  obtain ⟨pre, post, hsp, hput⟩ := getBl_split hb
  have hset' : (σ.set id off cs).blks = pre ++ { b with cs := putCs b.cs off cs } :: post := hput off cs
  have hnd := h.nodup
  rw [hsp, List.pairwise_append] at hnd
  obtain ⟨hn1, hn2, hn3⟩ := hnd
  rw [List.pairwise_cons] at hn2
  have hmem : ∀ c, c ∈ (σ.set id off cs).blks → c = { b with cs := putCs b.cs off cs } ∨ (c ∈ σ.blks ∧ c.g ≠ b.g) := by
    intro c hc
    rw [hset'] at hc
    rcases List.mem_append.1 hc with hc | hc
    · exact .inr ⟨by rw [hsp]; exact List.mem_append_left _ hc, hn3 c hc b List.mem_cons_self⟩
    · rcases List.mem_cons.1 hc with rfl | hc
      · exact .inl rfl
      · exact .inr ⟨by rw [hsp]; exact List.mem_append_right _ (List.mem_cons_of_mem _ hc), fun e => hn2.1 c hc e.symm⟩
  have hgm : ∀ c, c ∈ (σ.set id off cs).blks → ∃ d ∈ σ.blks, d.g = c.g := by
    intro c hc
    rcases hmem c hc with rfl | ⟨hc, _⟩
    · exact ⟨b, hbm, rfl⟩
    · exact ⟨c, hc, rfl⟩
  have hM : ∀ k, St.M E (σ.set id off cs) k → St.M E σ k := by
    intro k hk
    rcases hk with hk | ⟨c, hc, rfl⟩ | hk
    · exact .inl hk
    · obtain ⟨d, hd, e⟩ := hgm c hc
      exact .inr (.inl ⟨d, hd, e⟩)
    · exact .inr (.inr hk)
  refine ⟨h.tmps, h.size, h.defers, ?_, ?_, ?_, ?_, ?_, h.rapart, ?_, ?_, ?_, h.mem⟩
  · intro c hc
    rcases hmem c hc with rfl | ⟨hc, hne⟩
    · exact hset
    · exact (hoth _ hne).trans (h.blks c hc)
  · rw [hset', List.pairwise_append, List.pairwise_cons]
    refine ⟨hn1, ⟨fun c hc => hn2.1 c hc, hn2.2⟩, fun c hc d hd => ?_⟩
    rcases List.mem_cons.1 hd with rfl | hd
    · exact hn3 c hc b List.mem_cons_self
    · exact hn3 c hc d (List.mem_cons_of_mem _ hd)
  · intro c hc
    rcases hmem c hc with rfl | ⟨hc, _⟩
    · exact h.own b hbm
    · exact h.own c hc
  · intro r hr
    exact ownsRow_block (h.rows r hr) (fun g hg => hoth g (fun e => h.apart r hr b hbm (by rw [hg, e])))
  · intro r hr c hc
    obtain ⟨d, hd, e⟩ := hgm c hc
    rw [← e]
    exact h.apart r hr d hd
  · intro v hv
    obtain ⟨h1, h2, h3⟩ := h.views v hv
    exact ⟨by rw [hsz]; exact h1, fun q => h2 (hM _ q), range_block h3 (hoth _ (fun e => h2 (.inr (.inl ⟨b, hbm, e.symm⟩))))⟩
  · refine ⟨h.chg.os, h.chg.tape, h.chg.output, by rw [hsz]; exact h.chg.size, fun k hk hA => ?_⟩
    refine (hoth k (fun e => ?_)).trans (h.chg.block k hk hA)
    subst e
    rcases h.own b hbm with q | q
    · exact hA q
    · omega
  · intro s hs
    refine ⟨by show _ ≤ (w.setRow _ _).heap.size; rw [hsz]; exact (h.snaps s hs).size, fun k hk hm => ?_⟩
    obtain ⟨e, n⟩ := (h.snaps s hs).keep k hk hm
    exact ⟨(hoth k (fun q => n (.inr (.inl ⟨b, hbm, q.symm⟩)))).trans e, fun q => n (hM k q)⟩
end
end Go.Proofs.Ytomfladifefomaa
