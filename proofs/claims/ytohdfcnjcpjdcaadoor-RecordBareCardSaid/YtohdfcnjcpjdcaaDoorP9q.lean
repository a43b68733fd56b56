/- Rows of the call's own as blocks of elements that are changed in place. Names no program. Conditions: as each law states them. -/
import Derived.Test.YtohdfcnjcpjdcaaDoorP8q
namespace Go.Proofs.YtohdfcnjcpjdcaaDoor
open Go.RowKit
set_option linter.unusedSimpArgs false
theorem drop_at {α : Type} {l : List α} {i : Nat} {x : α} (h : l[i]? = some x) : l.drop i = x :: l.drop (i + 1) := by
  have hlt := (List.getElem?_eq_some_iff.1 h).1
  rw [List.drop_eq_getElem_cons hlt]
  congr 1
  rw [List.getElem?_eq_getElem hlt] at h
  exact Option.some.inj h
def Chunks (k : Nat) (css : List (List Value)) : Prop := ∀ c ∈ css, c.length = k
theorem Chunks.len {k : Nat} {css : List (List Value)} (h : Chunks k css) : css.flatten.length = css.length * k := flatten_len css h
theorem Chunks.app {k : Nat} {a b : List (List Value)} (h1 : Chunks k a) (h2 : Chunks k b) : Chunks k (a ++ b) := fun c hc => (List.mem_append.1 hc).elim (h1 c) (h2 c)
theorem Chunks.take {k : Nat} {a : List (List Value)} (h : Chunks k a) (m : Nat) : Chunks k (a.take m) := fun c hc => h c (List.mem_of_mem_take hc)
theorem Chunks.drop {k : Nat} {a : List (List Value)} (h : Chunks k a) (m : Nat) : Chunks k (a.drop m) := fun c hc => h c (List.mem_of_mem_drop hc)
theorem chunks_map {α : Type} {f : α → List Value} {k : Nat} (hk : ∀ x, (f x).length = k) (l : List α) : Chunks k (l.map f) := fun c hc => by
  obtain ⟨x, _, rfl⟩ := List.mem_map.1 hc
  exact hk x
theorem flatten_drop {k : Nat} : ∀ (css : List (List Value)) (_ : Chunks k css) (m : Nat), css.flatten.drop (m * k) = (css.drop m).flatten
  | [], _, m => by simp
  | c :: css, h, 0 => by simp
  | c :: css, h, m + 1 => by
    have hc : c.length = k := h c List.mem_cons_self
    rw [List.flatten_cons, List.drop_succ_cons, Nat.succ_mul, List.drop_append, List.drop_of_length_le (by omega), List.nil_append, show m * k + k - c.length = m * k from by omega]
    exact flatten_drop css (fun cs hcs => h cs (List.mem_cons_of_mem _ hcs)) m
/-- the cells of an element -/
theorem chunk_get {k : Nat} {css : List (List Value)} (h : Chunks k css) {m : Nat} {c : List Value} (hm : css[m]? = some c) : ((css.flatten.map SC.v).drop (m * k)).take k = c.map SC.v := by
  have hlt := (List.getElem?_eq_some_iff.1 hm).1
  rw [← List.map_drop, flatten_drop css h, List.drop_eq_getElem_cons hlt, List.flatten_cons, ← List.map_take]
  have e : css[m] = c := by rw [List.getElem?_eq_getElem hlt] at hm; exact Option.some.inj hm
  rw [e, List.take_append, List.take_of_length_le (by rw [h c (List.mem_of_getElem? hm)]; exact Nat.le_refl _), h c (List.mem_of_getElem? hm), Nat.sub_self, List.take_zero, List.append_nil]
/-- elements put over others -/
theorem chunk_put {k : Nat} {css ds : List (List Value)} (h : Chunks k css) (hd : Chunks k ds) {m : Nat} (hm : m + ds.length ≤ css.length) :
    putCs (css.flatten.map SC.v) (m * k) (ds.flatten.map SC.v) = (css.take m ++ ds ++ css.drop (m + ds.length)).flatten.map SC.v := by
  have h1 : m * k + ds.length * k ≤ css.length * k := by rw [← Nat.add_mul]; exact Nat.mul_le_mul_right k hm
  rw [putCs_eq _ _ _ (by rw [List.length_map, List.length_map, h.len, hd.len]; exact h1), List.length_map, hd.len, ← Nat.add_mul, ← List.map_take, ← List.map_drop, flatten_take css h, flatten_drop css h]
  simp
theorem set_chunk {α : Type} {f : α → List Value} {l : List α} {tl : List (List Value)} {i : Nat} {x : α} (hi : i < l.length) : (l.map f ++ tl).take i ++ [f x] ++ (l.map f ++ tl).drop (i + 1) = (l.set i x).map f ++ tl := by
  rw [List.append_assoc, List.map_set, ← List.set_append_left _ _ (by simpa using hi), List.set_eq_take_append_cons_drop, if_pos (by simp; omega)]
  rfl
/-- one element put over another -/
theorem chunk_set {α : Type} {f : α → List Value} {k : Nat} {l : List α} {tl : List (List Value)} {i : Nat} {x : α} (hf : ∀ x, (f x).length = k) (ht : Chunks k tl) (hi : i < l.length) :
    putCs ((l.map f ++ tl).flatten.map SC.v) (i * k) ((f x).map SC.v) = ((l.set i x).map f ++ tl).flatten.map SC.v := by
  have h := chunk_put (css := l.map f ++ tl) (ds := [f x]) ((chunks_map hf l).app ht) (fun c hc => by rw [List.mem_singleton.1 hc]; exact hf x) (m := i) (by simp; omega)
  rw [List.flatten_cons, List.flatten_nil, List.append_nil] at h
  rw [h, ← set_chunk hi]
  rfl
theorem den_flat (l : List Value) : (l.map SC.v).map SC.den = l := by simp [SC.den, Function.comp_def]
/-- the elements behind one that is dropped come a place forward -/
theorem chunk_shift {α : Type} {f : α → List Value} {k : Nat} {l : List α} {tl : List (List Value)} {i : Nat} (hf : ∀ x, (f x).length = k) (ht : Chunks k tl) (hi : i < l.length) :
    ∃ c, c.length = k ∧ putCs ((l.map f ++ tl).flatten.map SC.v) (i * k) (((l.drop (i + 1)).flatMap f).map SC.v) = ((l.eraseIdx i).map f ++ (c :: tl)).flatten.map SC.v := by
  have hc := (chunks_map hf l).app ht
  have hx : (l.map f ++ tl)[l.length - 1]? = some (f l[l.length - 1]) := by
    rw [List.getElem?_append_left (by rw [List.length_map]; omega), List.getElem?_map, List.getElem?_eq_getElem (by omega)]
    rfl
  refine ⟨f l[l.length - 1], hf _, ?_⟩
  rw [List.flatMap_def, chunk_put hc (chunks_map hf (l.drop (i + 1))) (m := i) (by rw [List.length_map, List.length_drop, List.length_append, List.length_map]; omega)]
  congr 2
  rw [List.length_map, List.length_drop, show i + (l.length - (i + 1)) = l.length - 1 from by omega, drop_at hx, show l.length - 1 + 1 = (l.map f).length from by rw [List.length_map]; omega, List.drop_left, List.take_append_of_le_length (by rw [List.length_map]; omega), ← List.map_take, ← List.map_append, List.eraseIdx_eq_take_drop_succ]
/-- the elements behind a place, read from the block -/
theorem chunk_tail {α : Type} {f : α → List Value} {k : Nat} {w : World} {id g t i m c : Nat} {ad : Addr} {l : List α} {tl : List (List Value)} (hf : ∀ x, (f x).length = k) (ht : Chunks k tl) (hb : Blk w g t (dens ((l.map f ++ tl).flatten.map SC.v))) (hm : i + m = l.length) (had : m = 0 ∨ ad = ⟨g, i * k, none⟩) (h : m ≤ c) (hc : c ≤ maxLen) :
    TSl w t k m (.slice (some ad) m c) ((l.drop i).flatMap f) := by
  have hch := (chunks_map hf l).app ht
  rcases had with rfl | rfl
  · have : l.drop i = [] := List.drop_of_length_le (by omega)
    rw [this]
    exact ⟨_, c, rfl, h, hc, by simp, fun q => absurd q (by omega)⟩
  · have h1 : (i + m) * k ≤ ((l.map f ++ tl).flatten.map SC.v).length := by
      rw [List.length_map, hch.len, List.length_append, List.length_map]
      exact Nat.mul_le_mul_right k (by omega)
    have h2 := tsl_own (b := ⟨id, g, t, (l.map f ++ tl).flatten.map SC.v⟩) hb k (i * k) m c (by show i * k + m * k ≤ _; rw [← Nat.add_mul]; exact h1) h hc
    simp only [den_flat] at h2
    rw [flatten_drop _ hch, flatten_take _ (hch.drop i)] at h2
    have e : ((l.map f ++ tl).drop i).take m = (l.drop i).map f := by
      rw [List.drop_append_of_le_length (by rw [List.length_map]; omega), ← List.map_drop, List.take_left' (by rw [List.length_map, List.length_drop]; omega)]
    rw [e] at h2
    rw [List.flatMap_def]
    exact h2
theorem exists_chunks {k : Nat} (h0 : 0 < k) : ∀ (cap : Nat) (cur : List Value), cur.length = cap * k → ∃ css, css.length = cap ∧ Chunks k css ∧ css.flatten = cur
  | 0, cur, h => ⟨[], rfl, fun c hc => (by cases hc), by have : cur = [] := List.eq_nil_of_length_eq_zero (by omega); rw [this]; rfl⟩
  | cap + 1, cur, h => by
    rw [Nat.succ_mul] at h
    obtain ⟨css, h1, h2, h3⟩ := exists_chunks h0 cap (cur.drop k) (by rw [List.length_drop]; omega)
    refine ⟨cur.take k :: css, by simp [h1], fun c hc => ?_, by rw [List.flatten_cons, h3, List.take_append_drop]⟩
    rcases List.mem_cons.1 hc with rfl | hc
    · rw [List.length_take]; omega
    · exact h2 c hc
theorem flatten_inj {k : Nat} (h0 : 0 < k) : ∀ (a b : List (List Value)), Chunks k a → Chunks k b → a.flatten = b.flatten → a = b
  | [], [], _, _, _ => rfl
  | [], c :: b, _, h2, e => by
    have := h2 c List.mem_cons_self
    have e2 := congrArg List.length e
    simp only [List.flatten_nil, List.length_nil, List.flatten_cons, List.length_append] at e2
    omega
  | c :: a, [], h1, _, e => by
    have := h1 c List.mem_cons_self
    have e2 := congrArg List.length e
    simp only [List.flatten_nil, List.length_nil, List.flatten_cons, List.length_append] at e2
    omega
  | c :: a, d :: b, h1, h2, e => by
    have hc := h1 c List.mem_cons_self
    have hd := h2 d List.mem_cons_self
    rw [List.flatten_cons, List.flatten_cons] at e
    obtain ⟨e1, e2⟩ := List.append_inj e (by omega)
    rw [e1, flatten_inj h0 a b (fun x hx => h1 x (List.mem_cons_of_mem _ hx)) (fun x hx => h2 x (List.mem_cons_of_mem _ hx)) e2]
section
variable {E : Env} {σ : St} {α : Type}
/-- a row that is not empty, as a block of elements with room behind them -/
theorem rowChunk_ok {Φ : Act → World → Prop} {R1 R2 : List Rw} {v : Value} {t k n : Nat} {f : α → List Value} {l : List α} (hR : σ.rows = R1 ++ ⟨v, t, k, n, l.flatMap f⟩ :: R2) (hf : ∀ x, (f x).length = k) (h0 : 0 < k) (hn : 0 < n) (hl : n = l.length)
    (h : ∀ (g : Nat) (tl : List (List Value)), v = .slice (some ⟨g, 0, none⟩) n (n + tl.length) → n + tl.length ≤ maxLen → Chunks k tl → Ok E { σ with rows := R1 ++ R2, blks := ⟨σ.next, g, t, (l.map f ++ tl).flatten.map .v⟩ :: σ.blks, next := σ.next + 1 } Φ) : Ok E σ Φ := by
  refine rowBlk_ok hR hn (fun g cap cur hv hcap hmax hlen htk => ?_) (by show k ≠ 0; omega)
  obtain ⟨css, h1, h2, h3⟩ := exists_chunks h0 cap cur hlen
  have h4 : (css.take n).flatten = (l.map f).flatten := by
    rw [← flatten_take css h2, h3, ← List.flatMap_def]
    exact htk
  have h5 := flatten_inj h0 _ _ (h2.take n) (chunks_map hf l) h4
  have hcap' : n ≤ cap := hcap
  have h6 : n + (css.drop n).length = cap := by rw [List.length_drop]; omega
  have h7 := h g (css.drop n) (by rw [h6]; exact hv) (by rw [h6]; exact hmax) (h2.drop n)
  rw [← h5, List.take_append_drop, h3] at h7
  exact h7
/-- and back -/
theorem chunkRow_ok {Φ : Act → World → Prop} {B1 B2 : List Bl} {id g t : Nat} (k n : Nat) (f : α → List Value) (l : List α) (tl : List (List Value)) (hB : σ.blks = B1 ++ ⟨id, g, t, (l.map f ++ tl).flatten.map .v⟩ :: B2) (hf : ∀ x, (f x).length = k) (ht : Chunks k tl) (hl : n = l.length) (hm : n + tl.length ≤ maxLen)
    (h : Ok E { σ with blks := B1 ++ B2, rows := ⟨.slice (some ⟨g, 0, none⟩) n (n + tl.length), t, k, n, l.flatMap f⟩ :: σ.rows } Φ) : Ok E σ Φ := by
  have hc := (chunks_map hf l).app ht
  refine blkRowN_ok hB k n (n + tl.length) (by show ((l.map f ++ tl).flatten.map SC.v).length = _; rw [List.length_map, hc.len, List.length_append, List.length_map, hl]) (Nat.le_add_right _ _) hm ?_
  have e : (((l.map f ++ tl).flatten.map SC.v).map SC.den).take (n * k) = l.flatMap f := by
    have e1 : (((l.map f ++ tl).flatten.map SC.v).map SC.den) = (l.map f ++ tl).flatten := by simp [SC.den, Function.comp_def]
    rw [e1, flatten_take _ hc, List.take_left' (by simp [hl]), List.flatMap_def]
  show Ok E { σ with blks := B1 ++ B2, rows := ⟨.slice (some ⟨g, 0, none⟩) n (n + tl.length), t, k, n, (((l.map f ++ tl).flatten.map SC.v).map SC.den).take (n * k)⟩ :: σ.rows } Φ
  rw [e]
  exact h
end
section
variable {P : Program} {E : Env} {σ : St} {o : Oper}
theorem take_cutA {rec_ : Cmd → St → Prop} {dr : Dr} {q : Nat} {p : Plan} {t e k : Nat} {A A' : Option Addr} {x : Operand} {lo hi mx : Option Operand} {n c : Nat} (l n' c' : Nat) (hA : (if l + c' = l then A else A.map (·.add (l * k))) = A') (ho : o.op = .slice t x lo hi mx) (ht : tSlice P t = some e) (hk : tSize P e = some k)
    (hx : ev σ x = some (.c (.v (.slice A n c)))) (hlo : cutArg σ lo 0 l) (hhi : cutArg σ hi n (l + n')) (hmx : cutArg σ mx c (l + c')) (hmh : mx.isSome = true → hi.isSome = true) (hd : dOk E o.dst) (h2 : n' ≤ c') (h3 : l + c' ≤ c)
    (h : rec_ (dr.next q p) (σ.put o.dst (.c (.v (.slice A' n' c'))))) : TakeStop P E rec_ dr q p o σ := by
  subst hA
  refine ⟨.c (.v (.slice (if l + c' = l then A else A.map (·.add (l * k))) n' c')), hd, fun a w hr => ?_, h⟩
  obtain ⟨inf, hinf, hsz⟩ := tSize_spec hk
  have hx' : a.eval x = .slice A n c := ev_den hr hx
  have arg : ∀ (y : Option Operand) (d r : Nat), cutArg σ y d r → (y.map a.eval = none ∧ r = d) ∨ ∃ kk, y.map a.eval = some (.int kk (r : Int)) := by
    intro y d r h
    cases y with
    | none => exact .inl ⟨rfl, h⟩
    | some y =>
      obtain ⟨kk, j, hy, rfl⟩ := h
      exact .inr ⟨kk, congrArg some (ev_den hr hy)⟩
  have := run_cut (tSlice_spec ht) hinf w A n c l n' c' _ _ _ (run_bounds w n c l (l + n') (l + c') _ _ _ (arg lo 0 l hlo) (arg hi n (l + n') hhi) (arg mx c (l + c') hmx) (by simpa using hmh) (by omega) (by omega) h3)
  rw [hsz] at this
  show (execOp a.eval o).run P w = .ok (.value (.slice (if l + c' = l then A else A.map (·.add (l * k))) n' c')) w
  unfold execOp
  simp only [ho, hx', Sem.run_bind, this, Result.andThen_ok, Sem.run_pure]
end
theorem RetH.fresh {P : Program} {f : FuncId} {args : Array Value} {G : GW} {T : Value → List (List Value) → List Rw → GW → Prop} (N : Nat) (hN : N ≤ G.w.heap.size) (h : Calls P f args G.w (RetH G ⟨[], []⟩ T)) :
    Calls P f args G.w (RetH G ⟨[], []⟩ fun v css R G' => T v css R G' ∧ ∀ r ∈ R, ∀ k, rb r.v = some k → N ≤ k) :=
  Calls.mono h fun _ _ ⟨v, css, R, he, hl, hr, ha, hT, hg⟩ => ⟨v, css, R, he, hl, hr, ha, ⟨hT, fun r hr' k e => by
    rcases (hr r hr').2 k e with ⟨q, hq, _⟩ | h
    · cases hq
    · omega⟩, hg⟩
theorem RetH.anyM {P : Program} {f : FuncId} {args : Array Value} {w : World} {M M' : Nat → Prop} {h : Hands} {T : Value → List (List Value) → List Rw → Prop} (hc : Calls P f args w (RetH ⟨M', w⟩ h fun v css R _ => T v css R)) : Calls P f args w (RetH ⟨M, w⟩ h fun v css R _ => T v css R) := Calls.mono hc fun _ _ h => h
end Go.Proofs.YtohdfcnjcpjdcaaDoor
