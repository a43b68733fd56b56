/- Slices that read as lists: each block is known by its element type, so that a store into a block of another type leaves the reading as it is. Names no program. Conditions: as each law states them. -/
import Derived.Test.YtomfladifefomaaLib
import Derived.Deep.AppendLies
import Derived.Deep.Draws
import Derived.Laws.OwnMore
import Derived.Maps.AppendAt
namespace Go.Proofs.Ytomfladifefomaa
open Go.RowKit

/-- every block of cells whose type is let by X stands as it stood -/
def KeepX (X : TypeId → Bool) (w w' : World) : Prop :=
  w.heap.size ≤ w'.heap.size ∧ ∀ (g : Nat) (cur : Array Value) (t : TypeId) (fr : Nat × Nat), w.heap[g]? = some (.cells cur t fr) → X t = true → w'.heap[g]? = some (.cells cur t fr)

theorem KeepX.refl (X : TypeId → Bool) (w : World) : KeepX X w w := ⟨Nat.le_refl _, fun _ _ _ _ h _ => h⟩
theorem KeepX.trans {X : TypeId → Bool} {a b c : World} (h : KeepX X a b) (k : KeepX X b c) : KeepX X a c :=
  ⟨Nat.le_trans h.1 k.1, fun g cur t fr hg hx => k.2 g cur t fr (h.2 g cur t fr hg hx) hx⟩
theorem KeepX.weak {X Y : TypeId → Bool} {w w' : World} (h : KeepX X w w') (hxy : ∀ t, Y t = true → X t = true) : KeepX Y w w' := ⟨h.1, fun g cur t fr hg hy => h.2 g cur t fr hg (hxy t hy)⟩
theorem lt_of_block {w : World} {g : Nat} {o : Obj} (h : w.heap[g]? = some o) : g < w.heap.size := (Array.getElem?_eq_some_iff.1 h).1
theorem KeepX.of_below {X : TypeId → Bool} {w w' : World} (h : Below w.heap.size w w') : KeepX X w w' :=
  ⟨h.size, fun g _ _ _ hg _ => (h.block g (lt_of_block hg)).trans hg⟩
theorem KeepX.alloc {X : TypeId → Bool} {w w' : World} (h : KeepX X w w') (o : Obj) : KeepX X w (w'.alloc o) :=
  h.trans (KeepX.of_below (below_al (Below.refl _ _) o))
theorem KeepX.drew {X : TypeId → Bool} {w w' : World} (h : KeepX X w w') : KeepX X w w'.drew := ⟨h.1, h.2⟩
theorem KeepX.drewN {X : TypeId → Bool} {w w' : World} (h : KeepX X w w') (n : Nat) : KeepX X w (w'.drewN n) := ⟨h.1, h.2⟩
theorem KeepX.below {X : TypeId → Bool} {w w1 w2 : World} (h : KeepX X w w1) (k : Below w1.heap.size w1 w2) : KeepX X w w2 := h.trans (KeepX.of_below k)
theorem KeepX.grown {X : TypeId → Bool} {w w1 w2 : World} {row : Option Nat} (h : KeepX X w w1) (hg : w1.grownBy w2 row)
    (hr : ∀ (g : Nat) (cur : Array Value) (t : TypeId) (fr : Nat × Nat), row = some g → w1.heap[g]? = some (.cells cur t fr) → X t = false) : KeepX X w w2 :=
  h.trans ⟨hg.size, fun g cur t fr hb hx => (hg.block g (lt_of_block hb) (fun e => by rw [hr g cur t fr e.symm hb] at hx; cases hx)).trans hb⟩
theorem KeepX.setCell {X : TypeId → Bool} {w w1 : World} {p : Addr} {cur : Array Value} {t : TypeId} {fr : Nat × Nat} (h : KeepX X w w1)
    (hp : w1.heap[p.block]? = some (.cells cur t fr)) (ht : X t = false) (u : Value) : KeepX X w (w1.setCell p u) :=
  h.trans ⟨by simp [World.setCell], fun g cur' t' fr' hb hx => (Below.heap_setCell w1 p u g (fun e => by
    subst e; rw [hp] at hb; cases hb; rw [ht] at hx; cases hx)).trans hb⟩

/-- v is a slice of n elements, of k cells each, of element type t, that reads as these cells -/
def TSl (w : World) (t k n : Nat) (v : Value) (cells : List Value) : Prop :=
  ∃ A c, v = .slice A n c ∧ n ≤ c ∧ c ≤ maxLen ∧ cells.length = n * k ∧
    (0 < n → ∃ g o cur fr, A = some ⟨g, o, none⟩ ∧ w.heap[g]? = some (.cells cur t fr) ∧ ∀ j u, cells[j]? = some u → cur[o + j]? = some u)

section
variable {w w' : World} {X : TypeId → Bool} {t k n : Nat} {v : Value} {cells : List Value}
theorem TSl.keep (h : TSl w t k n v cells) (hk : KeepX X w w') (hx : X t = true) : TSl w' t k n v cells := by
  obtain ⟨A, c, rfl, h1, h2, h3, h4⟩ := h
  refine ⟨A, c, rfl, h1, h2, h3, fun hn => ?_⟩
  obtain ⟨g, o, cur, fr, rfl, hb, hc⟩ := h4 hn
  exact ⟨g, o, cur, fr, rfl, hk.2 g cur t fr hb hx, hc⟩
theorem TSl.nil (w : World) (t k : Nat) : TSl w t k 0 (.slice none 0 0) [] := ⟨none, 0, rfl, Nat.le_refl _, Nat.zero_le _, by simp, fun h => absurd h (by omega)⟩
theorem cell_of_block {g o : Nat} {cur : Array Value} {fr : Nat × Nat} (h : w.heap[g]? = some (.cells cur t fr)) : w.cell? ⟨g, o, none⟩ = cur[o]? := by
  simp [World.cell?, h]
/-- the address of its first element, and each cell -/
theorem TSl.at_ {A : Option Addr} {c : Nat} (h : TSl w t k n (.slice A n c) cells) (hn : 0 < n) :
    ∃ g o, A = some ⟨g, o, none⟩ ∧ g < w.heap.size ∧ ∀ j u, cells[j]? = some u → w.cell? ⟨g, o + j, none⟩ = some u := by
  obtain ⟨A', c', e, h1, h2, h3, h4⟩ := h
  cases e
  obtain ⟨g, o, cur, fr, rfl, hb, hc⟩ := h4 hn
  exact ⟨g, o, rfl, lt_of_block hb, fun j u hu => (cell_of_block hb).trans (hc j u hu)⟩
theorem TSl.of_own {base : Nat} (h : w.ownsRow base t k v n cells) : TSl w t k n v cells := by
  obtain ⟨h1, h2⟩ := h
  rcases h2 with ⟨rfl, rfl⟩ | ⟨g, cap, cur, rfl, _, hg, hnc, hcm, hcs, htake⟩
  · exact ⟨none, 0, rfl, Nat.le_refl _, Nat.zero_le _, h1, fun h => absurd h (by omega)⟩
  · refine ⟨_, cap, rfl, hnc, hcm, h1, fun _ => ⟨g, 0, cur, (0, 0), rfl, hg, fun j u hu => ?_⟩⟩
    rw [← htake, List.getElem?_take] at hu
    split at hu
    · simpa using hu
    · cases hu
end

/-- a block that is known whole -/
def Blk (w : World) (g : Nat) (t : TypeId) (cs : Array Value) : Prop := w.heap[g]? = some (.cells cs t (0, 0))
section
variable {w w' : World} {g : Nat} {t : TypeId} {cs : Array Value}
theorem Blk.lt (h : Blk w g t cs) : g < w.heap.size := lt_of_block h
theorem Blk.cell (h : Blk w g t cs) (i : Nat) : w.cell? ⟨g, i, none⟩ = cs[i]? := cell_of_row w g i cs t (0, 0) h
theorem Blk.frozen (h : Blk w g t cs) (i : Nat) : w.frozen? ⟨g, i, none⟩ = false := by
  unfold Blk at h
  simp [World.frozen?, h]
theorem Blk.new (w : World) (t : TypeId) (cs : Array Value) : Blk (w.alloc (.cells cs t)) w.heap.size t cs := heap_alloc_new w _
theorem Blk.new_at {w : World} {g : Nat} (hg : w.heap.size = g) (t : TypeId) (cs : Array Value) : Blk (w.alloc (.cells cs t)) g t cs := by subst hg; exact Blk.new w t cs
theorem Blk.drew (h : Blk w g t cs) : Blk w.drew g t cs := h
theorem Blk.drewN (h : Blk w g t cs) (n : Nat) : Blk (w.drewN n) g t cs := h
theorem Blk.alloc (h : Blk w g t cs) (o : Obj) : Blk (w.alloc o) g t cs := (Below.heap_alloc w o g h.lt).trans h
theorem Blk.set_ (h : Blk w g t cs) (i : Nat) (u : Value) : Blk (w.setCell ⟨g, i, none⟩ u) g t (cs.setIfInBounds i u) := by
  unfold Blk at h ⊢
  simp [World.setCell, Array.getElem?_modify, h]
theorem Blk.keep {X : TypeId → Bool} (h : Blk w g t cs) (hk : KeepX X w w') (hx : X t = true) : Blk w' g t cs := hk.2 g cs t _ h hx
theorem Blk.below (h : Blk w g t cs) (hb : Below w.heap.size w w') : Blk w' g t cs := (hb.block g h.lt).trans h
theorem Blk.grown {row : Option Nat} (h : Blk w g t cs) (hb : w.grownBy w' row) (hg : some g ≠ row) : Blk w' g t cs := (hb.block g h.lt hg).trans h
theorem Blk.far (h : Blk w g t cs) {p : Addr} (hp : g ≠ p.block) (u : Value) : Blk (w.setCell p u) g t cs := (Below.heap_setCell w p u g hp).trans h
end
/-- bytes as the cells hold them -/
def enc8 (b : UInt8) : Value := .int .u8 (b.toNat : Int)
def encInt (n : Int) : Value := .int .i64 n
theorem enc8_one (l : List UInt8) : ∀ u ∈ l.map enc8, u.oneCell' = true := by
  intro u hu; obtain ⟨b, _, rfl⟩ := List.mem_map.1 hu; rfl

/-- what stands at each place of a list of cells, part by part -/
theorem flatten_at {k : Nat} : ∀ (css : List (List Value)) (_ : ∀ cs ∈ css, cs.length = k) (i j : Nat) (cs : List Value), css[i]? = some cs → j < k → css.flatten[i * k + j]? = cs[j]?
  | [], _, i, _, cs, h, _ => by simp at h
  | c :: css, hl, 0, j, cs, h, hj => by
    have e : c = cs := by simpa using h
    subst e
    rw [List.flatten_cons, Nat.zero_mul, Nat.zero_add, List.getElem?_append_left (by rw [hl c (by simp)]; exact hj)]
  | c :: css, hl, i + 1, j, cs, h, hj => by
    have hc := hl c (by simp)
    have h' : css[i]? = some cs := by simpa using h
    rw [List.flatten_cons, List.getElem?_append_right (by rw [hc, Nat.succ_mul]; omega), hc, show (i + 1) * k + j - k = i * k + j by rw [Nat.succ_mul]; omega]
    exact flatten_at css (fun cs hm => hl cs (by simp [hm])) i j cs h' hj
theorem flatten_len {k : Nat} : ∀ (css : List (List Value)) (_ : ∀ cs ∈ css, cs.length = k), css.flatten.length = css.length * k
  | [], _ => by simp
  | c :: css, hl => by
    rw [List.flatten_cons, List.length_append, hl c (by simp), flatten_len css (fun cs hm => hl cs (by simp [hm])), List.length_cons, Nat.succ_mul, Nat.add_comm]

/-- cells, an element each, that hold these things in the world -/
def Els {α : Type} (R : World → α → List Value → Prop) (k : Nat) (w : World) (css : List (List Value)) (l : List α) : Prop :=
  css.length = l.length ∧ (∀ cs ∈ css, cs.length = k) ∧ ∀ (i : Nat) (cs : List Value) (x : α), css[i]? = some cs → l[i]? = some x → R w x cs
/-- a slice of such elements -/
def SeqR {α : Type} (R : World → α → List Value → Prop) (t k : Nat) (w : World) (v : Value) (l : List α) : Prop :=
  ∃ css, Els R k w css l ∧ TSl w t k l.length v css.flatten
/-- the same, in a row of the call's own -/
def OwnR {α : Type} (R : World → α → List Value → Prop) (t k base : Nat) (w : World) (v : Value) (l : List α) : Prop :=
  ∃ css, Els R k w css l ∧ w.ownsRow base t k v l.length css.flatten
/-- a reading that stands while the blocks of these types stand -/
def Stays {α : Type} (R : World → α → List Value → Prop) (X : TypeId → Bool) : Prop := ∀ w w' x cs, KeepX X w w' → R w x cs → R w' x cs

/-- two lists of cells, part by part -/
theorem flatten_ext {k : Nat} (css : List (List Value)) (hk : 0 < k) (hl : ∀ cs ∈ css, cs.length = k) (l : List Value) (hlen : l.length = css.length * k)
    (h : ∀ i j cs, css[i]? = some cs → j < k → l[i * k + j]? = cs[j]?) : css.flatten = l := by
  apply List.ext_getElem?
  intro n
  by_cases hn : n < css.length * k
  · have hd : n = (n / k) * k + n % k := by rw [Nat.mul_comm]; exact (Nat.div_add_mod n k).symm
    have hq : n / k < css.length := Nat.div_lt_of_lt_mul (by rw [Nat.mul_comm]; exact hn)
    have hr : n % k < k := Nat.mod_lt _ hk
    have hc : css[n / k]? = some css[n / k] := List.getElem?_eq_getElem hq
    rw [hd, flatten_at css hl _ _ _ hc hr, h _ _ _ hc hr]
  · rw [List.getElem?_eq_none (by rw [flatten_len css hl]; omega), List.getElem?_eq_none (by omega)]
/-- a row of the call's own, one element of which has been written -/
theorem ownsRow_put {w w' : World} {base : Nat} {e : TypeId} {size g n cap k : Nat} {css : List (List Value)} {cs : List Value} {cur cur' : Array Value}
    (h : w.ownsRow base e size (.slice (some ⟨g, 0, none⟩) n cap) n css.flatten) (hs : 0 < size) (hl : ∀ c ∈ css, c.length = size) (hcl : cs.length = size) (hk : k < css.length)
    (hb : w.heap[g]? = some (.cells cur e (0, 0))) (hb' : w'.heap[g]? = some (.cells cur' e (0, 0))) (hsz : cur'.size = cur.size)
    (hin : ∀ j, j < size → cur'[k * size + j]? = cs[j]?) (hout : ∀ i, (i < k * size ∨ k * size + size ≤ i) → cur'[i]? = cur[i]?) :
    w'.ownsRow base e size (.slice (some ⟨g, 0, none⟩) n cap) n (css.set k cs).flatten := by
  obtain ⟨h1, h2⟩ := h
  have hl' : ∀ c ∈ css.set k cs, c.length = size := by
    intro c hc
    rcases List.mem_or_eq_of_mem_set hc with hc | hc
    · exact hl c hc
    · rw [hc]; exact hcl
  have hlen : css.length * size = n * size := by rw [← flatten_len css hl]; exact h1
  rcases h2 with ⟨e1, _⟩ | ⟨g', cap', cur0, e1, hbase, hg, hnc, hcm, hcs, htake⟩
  · cases e1
  · cases e1
    rw [hb] at hg
    cases hg
    refine ⟨by rw [flatten_len _ hl', List.length_set]; exact hlen, .inr ⟨g, cap, cur', rfl, hbase, hb', hnc, hcm, by rw [hsz]; exact hcs, ?_⟩⟩
    have hle : n * size ≤ cap * size := Nat.mul_le_mul_right _ hnc
    symm
    refine flatten_ext _ hs hl' _ (by rw [List.length_take, Array.length_toList, hsz, hcs, List.length_set, Nat.min_eq_left hle, hlen]) (fun i j c hc hj => ?_)
    have hi : i < css.length := by have := (List.getElem?_eq_some_iff.1 hc).1; rwa [List.length_set] at this
    have hij : i * size + j < n * size := by
      rw [← hlen]
      calc i * size + j < i * size + size := by omega
        _ = (i + 1) * size := by rw [Nat.succ_mul]
        _ ≤ css.length * size := Nat.mul_le_mul_right _ hi
    rw [List.getElem?_take_of_lt hij, Array.getElem?_toList]
    by_cases e : i = k
    · subst e
      rw [List.getElem?_set_self hk] at hc
      cases hc
      exact hin j hj
    · rw [List.getElem?_set_ne (fun q => e q.symm)] at hc
      rw [hout _ (by
        rcases Nat.lt_or_gt_of_ne e with q | q
        · left
          calc i * size + j < i * size + size := by omega
            _ = (i + 1) * size := by rw [Nat.succ_mul]
            _ ≤ k * size := Nat.mul_le_mul_right _ q
        · right
          calc k * size + size = (k + 1) * size := by rw [Nat.succ_mul]
            _ ≤ i * size := Nat.mul_le_mul_right _ q
            _ ≤ i * size + j := by omega)]
      have := flatten_at css hl i j c hc hj
      rw [← htake, List.getElem?_take_of_lt hij, Array.getElem?_toList] at this
      exact this
section
variable {α : Type} {R : World → α → List Value → Prop} {X : TypeId → Bool} {t k base : Nat} {w w' : World} {v : Value} {l : List α} {css : List (List Value)}
theorem Els.keep (h : Els R k w css l) (hs : Stays R X) (hk : KeepX X w w') : Els R k w' css l :=
  ⟨h.1, h.2.1, fun i cs x hc hx => hs w w' x cs hk (h.2.2 i cs x hc hx)⟩
theorem Els.nil : Els R k w [] [] := ⟨rfl, by simp, fun i cs x h => by simp at h⟩
theorem Els.snoc (h : Els R k w css l) {cs : List Value} {x : α} (hl : cs.length = k) (hr : R w x cs) : Els R k w (css ++ [cs]) (l ++ [x]) := by
  refine ⟨by simp [h.1], ?_, ?_⟩
  · intro c hc
    rcases List.mem_append.1 hc with hc | hc
    · exact h.2.1 c hc
    · simp at hc; subst hc; exact hl
  · intro i c y hc hy
    by_cases hi : i < css.length
    · rw [List.getElem?_append_left hi] at hc
      rw [List.getElem?_append_left (by rw [← h.1]; exact hi)] at hy
      exact h.2.2 i c y hc hy
    · have hb : i < (css ++ [cs]).length := (List.getElem?_eq_some_iff.1 hc).1
      have e : i = css.length := by simp at hb; omega
      subst e
      rw [List.getElem?_append_right (Nat.le_refl _)] at hc
      rw [List.getElem?_append_right (by rw [h.1]; exact Nat.le_refl _)] at hy
      simp at hc
      rw [h.1] at hy
      simp at hy
      subst hc; subst hy; exact hr
theorem Els.at_ (h : Els R k w css l) {i : Nat} {x : α} (hx : l[i]? = some x) : ∃ cs, css[i]? = some cs ∧ cs.length = k ∧ R w x cs := by
  have hi : i < css.length := by rw [h.1]; exact (List.getElem?_eq_some_iff.1 hx).1
  exact ⟨css[i], List.getElem?_eq_getElem hi, h.2.1 _ (List.getElem_mem hi), h.2.2 i _ x (List.getElem?_eq_getElem hi) hx⟩
theorem SeqR.keep (h : SeqR R t k w v l) (hs : Stays R X) (hx : X t = true) (hk : KeepX X w w') : SeqR R t k w' v l := by
  obtain ⟨css, he, hr⟩ := h
  exact ⟨css, he.keep hs hk, hr.keep hk hx⟩
theorem OwnR.seq (h : OwnR R t k base w v l) : SeqR R t k w v l := by
  obtain ⟨css, he, hr⟩ := h
  exact ⟨css, he, TSl.of_own hr⟩
theorem SeqR.nil : SeqR R t k w (.slice none 0 0) [] := ⟨[], Els.nil, TSl.nil w t k⟩
theorem OwnR.nil : OwnR R t k base w (.slice none 0 0) [] := ⟨[], Els.nil, World.ownsRow_nil w base t k⟩
theorem OwnR.snoc {cs : List Value} {x : α} {v' : Value} (he : Els R k w css l) (hs : Stays R X) (hk : KeepX X w w') (hl : cs.length = k) (hr : R w' x cs)
    (hown : w'.ownsRow base t k v' (l.length + 1) (css.flatten ++ cs)) : OwnR R t k base w' v' (l ++ [x]) :=
  ⟨css ++ [cs], (he.keep hs hk).snoc hl hr, by rw [List.flatten_append]; simpa using hown⟩
theorem ownsRow_keep {e : TypeId} {size n : Nat} {xs : List Value} (h : w.ownsRow base e size v n xs) (hk : KeepX X w w') (hx : X e = true) : w'.ownsRow base e size v n xs := by
  refine ⟨h.1, ?_⟩
  rcases h.2 with h2 | ⟨g, cap, cur, rfl, hb, hg, r⟩
  · exact .inl h2
  · exact .inr ⟨g, cap, cur, rfl, hb, hk.2 g cur e _ hg hx, r⟩
theorem ownsRow_block {e : TypeId} {size n : Nat} {xs : List Value} (h : w.ownsRow base e size v n xs) (hk : ∀ g, v.ownBlock = some g → w'.heap[g]? = w.heap[g]?) : w'.ownsRow base e size v n xs := by
  refine ⟨h.1, ?_⟩
  rcases h.2 with h2 | ⟨g, cap, cur, rfl, hb, hg, r⟩
  · exact .inl h2
  · exact .inr ⟨g, cap, cur, rfl, hb, (hk g rfl).trans hg, r⟩
theorem ownsRow_base {b e : TypeId} {size n : Nat} {xs : List Value} (h : w.ownsRow base e size v n xs) (hb : b ≤ base) : w.ownsRow b e size v n xs := by
  refine ⟨h.1, ?_⟩
  rcases h.2 with h2 | ⟨g, cap, cur, rfl, hb', r⟩
  · exact .inl h2
  · exact .inr ⟨g, cap, cur, rfl, Nat.le_trans hb hb', r⟩
theorem ownsRow_form {e : TypeId} {size n : Nat} {xs : List Value} (h : w.ownsRow base e size v n xs) : ∃ A c, v = .slice A n c ∧ n ≤ c ∧ c ≤ maxLen := by
  rcases h.2 with ⟨rfl, rfl⟩ | ⟨g, cap, cur, rfl, _, _, h1, h2, _⟩
  · exact ⟨none, 0, rfl, Nat.le_refl _, Nat.zero_le _⟩
  · exact ⟨_, cap, rfl, h1, h2⟩
theorem KeepX.grown_own {w1 w2 : World} {e : TypeId} {size n : Nat} {xs : List Value} (h : KeepX X w w1) (hown : w1.ownsRow base e size v n xs) (hg : w1.grownBy w2 v.ownBlock) (hx : X e = false) : KeepX X w w2 := by
  refine h.grown hg (fun g cur t fr hr hb => ?_)
  rcases hown.2 with ⟨rfl, _⟩ | ⟨g', cap, cur', rfl, _, hgg, _⟩
  · simp [Value.ownBlock] at hr
  · simp only [Value.ownBlock, Option.some.injEq] at hr
    subst hr
    rw [hgg] at hb; cases hb; exact hx
theorem below_grown {B : Nat} {a w1 w2 : World} {e : TypeId} {size n : Nat} {xs : List Value} (h : Below B a w1) (hown : w1.ownsRow base e size v n xs) (hg : w1.grownBy w2 v.ownBlock) (hB : B ≤ base) (hB2 : B ≤ w1.heap.size) : Below B a w2 :=
  h.grown hg hB2 (fun k hk => Nat.le_trans hB (hown.lt k hk).1)
theorem OwnR.keep (h : OwnR R t k base w v l) (hs : Stays R X) (hk : KeepX X w w') (hx : X t = true) : OwnR R t k base w' v l := by
  obtain ⟨css, he, hr⟩ := h
  exact ⟨css, he.keep hs hk, ownsRow_keep hr hk hx⟩
theorem OwnR.base_mono {b : Nat} (h : OwnR R t k base w v l) (hb : b ≤ base) : OwnR R t k b w v l := by
  obtain ⟨css, he, hr⟩ := h
  exact ⟨css, he, ownsRow_base hr hb⟩
theorem SeqR.form (h : SeqR R t k w v l) : ∃ A c, v = .slice A l.length c ∧ l.length ≤ c ∧ c ≤ maxLen := by
  obtain ⟨css, _, A, c, rfl, h1, h2, _⟩ := h
  exact ⟨A, c, rfl, h1, h2⟩
/-- the element at a place: where it lies, and its cells -/
theorem SeqR.at_ {A : Option Addr} {n c i : Nat} {x : α} (h : SeqR R t k w (.slice A n c) l) (hx : l[i]? = some x) :
    ∃ g o cs, A = some ⟨g, o, none⟩ ∧ g < w.heap.size ∧ cs.length = k ∧ R w x cs ∧ ∀ j u, cs[j]? = some u → w.cell? ⟨g, o + i * k + j, none⟩ = some u := by
  obtain ⟨css, he, ht⟩ := h
  obtain ⟨cs, hc, hl, hr⟩ := he.at_ hx
  have hi : i < l.length := (List.getElem?_eq_some_iff.1 hx).1
  have hn : n = l.length := by obtain ⟨A', c', e, _⟩ := ht; cases e; rfl
  subst hn
  obtain ⟨g, o, rfl, hg, hcell⟩ := ht.at_ (by omega)
  refine ⟨g, o, cs, rfl, hg, hl, hr, fun j u hu => ?_⟩
  rw [Nat.add_assoc]
  refine hcell _ u ?_
  have hj : j < cs.length := (List.getElem?_eq_some_iff.1 hu).1
  rw [flatten_at css he.2.1 i j cs hc (by omega), hu]
end

theorem TSl.news {w : World} {t k n c : Nat} {a : Addr} {cells : List Value} (h : TSl w t k n (.slice (some a) n c) cells) : ∀ j u, cells[j]? = some u → w.cell? (a.add j) = some u := by
  intro j u hu
  obtain ⟨A, c', e, _, _, h3, h4⟩ := h
  cases e
  by_cases hn : 0 < n
  · obtain ⟨g, o, cur, fr, e, hb, hc⟩ := h4 hn
    cases e
    have hadd : (⟨g, o, none⟩ : Addr).add j = ⟨g, o + j, none⟩ := by unfold Addr.add; split <;> simp_all
    rw [hadd]; exact (cell_of_block hb).trans (hc j u hu)
  · have : n = 0 := by omega
    subst this
    have := List.eq_nil_of_length_eq_zero (by simpa using h3)
    subst this; simp at hu
section
variable {P : Program} (w : World)
theorem run_append_of_nil (base : Nat) (t ty e : TypeId) (i : TypeInfo) (size : Nat) (ht : P.underlying t = some (.slice e)) (hi : P.info? e = some i)
    (v : Value) (n : Nat) (xs : List Value) (hown : w.ownsRow base e size v n xs) (c : Nat) : (Builtin.append_ #[t, t] ty #[v, .slice none 0 c]).run P w = .ok v w := by
  rcases hown.2 with ⟨rfl, rfl⟩ | ⟨g, cap, cur, rfl, _, _, hnc, _⟩
  · simp [Builtin.append_, run_underlying ht, sizeOf, typeInfo, hi, Builtin.lenOf, Builtin.firstCells]
  · simp [Builtin.append_, run_underlying ht, sizeOf, typeInfo, hi, Builtin.lenOf, Builtin.firstCells, hnc, storeCells]
theorem run_append_tsl (base : Nat) (t ty e : TypeId) (i : TypeInfo) (z : Value) (size bytes : Nat) (ht : P.underlying t = some (.slice e)) (hi : P.info? e = some i) (hz : i.zero = some z)
    (hsize : i.size = size) (hby : i.bytes = bytes) (hzs : z.cells.size = size) (hsz : 0 < size)
    (v : Value) (n : Nat) (xs : List Value) (hown : w.ownsRow base e size v n xs)
    (A : Option Addr) (m c : Nat) (news : List Value) (hr : TSl w e size m (.slice A m c) news) (h1 : ∀ u ∈ news, u.oneCell' = true)
    (h63 : n + m ≤ maxLen) (hbytes : (n + m) * bytes ≤ 140737488355328) (hbase : base ≤ w.heap.size) :
    ∃ A' c' w', (Builtin.append_ #[t, t] ty #[v, .slice A m c]).run P w = .ok (.slice A' (n + m) c') w' ∧ w'.ownsRow base e size (.slice A' (n + m) c') (n + m) (xs ++ news) ∧ w.grownBy w' v.ownBlock ∧
      ((Value.slice A' (n + m) c').ownBlock = v.ownBlock ∨ (Value.slice A' (n + m) c').ownBlock = some w.heap.size) := by
  have key : ∃ v' w', (Builtin.append_ #[t, t] ty #[v, .slice A m c]).run P w = .ok v' w' ∧ w'.ownsRow base e size v' (n + m) (xs ++ news) ∧ w.grownBy w' v.ownBlock ∧ (v'.ownBlock = v.ownBlock ∨ v'.ownBlock = some w.heap.size) := by
    cases A with
    | none =>
      have hm : m = 0 := by
        rcases Nat.eq_zero_or_pos m with h0 | h0
        · exact h0
        · obtain ⟨A', c', e, _, _, _, h4⟩ := hr
          cases e
          obtain ⟨g, o, cur, fr, e, _⟩ := h4 h0
          cases e
      subst hm
      have hn : news = [] := List.eq_nil_of_length_eq_zero (by obtain ⟨_, _, _, _, _, h3, _⟩ := hr; simpa using h3)
      subst hn
      exact ⟨v, w, run_append_of_nil w base t ty e i size ht hi v n xs hown c, by simpa using hown, World.grownBy.refl w _, .inl rfl⟩
    | some ad =>
      have hl : news.length = m * size := by obtain ⟨_, _, _, _, _, h3, _⟩ := hr; exact h3
      obtain ⟨v', w', hrun, h2, h3, _, h5⟩ := run_append_own_at (P := P) w base t ty e i z size bytes ht hi hz hsize hby hzs hsz v n xs hown ad m c news hl hr.news h1 h63 hbytes hbase
      exact ⟨v', w', hrun, h2, h3, h5⟩
  obtain ⟨v', w', hrun, h2, h3, h5⟩ := key
  rcases h2.2 with ⟨rfl, hz0⟩ | ⟨g, cap, cur, rfl, _⟩
  · rw [hz0] at *
    exact ⟨none, 0, w', hrun, h2, h3, h5⟩
  · exact ⟨_, cap, w', hrun, h2, h3, h5⟩
theorem wp_append_tsl {o : Oper} {a : Act} {K : Act → World → Prop} {Q : Exit → Act → World → Prop} (s x : Operand) (t : TypeId)
    (ho : o.op = .call { callee := .builtin .append, args := #[s, x], argTypes := #[t, t] })
    (base : Nat) (e : TypeId) (i : TypeInfo) (z : Value) (size bytes : Nat) (ht : P.underlying t = some (.slice e)) (hi : P.info? e = some i) (hz : i.zero = some z)
    (hsize : i.size = size) (hby : i.bytes = bytes) (hzs : z.cells.size = size) (hsz : 0 < size)
    (v : Value) (n : Nat) (xs : List Value) (hs : a.eval s = v) (hown : w.ownsRow base e size v n xs)
    (A : Option Addr) (m c : Nat) (news : List Value) (hx : a.eval x = .slice A m c) (hr : TSl w e size m (.slice A m c) news) (h1 : ∀ u ∈ news, u.oneCell' = true)
    (h63 : n + m ≤ maxLen) (hbytes : (n + m) * bytes ≤ 140737488355328) (hbase : base ≤ w.heap.size)
    (h : ∀ A' c' w', w'.ownsRow base e size (.slice A' (n + m) c') (n + m) (xs ++ news) → w.grownBy w' v.ownBlock → ((Value.slice A' (n + m) c').ownBlock = v.ownBlock ∨ (Value.slice A' (n + m) c').ownBlock = some w.heap.size) → K (a.put o.dst (.slice A' (n + m) c')) w') : o.wp P a w K Q := by
  obtain ⟨A', c', w', hrun, h2, h3, h4⟩ := run_append_tsl (P := P) w base t o.type e i z size bytes ht hi hz hsize hby hzs hsz v n xs hown A m c news hr h1 h63 hbytes hbase
  unfold Oper.wp execOp
  simp only [ho, resolve, invoke, builtin, Sem.run_bind, Sem.run_pure, Result.andThen_ok, List.map_toArray, List.map_cons, List.map_nil, hs, hx, hrun]
  exact h A' c' w' h2 h3 h4
theorem wpList_append_tsl {ops : Array Oper} {rest : List Oper} {o : Oper} {a : Act} {Q : Exit → Act → World → Prop} (hgd : o.guard = none) (s x : Operand) (t : TypeId)
    (ho : o.op = .call { callee := .builtin .append, args := #[s, x], argTypes := #[t, t] })
    (base : Nat) (e : TypeId) (i : TypeInfo) (z : Value) (size bytes : Nat) (ht : P.underlying t = some (.slice e)) (hi : P.info? e = some i) (hz : i.zero = some z)
    (hsize : i.size = size) (hby : i.bytes = bytes) (hzs : z.cells.size = size) (hsz : 0 < size)
    (v : Value) (n : Nat) (xs : List Value) (hs : a.eval s = v) (hown : w.ownsRow base e size v n xs)
    (A : Option Addr) (m c : Nat) (news : List Value) (hx : a.eval x = .slice A m c) (hr : TSl w e size m (.slice A m c) news) (h1 : ∀ u ∈ news, u.oneCell' = true)
    (h63 : n + m ≤ maxLen) (hbytes : (n + m) * bytes ≤ 140737488355328) (hbase : base ≤ w.heap.size)
    (h : ∀ A' c' w', w'.ownsRow base e size (.slice A' (n + m) c') (n + m) (xs ++ news) → w.grownBy w' v.ownBlock → ((Value.slice A' (n + m) c').ownBlock = v.ownBlock ∨ (Value.slice A' (n + m) c').ownBlock = some w.heap.size) → wpList P ops Q rest (a.put o.dst (.slice A' (n + m) c')) w') : wpList P ops Q (o :: rest) a w :=
  wpList_plain hgd fun _ hK => wp_append_tsl w s x t ho base e i z size bytes ht hi hz hsize hby hzs hsz v n xs hs hown A m c news hx hr h1 h63 hbytes hbase fun A' c' w' h2 h3 h4 => hK _ _ (h A' c' w' h2 h3 h4)
theorem step_append_tsl {ops : Array Oper} {o : Oper} {a : Act} {K : Act → World → Prop} {Q : Exit → Act → World → Prop} {E : Prop} (hgd : o.guard = none) (s x : Operand) (t : TypeId)
    (ho : o.op = .call { callee := .builtin .append, args := #[s, x], argTypes := #[t, t] })
    (base : Nat) (e : TypeId) (i : TypeInfo) (z : Value) (size bytes : Nat) (ht : P.underlying t = some (.slice e)) (hi : P.info? e = some i) (hz : i.zero = some z)
    (hsize : i.size = size) (hby : i.bytes = bytes) (hzs : z.cells.size = size) (hsz : 0 < size)
    (v : Value) (n : Nat) (xs : List Value) (hs : a.eval s = v) (hown : w.ownsRow base e size v n xs)
    (A : Option Addr) (m c : Nat) (news : List Value) (hx : a.eval x = .slice A m c) (hr : TSl w e size m (.slice A m c) news) (h1 : ∀ u ∈ news, u.oneCell' = true)
    (h63 : n + m ≤ maxLen) (hbytes : (n + m) * bytes ≤ 140737488355328) (hbase : base ≤ w.heap.size)
    (h : ∀ A' c' w', w'.ownsRow base e size (.slice A' (n + m) c') (n + m) (xs ++ news) → w.grownBy w' v.ownBlock → ((Value.slice A' (n + m) c').ownBlock = v.ownBlock ∨ (Value.slice A' (n + m) c').ownBlock = some w.heap.size) → K (a.put o.dst (.slice A' (n + m) c')) w') :
    if Region.wanted o (yielded ops a.tmps) = true then Oper.wp P o a w K Q else E := by
  have hw : Region.wanted o (yielded ops a.tmps) = true := by simp [Region.wanted, hgd]
  rw [if_pos hw]
  exact wp_append_tsl w s x t ho base e i z size bytes ht hi hz hsize hby hzs hsz v n xs hs hown A m c news hx hr h1 h63 hbytes hbase h
end
end Go.Proofs.Ytomfladifefomaa
