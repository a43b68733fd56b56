/- Symbolic execution, part 1: readings, memory, states, one operation. Names no program. Conditions: as each law states them. -/
import Derived.WalkKit
import Derived.WalkLawsBesides
import Derived.WalkSpells
import Derived.ProofKit
import Derived.OpenShut
import Derived.Lib.Hide
import Derived.Laws.MakeOwn
import Derived.Deep.AppendLies
import Derived.Deep.Draws
import Derived.Laws.OwnMore
import Derived.Maps.AppendAt
import Derived.Laws.CopyRow
import Derived.Deep.MidRow
import Derived.IntWalk
-- Lib: Small laws that name no program: integers that come in, 'make', endings, the last step of a law's row behind 'Below'. Conditions: as each states them.
namespace Go.Proofs.Ytomfladifefomaa
open Go.RowKit

theorem i64_bd {a : Int} (h : (Lit.int .i64 a).wf = true) : -9223372036854775808 ≤ a ∧ a ≤ 9223372036854775807 := by
  have h' : decide (-(2 : Int) ^ 63 ≤ a) = true ∧ decide (a ≤ (2 : Int) ^ 63 - 1) = true := by simpa [Lit.wf, IntKind.signed, IntKind.bits, IntKind.min] using h
  have h1 := of_decide_eq_true h'.1
  have h2 := of_decide_eq_true h'.2
  exact ⟨by simpa using h1, by simpa using h2⟩

theorem ret_i64 {a b : Int} (h : a = b) : Ending.returned (.int .i64 a) = .returned (.int .i64 b) := by rw [h]

/-- the number that a raw number picks, of so many -/
def pick (n m : Int) : Int := (if n < 0 then -(n + 1) else n) % m
theorem pick_bd (n m : Int) (hm : 0 < m) : 0 ≤ pick n m ∧ pick n m < m := by
  unfold pick; exact ⟨Int.emod_nonneg _ (by omega), Int.emod_lt_of_pos _ hm⟩
theorem pick_neg (n m : Int) (h : n < 0) : -(n + 1).tmod m = pick n m := by
  unfold pick; rw [if_pos h, ← Int.neg_tmod, Int.tmod_eq_emod_of_nonneg (by omega)]
theorem pick_pos (n m : Int) (h : ¬ n < 0) : n % m = pick n m := by
  unfold pick; rw [if_neg h]

theorem run_make_rowN {P : Program} (t e : TypeId) (i : TypeInfo) (z : Value) (ht : P.underlying t = some (.slice e)) (hi : P.info? e = some i) (hz : i.zero = some z)
    (kl kc : IntKind) (n c : Nat) (hnc : n ≤ c) (hbytes : i.bytes * c ≤ 281474976710656) (h63 : c ≤ 9223372036854775807) (w : World) :
    (Instr.makeSlice t (.int kl (n : Int)) (.int kc (c : Int))).run P w = .ok (.slice (some ⟨w.heap.size, 0, none⟩) n c) (w.alloc (.cells (madeCells z.cells (c * i.size)) e)) := by
  have hb : (i.bytes : Int) * (c : Int) ≤ 281474976710656 := by
    have h : ((i.bytes * c : Nat) : Int) ≤ 281474976710656 := by omega
    rwa [Int.natCast_mul] at h
  have hr := run_make (P := P) w t e i z ht hi hz kl kc n c (by omega) (by omega) hb (by omega)
  simp only [Int.toNat_natCast] at hr
  exact hr

theorem below_al {a w : World} (h : Below a.heap.size a w) (o : Obj) : Below a.heap.size a (w.alloc o) := h.alloc h.size o
theorem below_tr {a w w1 : World} (h : Below a.heap.size a w) (k : Below w.heap.size w w1) : Below a.heap.size a w1 := h.trans (k.mono h.size)
/-- what lay there reads as it did, behind a call that only lays blocks -/
theorem bcell {W w1 : World} (hb : Below W.heap.size W w1) : (∀ b o, b < W.heap.size → w1.cell? ⟨b, o, none⟩ = W.cell? ⟨b, o, none⟩) ∧ (∀ b o, b < W.heap.size → w1.frozen? ⟨b, o, none⟩ = W.frozen? ⟨b, o, none⟩) ∧ W.heap.size ≤ w1.heap.size ∧ Hid (Below W.heap.size W w1) :=
  ⟨fun b o h => hb.cell (p := ⟨b, o, none⟩) h, fun b o h => hb.frozen (p := ⟨b, o, none⟩) h, hb.size, hb⟩
theorem below_drN {B : Nat} {a w : World} (h : Below B a w) (n : Nat) : Below B a (w.drewN n) := ⟨h.os, h.tape, h.output, h.size, h.block⟩

section
open Go.WideShapes Go.ChangeShapes
variable {H : Type} {enc : TypeId × Value → H} {P : Program}
theorem post_of_below {f : Func} {s : ChangeSpec} {apart fresh handsOn again : Bool} {W W' : World} {args : Array Value} {v : Value} {ds gs : List (DataW H)} {before pa pv : List MemPlace}
    (hW : DataW.Whole enc P f.params.toList s.vars apart W args.toList ds gs before)
    (hres : ∀ (b : Nat) (sp : Nat → Bool) (hd : Bool), DataW.TrodAll enc P W' b sp hd f.resultTypes.toList (v.resultList f.resultTypes.size) (s.fn H (ds ++ gs)).results [])
    (hargs : ∀ sp : Nat → Bool, (∀ p ∈ before, sp p.block = true) → DataW.TrodAll enc P W' 0 sp true f.params.toList args.toList (s.fn H (ds ++ gs)).args pa)
    (hvars : ∀ sp : Nat → Bool, (∀ p ∈ before, sp p.block = true) → DataW.TrodVars enc P W' sp s.vars (s.fn H (ds ++ gs)).vars pv)
    (hps : before = pa ++ pv) (hb : Below W.heap.size W W')
    (hok : ∀ (j : Nat) (t : TypeId) (r : Value), f.resultTypes[j]? = some t → (v.resultList f.resultTypes.size)[j]? = some r → Value.okWide P W' .any 0 t r) :
    s.post enc P f apart fresh handsOn again W args v W' := by
  have hlt : ∀ p ∈ before, p.block < W.heap.size := fun p hp => hW.lt p hp
  have hold : ∀ p ∈ before, (fun b => decide (b < W.heap.size)) p.block = true := fun p hp => by simpa using hlt p hp
  refine ⟨ds, gs, before, [], pa, pv, hW, hres _ _ _, hargs _ hold, hvars _ hold, World.keptBut_mono (fun p hp => ⟨hp, ?_⟩) (hb.frame (· ∈ before)), fun _ => ?_⟩
  · rw [hps, List.mem_append] at hp
    exact Or.inr hp
  · obtain ⟨_, _, _, _, _, hz, hn⟩ := hW
    refine ⟨hok, _, _, ([] ++ pa) ++ pv, ⟨[] ++ pa, pv, trodAll_append (hargs _ (fun _ _ => rfl)) (hres _ _ _), hvars _ (fun _ _ => rfl), rfl, ?_, ?_⟩, ?_⟩
    · intro b off hp
      have hin : MemPlace.cell b off ∈ before := by rw [hps]; simpa using hp
      rw [hb.frozen (hlt _ hin)]
      exact hz b off hin
    · intro ha
      have := hn ha
      rw [hps] at this
      simpa using this
    · intro p hp _
      rw [hps]
      simpa using hp
end
end Go.Proofs.Ytomfladifefomaa
-- Mem: Slices that read as lists: each block is known by its element type, so that a store into a block of another type leaves the reading as it is. Names no program. Conditions: as each law states them.
namespace Go.Proofs.Ytomfladifefomaa
open Go.RowKit

/-- every block of cells whose type is let by X stands as it stood -/
def KeepX (X : TypeId → Bool) (w w' : World) : Prop :=
  w.heap.size ≤ w'.heap.size ∧ ∀ (g : Nat) (cur : Array Value) (t : TypeId) (fr : Nat × Nat), w.heap[g]? = some (.cells cur t fr) → X t = true → w'.heap[g]? = some (.cells cur t fr)

theorem KeepX.refl (X : TypeId → Bool) (w : World) : KeepX X w w := ⟨Nat.le_refl _, fun _ _ _ _ h _ => h⟩
theorem KeepX.trans {X : TypeId → Bool} {a b c : World} (h : KeepX X a b) (k : KeepX X b c) : KeepX X a c :=
  ⟨Nat.le_trans h.1 k.1, fun g cur t fr hg hx => k.2 g cur t fr (h.2 g cur t fr hg hx) hx⟩
theorem KeepX.weak {X Y : TypeId → Bool} {w w' : World} (h : KeepX X w w') (hxy : ∀ t, Y t = true → X t = true) : KeepX Y w w' := ⟨h.1, fun g cur t fr hg hy => h.2 g cur t fr hg (hxy t hy)⟩
theorem lt_of_block {w : World} {g : Nat} {o : Obj} (h : w.heap[g]? = some o) : g < w.heap.size := (Array.getElem?_eq_some_iff.1 h).1
theorem KeepX.of_below {X : TypeId → Bool} {w w' : World} (h : Below w.heap.size w w') : KeepX X w w' :=
  ⟨h.size, fun g _ _ _ hg _ => (h.block g (lt_of_block hg)).trans hg⟩
theorem KeepX.alloc {X : TypeId → Bool} {w w' : World} (h : KeepX X w w') (o : Obj) : KeepX X w (w'.alloc o) :=
  h.trans (KeepX.of_below (below_al (Below.refl _ _) o))
theorem KeepX.drew {X : TypeId → Bool} {w w' : World} (h : KeepX X w w') : KeepX X w w'.drew := ⟨h.1, h.2⟩
theorem KeepX.drewN {X : TypeId → Bool} {w w' : World} (h : KeepX X w w') (n : Nat) : KeepX X w (w'.drewN n) := ⟨h.1, h.2⟩
theorem KeepX.below {X : TypeId → Bool} {w w1 w2 : World} (h : KeepX X w w1) (k : Below w1.heap.size w1 w2) : KeepX X w w2 := h.trans (KeepX.of_below k)
theorem KeepX.grown {X : TypeId → Bool} {w w1 w2 : World} {row : Option Nat} (h : KeepX X w w1) (hg : w1.grownBy w2 row)
    (hr : ∀ (g : Nat) (cur : Array Value) (t : TypeId) (fr : Nat × Nat), row = some g → w1.heap[g]? = some (.cells cur t fr) → X t = false) : KeepX X w w2 :=
  h.trans ⟨hg.size, fun g cur t fr hb hx => (hg.block g (lt_of_block hb) (fun e => by rw [hr g cur t fr e.symm hb] at hx; cases hx)).trans hb⟩
theorem KeepX.setCell {X : TypeId → Bool} {w w1 : World} {p : Addr} {cur : Array Value} {t : TypeId} {fr : Nat × Nat} (h : KeepX X w w1)
    (hp : w1.heap[p.block]? = some (.cells cur t fr)) (ht : X t = false) (u : Value) : KeepX X w (w1.setCell p u) :=
  h.trans ⟨by simp [World.setCell], fun g cur' t' fr' hb hx => (Below.heap_setCell w1 p u g (fun e => by
    subst e; rw [hp] at hb; cases hb; rw [ht] at hx; cases hx)).trans hb⟩

/-- v is a slice of n elements, of k cells each, of element type t, that reads as these cells -/
def TSl (w : World) (t k n : Nat) (v : Value) (cells : List Value) : Prop :=
  ∃ A c, v = .slice A n c ∧ n ≤ c ∧ c ≤ maxLen ∧ cells.length = n * k ∧
    (0 < n → ∃ g o cur fr, A = some ⟨g, o, none⟩ ∧ w.heap[g]? = some (.cells cur t fr) ∧ ∀ j u, cells[j]? = some u → cur[o + j]? = some u)

section
variable {w w' : World} {X : TypeId → Bool} {t k n : Nat} {v : Value} {cells : List Value}
theorem TSl.keep (h : TSl w t k n v cells) (hk : KeepX X w w') (hx : X t = true) : TSl w' t k n v cells := by
  obtain ⟨A, c, rfl, h1, h2, h3, h4⟩ := h
  refine ⟨A, c, rfl, h1, h2, h3, fun hn => ?_⟩
  obtain ⟨g, o, cur, fr, rfl, hb, hc⟩ := h4 hn
  exact ⟨g, o, cur, fr, rfl, hk.2 g cur t fr hb hx, hc⟩
theorem TSl.nil (w : World) (t k : Nat) : TSl w t k 0 (.slice none 0 0) [] := ⟨none, 0, rfl, Nat.le_refl _, Nat.zero_le _, by simp, fun h => absurd h (by omega)⟩
theorem cell_of_block {g o : Nat} {cur : Array Value} {fr : Nat × Nat} (h : w.heap[g]? = some (.cells cur t fr)) : w.cell? ⟨g, o, none⟩ = cur[o]? := by
  simp [World.cell?, h]
/-- the address of its first element, and each cell -/
theorem TSl.at_ {A : Option Addr} {c : Nat} (h : TSl w t k n (.slice A n c) cells) (hn : 0 < n) :
    ∃ g o, A = some ⟨g, o, none⟩ ∧ g < w.heap.size ∧ ∀ j u, cells[j]? = some u → w.cell? ⟨g, o + j, none⟩ = some u := by
  obtain ⟨A', c', e, h1, h2, h3, h4⟩ := h
  cases e
  obtain ⟨g, o, cur, fr, rfl, hb, hc⟩ := h4 hn
  exact ⟨g, o, rfl, lt_of_block hb, fun j u hu => (cell_of_block hb).trans (hc j u hu)⟩
theorem TSl.of_own {base : Nat} (h : w.ownsRow base t k v n cells) : TSl w t k n v cells := by
  obtain ⟨h1, h2⟩ := h
  rcases h2 with ⟨rfl, rfl⟩ | ⟨g, cap, cur, rfl, _, hg, hnc, hcm, hcs, htake⟩
  · exact ⟨none, 0, rfl, Nat.le_refl _, Nat.zero_le _, h1, fun h => absurd h (by omega)⟩
  · refine ⟨_, cap, rfl, hnc, hcm, h1, fun _ => ⟨g, 0, cur, (0, 0), rfl, hg, fun j u hu => ?_⟩⟩
    rw [← htake, List.getElem?_take] at hu
    split at hu
    · simpa using hu
    · cases hu
end

/-- a block that is known whole -/
def Blk (w : World) (g : Nat) (t : TypeId) (cs : Array Value) : Prop := w.heap[g]? = some (.cells cs t (0, 0))
section
variable {w w' : World} {g : Nat} {t : TypeId} {cs : Array Value}
theorem Blk.lt (h : Blk w g t cs) : g < w.heap.size := lt_of_block h
theorem Blk.cell (h : Blk w g t cs) (i : Nat) : w.cell? ⟨g, i, none⟩ = cs[i]? := cell_of_row w g i cs t (0, 0) h
theorem Blk.frozen (h : Blk w g t cs) (i : Nat) : w.frozen? ⟨g, i, none⟩ = false := by
  unfold Blk at h
  simp [World.frozen?, h]
theorem Blk.new (w : World) (t : TypeId) (cs : Array Value) : Blk (w.alloc (.cells cs t)) w.heap.size t cs := heap_alloc_new w _
theorem Blk.new_at {w : World} {g : Nat} (hg : w.heap.size = g) (t : TypeId) (cs : Array Value) : Blk (w.alloc (.cells cs t)) g t cs := by subst hg; exact Blk.new w t cs
theorem Blk.drew (h : Blk w g t cs) : Blk w.drew g t cs := h
theorem Blk.drewN (h : Blk w g t cs) (n : Nat) : Blk (w.drewN n) g t cs := h
theorem Blk.alloc (h : Blk w g t cs) (o : Obj) : Blk (w.alloc o) g t cs := (Below.heap_alloc w o g h.lt).trans h
theorem Blk.set_ (h : Blk w g t cs) (i : Nat) (u : Value) : Blk (w.setCell ⟨g, i, none⟩ u) g t (cs.setIfInBounds i u) := by
  unfold Blk at h ⊢
  simp [World.setCell, Array.getElem?_modify, h]
theorem Blk.keep {X : TypeId → Bool} (h : Blk w g t cs) (hk : KeepX X w w') (hx : X t = true) : Blk w' g t cs := hk.2 g cs t _ h hx
theorem Blk.below (h : Blk w g t cs) (hb : Below w.heap.size w w') : Blk w' g t cs := (hb.block g h.lt).trans h
theorem Blk.grown {row : Option Nat} (h : Blk w g t cs) (hb : w.grownBy w' row) (hg : some g ≠ row) : Blk w' g t cs := (hb.block g h.lt hg).trans h
theorem Blk.far (h : Blk w g t cs) {p : Addr} (hp : g ≠ p.block) (u : Value) : Blk (w.setCell p u) g t cs := (Below.heap_setCell w p u g hp).trans h
end
/-- bytes as the cells hold them -/
def enc8 (b : UInt8) : Value := .int .u8 (b.toNat : Int)
def encInt (n : Int) : Value := .int .i64 n
theorem enc8_one (l : List UInt8) : ∀ u ∈ l.map enc8, u.oneCell' = true := by
  intro u hu; obtain ⟨b, _, rfl⟩ := List.mem_map.1 hu; rfl

/-- what stands at each place of a list of cells, part by part -/
theorem flatten_at {k : Nat} : ∀ (css : List (List Value)) (_ : ∀ cs ∈ css, cs.length = k) (i j : Nat) (cs : List Value), css[i]? = some cs → j < k → css.flatten[i * k + j]? = cs[j]?
  | [], _, i, _, cs, h, _ => by simp at h
  | c :: css, hl, 0, j, cs, h, hj => by
    have e : c = cs := by simpa using h
    subst e
    rw [List.flatten_cons, Nat.zero_mul, Nat.zero_add, List.getElem?_append_left (by rw [hl c (by simp)]; exact hj)]
  | c :: css, hl, i + 1, j, cs, h, hj => by
    have hc := hl c (by simp)
    have h' : css[i]? = some cs := by simpa using h
    rw [List.flatten_cons, List.getElem?_append_right (by rw [hc, Nat.succ_mul]; omega), hc, show (i + 1) * k + j - k = i * k + j by rw [Nat.succ_mul]; omega]
    exact flatten_at css (fun cs hm => hl cs (by simp [hm])) i j cs h' hj
theorem flatten_len {k : Nat} : ∀ (css : List (List Value)) (_ : ∀ cs ∈ css, cs.length = k), css.flatten.length = css.length * k
  | [], _ => by simp
  | c :: css, hl => by
    rw [List.flatten_cons, List.length_append, hl c (by simp), flatten_len css (fun cs hm => hl cs (by simp [hm])), List.length_cons, Nat.succ_mul, Nat.add_comm]

/-- cells, an element each, that hold these things in the world -/
def Els {α : Type} (R : World → α → List Value → Prop) (k : Nat) (w : World) (css : List (List Value)) (l : List α) : Prop :=
  css.length = l.length ∧ (∀ cs ∈ css, cs.length = k) ∧ ∀ (i : Nat) (cs : List Value) (x : α), css[i]? = some cs → l[i]? = some x → R w x cs
/-- a slice of such elements -/
def SeqR {α : Type} (R : World → α → List Value → Prop) (t k : Nat) (w : World) (v : Value) (l : List α) : Prop :=
  ∃ css, Els R k w css l ∧ TSl w t k l.length v css.flatten
/-- the same, in a row of the call's own -/
def OwnR {α : Type} (R : World → α → List Value → Prop) (t k base : Nat) (w : World) (v : Value) (l : List α) : Prop :=
  ∃ css, Els R k w css l ∧ w.ownsRow base t k v l.length css.flatten
/-- a reading that stands while the blocks of these types stand -/
def Stays {α : Type} (R : World → α → List Value → Prop) (X : TypeId → Bool) : Prop := ∀ w w' x cs, KeepX X w w' → R w x cs → R w' x cs

/-- two lists of cells, part by part -/
theorem flatten_ext {k : Nat} (css : List (List Value)) (hk : 0 < k) (hl : ∀ cs ∈ css, cs.length = k) (l : List Value) (hlen : l.length = css.length * k)
    (h : ∀ i j cs, css[i]? = some cs → j < k → l[i * k + j]? = cs[j]?) : css.flatten = l := by
  apply List.ext_getElem?
  intro n
  by_cases hn : n < css.length * k
  · have hd : n = (n / k) * k + n % k := by rw [Nat.mul_comm]; exact (Nat.div_add_mod n k).symm
    have hq : n / k < css.length := Nat.div_lt_of_lt_mul (by rw [Nat.mul_comm]; exact hn)
    have hr : n % k < k := Nat.mod_lt _ hk
    have hc : css[n / k]? = some css[n / k] := List.getElem?_eq_getElem hq
    rw [hd, flatten_at css hl _ _ _ hc hr, h _ _ _ hc hr]
  · rw [List.getElem?_eq_none (by rw [flatten_len css hl]; omega), List.getElem?_eq_none (by omega)]
/-- a row of the call's own, one element of which has been written -/
theorem ownsRow_put {w w' : World} {base : Nat} {e : TypeId} {size g n cap k : Nat} {css : List (List Value)} {cs : List Value} {cur cur' : Array Value}
    (h : w.ownsRow base e size (.slice (some ⟨g, 0, none⟩) n cap) n css.flatten) (hs : 0 < size) (hl : ∀ c ∈ css, c.length = size) (hcl : cs.length = size) (hk : k < css.length)
    (hb : w.heap[g]? = some (.cells cur e (0, 0))) (hb' : w'.heap[g]? = some (.cells cur' e (0, 0))) (hsz : cur'.size = cur.size)
    (hin : ∀ j, j < size → cur'[k * size + j]? = cs[j]?) (hout : ∀ i, (i < k * size ∨ k * size + size ≤ i) → cur'[i]? = cur[i]?) :
    w'.ownsRow base e size (.slice (some ⟨g, 0, none⟩) n cap) n (css.set k cs).flatten := by
  obtain ⟨h1, h2⟩ := h
  have hl' : ∀ c ∈ css.set k cs, c.length = size := by
    intro c hc
    rcases List.mem_or_eq_of_mem_set hc with hc | hc
    · exact hl c hc
    · rw [hc]; exact hcl
  have hlen : css.length * size = n * size := by rw [← flatten_len css hl]; exact h1
  rcases h2 with ⟨e1, _⟩ | ⟨g', cap', cur0, e1, hbase, hg, hnc, hcm, hcs, htake⟩
  · cases e1
  · cases e1
    rw [hb] at hg
    cases hg
    refine ⟨by rw [flatten_len _ hl', List.length_set]; exact hlen, .inr ⟨g, cap, cur', rfl, hbase, hb', hnc, hcm, by rw [hsz]; exact hcs, ?_⟩⟩
    have hle : n * size ≤ cap * size := Nat.mul_le_mul_right _ hnc
    symm
    refine flatten_ext _ hs hl' _ (by rw [List.length_take, Array.length_toList, hsz, hcs, List.length_set, Nat.min_eq_left hle, hlen]) (fun i j c hc hj => ?_)
    have hi : i < css.length := by have := (List.getElem?_eq_some_iff.1 hc).1; rwa [List.length_set] at this
    have hij : i * size + j < n * size := by
      rw [← hlen]
      calc i * size + j < i * size + size := by omega
        _ = (i + 1) * size := by rw [Nat.succ_mul]
        _ ≤ css.length * size := Nat.mul_le_mul_right _ hi
    rw [List.getElem?_take_of_lt hij, Array.getElem?_toList]
    by_cases e : i = k
    · subst e
      rw [List.getElem?_set_self hk] at hc
      cases hc
      exact hin j hj
    · rw [List.getElem?_set_ne (fun q => e q.symm)] at hc
      rw [hout _ (by
        rcases Nat.lt_or_gt_of_ne e with q | q
        · left
          calc i * size + j < i * size + size := by omega
            _ = (i + 1) * size := by rw [Nat.succ_mul]
            _ ≤ k * size := Nat.mul_le_mul_right _ q
        · right
          calc k * size + size = (k + 1) * size := by rw [Nat.succ_mul]
            _ ≤ i * size := Nat.mul_le_mul_right _ q
            _ ≤ i * size + j := by omega)]
      have := flatten_at css hl i j c hc hj
      rw [← htake, List.getElem?_take_of_lt hij, Array.getElem?_toList] at this
      exact this
section
variable {α : Type} {R : World → α → List Value → Prop} {X : TypeId → Bool} {t k base : Nat} {w w' : World} {v : Value} {l : List α} {css : List (List Value)}
theorem Els.keep (h : Els R k w css l) (hs : Stays R X) (hk : KeepX X w w') : Els R k w' css l :=
  ⟨h.1, h.2.1, fun i cs x hc hx => hs w w' x cs hk (h.2.2 i cs x hc hx)⟩
theorem Els.nil : Els R k w [] [] := ⟨rfl, by simp, fun i cs x h => by simp at h⟩
theorem Els.snoc (h : Els R k w css l) {cs : List Value} {x : α} (hl : cs.length = k) (hr : R w x cs) : Els R k w (css ++ [cs]) (l ++ [x]) := by
  refine ⟨by simp [h.1], ?_, ?_⟩
  · intro c hc
    rcases List.mem_append.1 hc with hc | hc
    · exact h.2.1 c hc
    · simp at hc; subst hc; exact hl
  · intro i c y hc hy
    by_cases hi : i < css.length
    · rw [List.getElem?_append_left hi] at hc
      rw [List.getElem?_append_left (by rw [← h.1]; exact hi)] at hy
      exact h.2.2 i c y hc hy
    · have hb : i < (css ++ [cs]).length := (List.getElem?_eq_some_iff.1 hc).1
      have e : i = css.length := by simp at hb; omega
      subst e
      rw [List.getElem?_append_right (Nat.le_refl _)] at hc
      rw [List.getElem?_append_right (by rw [h.1]; exact Nat.le_refl _)] at hy
      simp at hc
      rw [h.1] at hy
      simp at hy
      subst hc; subst hy; exact hr
theorem Els.at_ (h : Els R k w css l) {i : Nat} {x : α} (hx : l[i]? = some x) : ∃ cs, css[i]? = some cs ∧ cs.length = k ∧ R w x cs := by
  have hi : i < css.length := by rw [h.1]; exact (List.getElem?_eq_some_iff.1 hx).1
  exact ⟨css[i], List.getElem?_eq_getElem hi, h.2.1 _ (List.getElem_mem hi), h.2.2 i _ x (List.getElem?_eq_getElem hi) hx⟩
theorem SeqR.keep (h : SeqR R t k w v l) (hs : Stays R X) (hx : X t = true) (hk : KeepX X w w') : SeqR R t k w' v l := by
  obtain ⟨css, he, hr⟩ := h
  exact ⟨css, he.keep hs hk, hr.keep hk hx⟩
theorem OwnR.seq (h : OwnR R t k base w v l) : SeqR R t k w v l := by
  obtain ⟨css, he, hr⟩ := h
  exact ⟨css, he, TSl.of_own hr⟩
theorem SeqR.nil : SeqR R t k w (.slice none 0 0) [] := ⟨[], Els.nil, TSl.nil w t k⟩
theorem OwnR.nil : OwnR R t k base w (.slice none 0 0) [] := ⟨[], Els.nil, World.ownsRow_nil w base t k⟩
theorem OwnR.snoc {cs : List Value} {x : α} {v' : Value} (he : Els R k w css l) (hs : Stays R X) (hk : KeepX X w w') (hl : cs.length = k) (hr : R w' x cs)
    (hown : w'.ownsRow base t k v' (l.length + 1) (css.flatten ++ cs)) : OwnR R t k base w' v' (l ++ [x]) :=
  ⟨css ++ [cs], (he.keep hs hk).snoc hl hr, by rw [List.flatten_append]; simpa using hown⟩
theorem ownsRow_keep {e : TypeId} {size n : Nat} {xs : List Value} (h : w.ownsRow base e size v n xs) (hk : KeepX X w w') (hx : X e = true) : w'.ownsRow base e size v n xs := by
  refine ⟨h.1, ?_⟩
  rcases h.2 with h2 | ⟨g, cap, cur, rfl, hb, hg, r⟩
  · exact .inl h2
  · exact .inr ⟨g, cap, cur, rfl, hb, hk.2 g cur e _ hg hx, r⟩
theorem ownsRow_block {e : TypeId} {size n : Nat} {xs : List Value} (h : w.ownsRow base e size v n xs) (hk : ∀ g, v.ownBlock = some g → w'.heap[g]? = w.heap[g]?) : w'.ownsRow base e size v n xs := by
  refine ⟨h.1, ?_⟩
  rcases h.2 with h2 | ⟨g, cap, cur, rfl, hb, hg, r⟩
  · exact .inl h2
  · exact .inr ⟨g, cap, cur, rfl, hb, (hk g rfl).trans hg, r⟩
theorem ownsRow_base {b e : TypeId} {size n : Nat} {xs : List Value} (h : w.ownsRow base e size v n xs) (hb : b ≤ base) : w.ownsRow b e size v n xs := by
  refine ⟨h.1, ?_⟩
  rcases h.2 with h2 | ⟨g, cap, cur, rfl, hb', r⟩
  · exact .inl h2
  · exact .inr ⟨g, cap, cur, rfl, Nat.le_trans hb hb', r⟩
theorem ownsRow_form {e : TypeId} {size n : Nat} {xs : List Value} (h : w.ownsRow base e size v n xs) : ∃ A c, v = .slice A n c ∧ n ≤ c ∧ c ≤ maxLen := by
  rcases h.2 with ⟨rfl, rfl⟩ | ⟨g, cap, cur, rfl, _, _, h1, h2, _⟩
  · exact ⟨none, 0, rfl, Nat.le_refl _, Nat.zero_le _⟩
  · exact ⟨_, cap, rfl, h1, h2⟩
theorem KeepX.grown_own {w1 w2 : World} {e : TypeId} {size n : Nat} {xs : List Value} (h : KeepX X w w1) (hown : w1.ownsRow base e size v n xs) (hg : w1.grownBy w2 v.ownBlock) (hx : X e = false) : KeepX X w w2 := by
  refine h.grown hg (fun g cur t fr hr hb => ?_)
  rcases hown.2 with ⟨rfl, _⟩ | ⟨g', cap, cur', rfl, _, hgg, _⟩
  · simp [Value.ownBlock] at hr
  · simp only [Value.ownBlock, Option.some.injEq] at hr
    subst hr
    rw [hgg] at hb; cases hb; exact hx
theorem below_grown {B : Nat} {a w1 w2 : World} {e : TypeId} {size n : Nat} {xs : List Value} (h : Below B a w1) (hown : w1.ownsRow base e size v n xs) (hg : w1.grownBy w2 v.ownBlock) (hB : B ≤ base) (hB2 : B ≤ w1.heap.size) : Below B a w2 :=
  h.grown hg hB2 (fun k hk => Nat.le_trans hB (hown.lt k hk).1)
theorem OwnR.keep (h : OwnR R t k base w v l) (hs : Stays R X) (hk : KeepX X w w') (hx : X t = true) : OwnR R t k base w' v l := by
  obtain ⟨css, he, hr⟩ := h
  exact ⟨css, he.keep hs hk, ownsRow_keep hr hk hx⟩
theorem OwnR.base_mono {b : Nat} (h : OwnR R t k base w v l) (hb : b ≤ base) : OwnR R t k b w v l := by
  obtain ⟨css, he, hr⟩ := h
  exact ⟨css, he, ownsRow_base hr hb⟩
theorem SeqR.form (h : SeqR R t k w v l) : ∃ A c, v = .slice A l.length c ∧ l.length ≤ c ∧ c ≤ maxLen := by
  obtain ⟨css, _, A, c, rfl, h1, h2, _⟩ := h
  exact ⟨A, c, rfl, h1, h2⟩
/-- the element at a place: where it lies, and its cells -/
theorem SeqR.at_ {A : Option Addr} {n c i : Nat} {x : α} (h : SeqR R t k w (.slice A n c) l) (hx : l[i]? = some x) :
    ∃ g o cs, A = some ⟨g, o, none⟩ ∧ g < w.heap.size ∧ cs.length = k ∧ R w x cs ∧ ∀ j u, cs[j]? = some u → w.cell? ⟨g, o + i * k + j, none⟩ = some u := by
  obtain ⟨css, he, ht⟩ := h
  obtain ⟨cs, hc, hl, hr⟩ := he.at_ hx
  have hi : i < l.length := (List.getElem?_eq_some_iff.1 hx).1
  have hn : n = l.length := by obtain ⟨A', c', e, _⟩ := ht; cases e; rfl
  subst hn
  obtain ⟨g, o, rfl, hg, hcell⟩ := ht.at_ (by omega)
  refine ⟨g, o, cs, rfl, hg, hl, hr, fun j u hu => ?_⟩
  rw [Nat.add_assoc]
  refine hcell _ u ?_
  have hj : j < cs.length := (List.getElem?_eq_some_iff.1 hu).1
  rw [flatten_at css he.2.1 i j cs hc (by omega), hu]
end

theorem TSl.news {w : World} {t k n c : Nat} {a : Addr} {cells : List Value} (h : TSl w t k n (.slice (some a) n c) cells) : ∀ j u, cells[j]? = some u → w.cell? (a.add j) = some u := by
  intro j u hu
  obtain ⟨A, c', e, _, _, h3, h4⟩ := h
  cases e
  by_cases hn : 0 < n
  · obtain ⟨g, o, cur, fr, e, hb, hc⟩ := h4 hn
    cases e
    have hadd : (⟨g, o, none⟩ : Addr).add j = ⟨g, o + j, none⟩ := by unfold Addr.add; split <;> simp_all
    rw [hadd]; exact (cell_of_block hb).trans (hc j u hu)
  · have : n = 0 := by omega
    subst this
    have := List.eq_nil_of_length_eq_zero (by simpa using h3)
    subst this; simp at hu
section
variable {P : Program} (w : World)
theorem run_append_of_nil (base : Nat) (t ty e : TypeId) (i : TypeInfo) (size : Nat) (ht : P.underlying t = some (.slice e)) (hi : P.info? e = some i)
    (v : Value) (n : Nat) (xs : List Value) (hown : w.ownsRow base e size v n xs) (c : Nat) : (Builtin.append_ #[t, t] ty #[v, .slice none 0 c]).run P w = .ok v w := by
  rcases hown.2 with ⟨rfl, rfl⟩ | ⟨g, cap, cur, rfl, _, _, hnc, _⟩
  · simp [Builtin.append_, run_underlying ht, sizeOf, typeInfo, hi, Builtin.lenOf, Builtin.firstCells]
  · simp [Builtin.append_, run_underlying ht, sizeOf, typeInfo, hi, Builtin.lenOf, Builtin.firstCells, hnc, storeCells]
theorem run_append_tsl (base : Nat) (t ty e : TypeId) (i : TypeInfo) (z : Value) (size bytes : Nat) (ht : P.underlying t = some (.slice e)) (hi : P.info? e = some i) (hz : i.zero = some z)
    (hsize : i.size = size) (hby : i.bytes = bytes) (hzs : z.cells.size = size) (hsz : 0 < size)
    (v : Value) (n : Nat) (xs : List Value) (hown : w.ownsRow base e size v n xs)
    (A : Option Addr) (m c : Nat) (news : List Value) (hr : TSl w e size m (.slice A m c) news) (h1 : ∀ u ∈ news, u.oneCell' = true)
    (h63 : n + m ≤ maxLen) (hbytes : (n + m) * bytes ≤ 140737488355328) (hbase : base ≤ w.heap.size) :
    ∃ A' c' w', (Builtin.append_ #[t, t] ty #[v, .slice A m c]).run P w = .ok (.slice A' (n + m) c') w' ∧ w'.ownsRow base e size (.slice A' (n + m) c') (n + m) (xs ++ news) ∧ w.grownBy w' v.ownBlock ∧
      ((Value.slice A' (n + m) c').ownBlock = v.ownBlock ∨ (Value.slice A' (n + m) c').ownBlock = some w.heap.size) := by
  have key : ∃ v' w', (Builtin.append_ #[t, t] ty #[v, .slice A m c]).run P w = .ok v' w' ∧ w'.ownsRow base e size v' (n + m) (xs ++ news) ∧ w.grownBy w' v.ownBlock ∧ (v'.ownBlock = v.ownBlock ∨ v'.ownBlock = some w.heap.size) := by
    cases A with
    | none =>
      have hm : m = 0 := by
        rcases Nat.eq_zero_or_pos m with h0 | h0
        · exact h0
        · obtain ⟨A', c', e, _, _, _, h4⟩ := hr
          cases e
          obtain ⟨g, o, cur, fr, e, _⟩ := h4 h0
          cases e
      subst hm
      have hn : news = [] := List.eq_nil_of_length_eq_zero (by obtain ⟨_, _, _, _, _, h3, _⟩ := hr; simpa using h3)
      subst hn
      exact ⟨v, w, run_append_of_nil w base t ty e i size ht hi v n xs hown c, by simpa using hown, World.grownBy.refl w _, .inl rfl⟩
    | some ad =>
      have hl : news.length = m * size := by obtain ⟨_, _, _, _, _, h3, _⟩ := hr; exact h3
      obtain ⟨v', w', hrun, h2, h3, _, h5⟩ := run_append_own_at (P := P) w base t ty e i z size bytes ht hi hz hsize hby hzs hsz v n xs hown ad m c news hl hr.news h1 h63 hbytes hbase
      exact ⟨v', w', hrun, h2, h3, h5⟩
  obtain ⟨v', w', hrun, h2, h3, h5⟩ := key
  rcases h2.2 with ⟨rfl, hz0⟩ | ⟨g, cap, cur, rfl, _⟩
  · rw [hz0] at *
    exact ⟨none, 0, w', hrun, h2, h3, h5⟩
  · exact ⟨_, cap, w', hrun, h2, h3, h5⟩
theorem wp_append_tsl {o : Oper} {a : Act} {K : Act → World → Prop} {Q : Exit → Act → World → Prop} (s x : Operand) (t : TypeId)
    (ho : o.op = .call { callee := .builtin .append, args := #[s, x], argTypes := #[t, t] })
    (base : Nat) (e : TypeId) (i : TypeInfo) (z : Value) (size bytes : Nat) (ht : P.underlying t = some (.slice e)) (hi : P.info? e = some i) (hz : i.zero = some z)
    (hsize : i.size = size) (hby : i.bytes = bytes) (hzs : z.cells.size = size) (hsz : 0 < size)
    (v : Value) (n : Nat) (xs : List Value) (hs : a.eval s = v) (hown : w.ownsRow base e size v n xs)
    (A : Option Addr) (m c : Nat) (news : List Value) (hx : a.eval x = .slice A m c) (hr : TSl w e size m (.slice A m c) news) (h1 : ∀ u ∈ news, u.oneCell' = true)
    (h63 : n + m ≤ maxLen) (hbytes : (n + m) * bytes ≤ 140737488355328) (hbase : base ≤ w.heap.size)
    (h : ∀ A' c' w', w'.ownsRow base e size (.slice A' (n + m) c') (n + m) (xs ++ news) → w.grownBy w' v.ownBlock → ((Value.slice A' (n + m) c').ownBlock = v.ownBlock ∨ (Value.slice A' (n + m) c').ownBlock = some w.heap.size) → K (a.put o.dst (.slice A' (n + m) c')) w') : o.wp P a w K Q := by
  obtain ⟨A', c', w', hrun, h2, h3, h4⟩ := run_append_tsl (P := P) w base t o.type e i z size bytes ht hi hz hsize hby hzs hsz v n xs hown A m c news hr h1 h63 hbytes hbase
  unfold Oper.wp execOp
  simp only [ho, resolve, invoke, builtin, Sem.run_bind, Sem.run_pure, Result.andThen_ok, List.map_toArray, List.map_cons, List.map_nil, hs, hx, hrun]
  exact h A' c' w' h2 h3 h4
theorem wpList_append_tsl {ops : Array Oper} {rest : List Oper} {o : Oper} {a : Act} {Q : Exit → Act → World → Prop} (hgd : o.guard = none) (s x : Operand) (t : TypeId)
    (ho : o.op = .call { callee := .builtin .append, args := #[s, x], argTypes := #[t, t] })
    (base : Nat) (e : TypeId) (i : TypeInfo) (z : Value) (size bytes : Nat) (ht : P.underlying t = some (.slice e)) (hi : P.info? e = some i) (hz : i.zero = some z)
    (hsize : i.size = size) (hby : i.bytes = bytes) (hzs : z.cells.size = size) (hsz : 0 < size)
    (v : Value) (n : Nat) (xs : List Value) (hs : a.eval s = v) (hown : w.ownsRow base e size v n xs)
    (A : Option Addr) (m c : Nat) (news : List Value) (hx : a.eval x = .slice A m c) (hr : TSl w e size m (.slice A m c) news) (h1 : ∀ u ∈ news, u.oneCell' = true)
    (h63 : n + m ≤ maxLen) (hbytes : (n + m) * bytes ≤ 140737488355328) (hbase : base ≤ w.heap.size)
    (h : ∀ A' c' w', w'.ownsRow base e size (.slice A' (n + m) c') (n + m) (xs ++ news) → w.grownBy w' v.ownBlock → ((Value.slice A' (n + m) c').ownBlock = v.ownBlock ∨ (Value.slice A' (n + m) c').ownBlock = some w.heap.size) → wpList P ops Q rest (a.put o.dst (.slice A' (n + m) c')) w') : wpList P ops Q (o :: rest) a w :=
  wpList_plain hgd fun _ hK => wp_append_tsl w s x t ho base e i z size bytes ht hi hz hsize hby hzs hsz v n xs hs hown A m c news hx hr h1 h63 hbytes hbase fun A' c' w' h2 h3 h4 => hK _ _ (h A' c' w' h2 h3 h4)
theorem step_append_tsl {ops : Array Oper} {o : Oper} {a : Act} {K : Act → World → Prop} {Q : Exit → Act → World → Prop} {E : Prop} (hgd : o.guard = none) (s x : Operand) (t : TypeId)
    (ho : o.op = .call { callee := .builtin .append, args := #[s, x], argTypes := #[t, t] })
    (base : Nat) (e : TypeId) (i : TypeInfo) (z : Value) (size bytes : Nat) (ht : P.underlying t = some (.slice e)) (hi : P.info? e = some i) (hz : i.zero = some z)
    (hsize : i.size = size) (hby : i.bytes = bytes) (hzs : z.cells.size = size) (hsz : 0 < size)
    (v : Value) (n : Nat) (xs : List Value) (hs : a.eval s = v) (hown : w.ownsRow base e size v n xs)
    (A : Option Addr) (m c : Nat) (news : List Value) (hx : a.eval x = .slice A m c) (hr : TSl w e size m (.slice A m c) news) (h1 : ∀ u ∈ news, u.oneCell' = true)
    (h63 : n + m ≤ maxLen) (hbytes : (n + m) * bytes ≤ 140737488355328) (hbase : base ≤ w.heap.size)
    (h : ∀ A' c' w', w'.ownsRow base e size (.slice A' (n + m) c') (n + m) (xs ++ news) → w.grownBy w' v.ownBlock → ((Value.slice A' (n + m) c').ownBlock = v.ownBlock ∨ (Value.slice A' (n + m) c').ownBlock = some w.heap.size) → K (a.put o.dst (.slice A' (n + m) c')) w') :
    if Region.wanted o (yielded ops a.tmps) = true then Oper.wp P o a w K Q else E := by
  have hw : Region.wanted o (yielded ops a.tmps) = true := by simp [Region.wanted, hgd]
  rw [if_pos hw]
  exact wp_append_tsl w s x t ho base e i z size bytes ht hi hz hsize hby hzs hsz v n xs hs hown A m c news hx hr h1 h63 hbytes hbase h
end
end Go.Proofs.Ytomfladifefomaa
-- Sx: Symbolic steps over frames and blocks of a call's own: the state that is known of a call (slots, blocks, rows), what an operation makes of it, and that the model's operation does so. Names no program. Conditions: as each law states them.
namespace Go.Proofs.Ytomfladifefomaa
open Go.RowKit

/-- one cell: a value; a pointer into a block of the call's own (its name, its number, the place); a slice there; a function with pointers that it captured; a pointer to cells that nobody writes -/
inductive SC where
  | v (x : Value)
  | p (id g off : Nat)
  | s (id g off len cap : Nat)
  | f (fn : FuncId) (caps : List (Nat × Nat × Nat))
  | q (id g o r : Nat)
def SC.den : SC → Value
  | .v x => x
  | .p _ g off => .pointer (some ⟨g, off, none⟩)
  | .s _ g off len cap => .slice (some ⟨g, off, none⟩) len cap
  | .f fn caps => .func (.func fn) #[] (caps.map fun c => Value.pointer (some ⟨c.2.1, c.2.2, none⟩)).toArray
  | .q _ g o r => .pointer (some ⟨g, o + r, none⟩)
def dens (l : List SC) : Array Value := (l.map SC.den).toArray
/-- what a slot holds: one cell, or cells that are one struct -/
inductive SV where
  | c (x : SC)
  | a (l : List SC)
def SV.den : SV → Value
  | .c x => x.den
  | .a l => .agg (dens l)
def valCells (x : Value) : List SC := match x with
  | .agg cs => cs.toList.map .v
  | y => [.v y]
def SV.cells : SV → List SC
  | .c (.v x) => valCells x
  | .c x => [x]
  | .a l => l
theorem valCells_den (x : Value) : x.cells = dens (valCells x) := by
  have e : SC.den ∘ SC.v = id := rfl
  cases x <;> simp [valCells, Value.cells, dens, SC.den, e]
theorem SV.cells_den (v : SV) : v.den.cells = dens v.cells := by
  cases v with
  | c x => cases x with
    | v x => exact valCells_den x
    | _ => simp [SV.den, SV.cells, SC.den, dens, Value.cells]
  | a l => simp [SV.den, SV.cells, Value.cells]
/-- is it surely the value of one cell? -/
def SC.one : SC → Prop
  | .v x => x.oneCell' = true
  | _ => True
theorem SC.one_den {x : SC} (h : x.one) : x.den.oneCell' = true := by
  cases x with
  | v x => exact h
  | _ => rfl
def ones (l : List SC) : Prop := match l with
  | [] => True
  | x :: r => x.one ∧ ones r
theorem ones_mem : ∀ {l : List SC}, ones l → ∀ x ∈ l, x.one
  | [], _, x, hx => by cases hx
  | y :: r, h, x, hx => by
    cases hx with
    | head => exact h.1
    | tail _ hm => exact ones_mem h.2 x hm

/-- cells that nobody writes, from a place on -/
structure Vw where
  id : Nat
  g : Nat
  o : Nat
  cs : List Value
structure Bl where
  id : Nat
  g : Nat
  t : TypeId
  cs : List SC
/-- a row that the call appends to -/
structure Rw where
  v : Value
  t : TypeId
  k : Nat
  n : Nat
  xs : List Value
/-- a world, and the blocks that somebody still writes -/
structure GW where
  M : Nat → Prop
  w : World
structure GW.Le (s g : GW) : Prop where
  size : s.w.heap.size ≤ g.w.heap.size
  keep : ∀ k, k < s.w.heap.size → ¬ s.M k → g.w.heap[k]? = s.w.heap[k]? ∧ ¬ g.M k
/-- who is still written is there -/
def GW.Wf (G : GW) : Prop := ∀ k, G.M k → k < G.w.heap.size
theorem GW.Le.refl (s : GW) : s.Le s := ⟨Nat.le_refl _, fun _ _ h => ⟨rfl, h⟩⟩
theorem GW.Le.trans {a b c : GW} (h : a.Le b) (k : b.Le c) : a.Le c :=
  ⟨Nat.le_trans h.size k.size, fun i hi hm =>
    let ⟨e, n⟩ := h.keep i hi hm
    let ⟨e', n'⟩ := k.keep i (Nat.lt_of_lt_of_le hi h.size) n
    ⟨e'.trans e, n'⟩⟩
/-- apart from the blocks A the world is as it was -/
structure Chg (A : Nat → Prop) (w w' : World) : Prop where
  os : w'.os = w.os
  tape : w'.tape = w.tape
  output : w'.output = w.output
  size : w.heap.size ≤ w'.heap.size
  block : ∀ k, k < w.heap.size → ¬ A k → w'.heap[k]? = w.heap[k]?
def Non (_ : Nat) : Prop := False
theorem Chg.below {w w' : World} (h : Chg Non w w') : Below w.heap.size w w' := ⟨h.os, h.tape, h.output, h.size, fun k hk => h.block k hk id⟩
theorem Chg.of_below {w w' : World} (h : Below w.heap.size w w') : Chg Non w w' := ⟨h.os, h.tape, h.output, h.size, fun k hk _ => h.block k hk⟩
theorem Chg.refl (A : Nat → Prop) (w : World) : Chg A w w := ⟨rfl, rfl, rfl, Nat.le_refl _, fun _ _ _ => rfl⟩
theorem Chg.trans {A : Nat → Prop} {a b c : World} (h : Chg A a b) (k : Chg A b c) : Chg A a c :=
  ⟨k.os.trans h.os, k.tape.trans h.tape, k.output.trans h.output, Nat.le_trans h.size k.size, fun i hi hA => (k.block i (Nat.lt_of_lt_of_le hi h.size) hA).trans (h.block i hi hA)⟩
/-- what does not turn while the call runs: the world at its beginning, the blocks that it may write, those that its caller still writes, its frame's size -/
structure Env where
  W : World
  A : Nat → Prop
  M : Nat → Prop
  n : Nat
structure St where
  tmps : List (Nat × SV)
  blks : List Bl
  rows : List Rw
  views : List Vw
  snaps : List GW
  next : Nat
def look : List (Nat × SV) → Nat → Option SV
  | [], _ => none
  | x :: l, t => if x.1 = t then some x.2 else look l t
def St.M (E : Env) (σ : St) (k : Nat) : Prop := E.M k ∨ (∃ b ∈ σ.blks, b.g = k) ∨ ∃ r ∈ σ.rows, r.v.ownBlock = some k
structure Rel (E : Env) (σ : St) (a : Act) (w : World) : Prop where
  tmps : ∀ t v, look σ.tmps t = some v → a.tmps[t]? = some v.den
  size : a.tmps.size = E.n
  defers : a.defers = []
  blks : ∀ b ∈ σ.blks, Blk w b.g b.t (dens b.cs)
  nodup : σ.blks.Pairwise fun b c => b.g ≠ c.g
  own : ∀ b ∈ σ.blks, E.A b.g ∨ E.W.heap.size ≤ b.g
  rows : ∀ r ∈ σ.rows, w.ownsRow E.W.heap.size r.t r.k r.v r.n r.xs
  apart : ∀ r ∈ σ.rows, ∀ b ∈ σ.blks, r.v.ownBlock ≠ some b.g
  rapart : σ.rows.Pairwise fun r r' => ∀ k, r.v.ownBlock = some k → r'.v.ownBlock ≠ some k
  views : ∀ v ∈ σ.views, v.g < w.heap.size ∧ ¬ σ.M E v.g ∧ w.rangeAt v.g v.o v.cs
  chg : Chg E.A E.W w
  snaps : ∀ s ∈ σ.snaps, s.Le ⟨σ.M E, w⟩
  mem : ∀ k, E.M k → k < E.W.heap.size
/-- what an operation that only reads must know of a state -/
structure See (σ : St) (a : Act) (w : World) : Prop where
  tmps : ∀ t v, look σ.tmps t = some v → a.tmps[t]? = some v.den
  blks : ∀ b ∈ σ.blks, Blk w b.g b.t (dens b.cs)
  views : ∀ v ∈ σ.views, w.rangeAt v.g v.o v.cs
theorem Rel.see {E : Env} {σ : St} {a : Act} {w : World} (h : Rel E σ a w) : See σ a w := ⟨h.tmps, h.blks, fun v hv => (h.views v hv).2.2⟩
def Ok (E : Env) (σ : St) (Φ : Act → World → Prop) : Prop := ∀ a w, Rel E σ a w → Φ a w
theorem Ok.mono {E : Env} {σ : St} {Φ Ψ : Act → World → Prop} (h : Ok E σ Φ) (k : ∀ a w, Φ a w → Ψ a w) : Ok E σ Ψ := fun a w r => k a w (h a w r)

def St.put (σ : St) (d : Option Tmp) (v : SV) : St := match d with
  | some d => { σ with tmps := (d, v) :: σ.tmps }
  | none => σ
def St.add (σ : St) (g : Nat) (t : TypeId) (cs : List SC) : St := { σ with blks := ⟨σ.next, g, t, cs⟩ :: σ.blks, next := σ.next + 1 }
/-- cells put into cells from a place on -/
def putCs (l : List SC) (off : Nat) (cs : List SC) : List SC := match l, off with
  | [], _ => []
  | x :: r, 0 => match cs with
    | [] => x :: r
    | c :: cs => c :: putCs r 0 cs
  | x :: r, o + 1 => x :: putCs r o cs
def putBl : List Bl → Nat → Nat → List SC → List Bl
  | [], _, _, _ => []
  | b :: r, id, off, cs => if b.id = id then { b with cs := putCs b.cs off cs } :: r else b :: putBl r id off cs
def St.set (σ : St) (id off : Nat) (cs : List SC) : St := { σ with blks := putBl σ.blks id off cs }
def getBl : List Bl → Nat → Option Bl
  | [], _ => none
  | b :: r, id => if b.id = id then some b else getBl r id

theorem getBl_mem : ∀ {l : List Bl} {id : Nat} {b : Bl}, getBl l id = some b → b ∈ l
  | [], _, _, h => by cases h
  | x :: r, id, b, h => by
    unfold getBl at h
    split at h
    · cases h; exact List.mem_cons_self
    · exact List.mem_cons_of_mem _ (getBl_mem h)

section
variable {E : Env} {σ : St} {a : Act} {w : World}
theorem Rel.put (h : Rel E σ a w) (d : Option Tmp) (v : SV) (hd : ∀ t, d = some t → t < E.n) : Rel E (σ.put d v) (a.put d v.den) w := by
  cases d with
  | none => exact h
  | some d =>
    refine ⟨fun t u hu => ?_, ?_, h.defers, h.blks, h.nodup, h.own, h.rows, h.apart, h.rapart, h.views, h.chg, h.snaps, h.mem⟩
    · show (a.tmps.setIfInBounds d v.den)[t]? = _
      have hu' : (if d = t then some v else look σ.tmps t) = some u := hu
      have hlt : d < a.tmps.size := by rw [h.size]; exact hd d rfl
      by_cases e : d = t
      · subst e
        rw [if_pos rfl] at hu'
        cases hu'
        rw [Array.getElem?_setIfInBounds_self_of_lt hlt]
      · rw [if_neg e] at hu'
        rw [Array.getElem?_setIfInBounds_ne e]
        exact h.tmps t u hu'
    · show (a.tmps.setIfInBounds d v.den).size = _
      simpa using h.size
theorem Rel.drew (h : Rel E σ a w) : Rel E σ a { w with drawn := w.drawn + 1 } :=
  ⟨h.tmps, h.size, h.defers, h.blks, h.nodup, h.own, h.rows, h.apart, h.rapart, h.views, ⟨h.chg.os, h.chg.tape, h.chg.output, h.chg.size, h.chg.block⟩, fun s hs => ⟨(h.snaps s hs).size, (h.snaps s hs).keep⟩, h.mem⟩
theorem ownsRow_lt {base e k n : Nat} {v : Value} {xs : List Value} (h : w.ownsRow base e k v n xs) {g : Nat} (hg : v.ownBlock = some g) : base ≤ g ∧ g < w.heap.size := h.lt g hg
theorem range_block {w w' : World} {g o : Nat} {cs : List Value} (h : w.rangeAt g o cs) (e : w'.heap[g]? = w.heap[g]?) : w'.rangeAt g o cs := fun j v hj => by
  rw [← h j v hj]
  simp only [World.cell?, e]
theorem Rel.add (h : Rel E σ a w) (t : TypeId) (cs : List SC) : Rel E (σ.add w.heap.size t cs) a (w.alloc (.cells (dens cs) t)) := by
  have hlt : ∀ b ∈ σ.blks, b.g < w.heap.size := fun b hb => (h.blks b hb).lt
  have hWs : E.W.heap.size ≤ w.heap.size := h.chg.size
  have hk : ∀ k, k < w.heap.size → (w.alloc (.cells (dens cs) t)).heap[k]? = w.heap[k]? := fun k hk => Below.heap_alloc w _ k hk
  refine ⟨h.tmps, h.size, h.defers, ?_, ?_, ?_, ?_, ?_, h.rapart, ?_, ?_, ?_, h.mem⟩
  · intro b hb
    rcases List.mem_cons.1 hb with rfl | hb
    · exact Blk.new w t (dens cs)
    · exact (h.blks b hb).alloc _
  · refine List.Pairwise.cons (fun b hb => ?_) h.nodup
    have := hlt b hb
    show w.heap.size ≠ b.g
    omega
  · intro b hb
    rcases List.mem_cons.1 hb with rfl | hb
    · exact .inr hWs
    · exact h.own b hb
  · intro r hr
    exact ownsRow_block (h.rows r hr) (fun g hg => hk g (ownsRow_lt (h.rows r hr) hg).2)
  · intro r hr b hb
    rcases List.mem_cons.1 hb with rfl | hb
    · intro e
      have := (ownsRow_lt (h.rows r hr) e).2
      simp at this
    · exact h.apart r hr b hb
  · intro v hv
    obtain ⟨h1, h2, h3⟩ := h.views v hv
    refine ⟨by show _ < (w.alloc _).heap.size; simp; omega, fun hM => ?_, range_block h3 (hk _ h1)⟩
    rcases hM with hM | ⟨b, hb, e⟩ | hM
    · exact h2 (.inl hM)
    · rcases List.mem_cons.1 hb with rfl | hb
      · have : w.heap.size = v.g := e
        omega
      · exact h2 (.inr (.inl ⟨b, hb, e⟩))
    · exact h2 (.inr (.inr hM))
  · exact ⟨h.chg.os, h.chg.tape, h.chg.output, by have := h.chg.size; simp; omega, fun k hk' hA => (hk k (by omega)).trans (h.chg.block k hk' hA)⟩
  · intro s hs
    have hs' := h.snaps s hs
    have hss : s.w.heap.size ≤ w.heap.size := hs'.size
    refine ⟨by show _ ≤ (w.alloc _).heap.size; simp; omega, fun k hk' hm => ?_⟩
    obtain ⟨e, n⟩ := hs'.keep k hk' hm
    refine ⟨(hk k (by omega)).trans e, fun hM => ?_⟩
    rcases hM with hM | ⟨b, hb, rfl⟩ | hM
    · exact n (.inl hM)
    · rcases List.mem_cons.1 hb with rfl | hb
      · have : w.heap.size < s.w.heap.size := hk'
        omega
      · exact n (.inr (.inl ⟨b, hb, rfl⟩))
    · exact n (.inr (.inr hM))
theorem getBl_split {id : Nat} {b : Bl} : ∀ {l : List Bl}, getBl l id = some b → ∃ pre post, l = pre ++ b :: post ∧ ∀ off cs, putBl l id off cs = pre ++ { b with cs := putCs b.cs off cs } :: post
  | [], h => by cases h
  | x :: r, h => by
    unfold getBl at h
    split at h
    · rename_i e
      cases h
      exact ⟨[], r, rfl, fun off cs => by unfold putBl; rw [if_pos e]; rfl⟩
    · rename_i e
      obtain ⟨pre, post, rfl, hp⟩ := getBl_split h
      exact ⟨x :: pre, post, rfl, fun off cs => by unfold putBl; rw [if_neg e, hp]; rfl⟩
theorem putCs_eq : ∀ (l : List SC) (off : Nat) (cs : List SC), off + cs.length ≤ l.length → putCs l off cs = l.take off ++ cs ++ l.drop (off + cs.length)
  | [], off, cs, h => by
    have : cs = [] := List.eq_nil_of_length_eq_zero (by have : off + cs.length ≤ 0 := h; omega)
    subst this; simp [putCs]
  | x :: r, 0, [], h => by simp [putCs]
  | x :: r, 0, c :: cs, h => by
    have ih := putCs_eq r 0 cs (by simp at h ⊢; omega)
    simp only [putCs, ih]
    simp
  | x :: r, o + 1, cs, h => by
    have ih := putCs_eq r o cs (by simp at h; omega)
    simp only [putCs, ih]
    simp [Nat.add_right_comm]
/-- a store into a block of the call's own: the world behind it, and what is known -/
theorem Rel.set (h : Rel E σ a w) {id off : Nat} {cs : List SC} {b : Bl} (hb : getBl σ.blks id = some b) (_hl : off + cs.length ≤ b.cs.length) :
    Rel E (σ.set id off cs) a (w.setRow b.g (dens (putCs b.cs off cs))) := by
  have hbm := getBl_mem hb
  have hB : w.heap[b.g]? = some (.cells (dens b.cs) b.t (0, 0)) := h.blks b hbm
  have hset : (w.setRow b.g (dens (putCs b.cs off cs))).heap[b.g]? = some (.cells (dens (putCs b.cs off cs)) b.t (0, 0)) := setRow_heap w b.g _ _ b.t _ hB
  have hoth : ∀ k, k ≠ b.g → (w.setRow b.g (dens (putCs b.cs off cs))).heap[k]? = w.heap[k]? := fun k hk => by
    simp only [World.setRow, Array.getElem?_modify]
    rw [if_neg (fun e => hk e.symm)]
  have hsz : (w.setRow b.g (dens (putCs b.cs off cs))).heap.size = w.heap.size := by simp [World.setRow]
  obtain ⟨pre, post, hsp, hput⟩ := getBl_split hb
  have hset' : (σ.set id off cs).blks = pre ++ { b with cs := putCs b.cs off cs } :: post := hput off cs
  have hnd := h.nodup
  rw [hsp, List.pairwise_append] at hnd
  obtain ⟨hn1, hn2, hn3⟩ := hnd
  rw [List.pairwise_cons] at hn2
  have hmem : ∀ c, c ∈ (σ.set id off cs).blks → c = { b with cs := putCs b.cs off cs } ∨ (c ∈ σ.blks ∧ c.g ≠ b.g) := by
    intro c hc
    rw [hset'] at hc
    rcases List.mem_append.1 hc with hc | hc
    · exact .inr ⟨by rw [hsp]; exact List.mem_append_left _ hc, hn3 c hc b List.mem_cons_self⟩
    · rcases List.mem_cons.1 hc with rfl | hc
      · exact .inl rfl
      · exact .inr ⟨by rw [hsp]; exact List.mem_append_right _ (List.mem_cons_of_mem _ hc), fun e => hn2.1 c hc e.symm⟩
  have hgm : ∀ c, c ∈ (σ.set id off cs).blks → ∃ d ∈ σ.blks, d.g = c.g := by
    intro c hc
    rcases hmem c hc with rfl | ⟨hc, _⟩
    · exact ⟨b, hbm, rfl⟩
    · exact ⟨c, hc, rfl⟩
  have hM : ∀ k, St.M E (σ.set id off cs) k → St.M E σ k := by
    intro k hk
    rcases hk with hk | ⟨c, hc, rfl⟩ | hk
    · exact .inl hk
    · obtain ⟨d, hd, e⟩ := hgm c hc
      exact .inr (.inl ⟨d, hd, e⟩)
    · exact .inr (.inr hk)
  refine ⟨h.tmps, h.size, h.defers, ?_, ?_, ?_, ?_, ?_, h.rapart, ?_, ?_, ?_, h.mem⟩
  · intro c hc
    rcases hmem c hc with rfl | ⟨hc, hne⟩
    · exact hset
    · exact (hoth _ hne).trans (h.blks c hc)
  · rw [hset', List.pairwise_append, List.pairwise_cons]
    refine ⟨hn1, ⟨fun c hc => hn2.1 c hc, hn2.2⟩, fun c hc d hd => ?_⟩
    rcases List.mem_cons.1 hd with rfl | hd
    · exact hn3 c hc b List.mem_cons_self
    · exact hn3 c hc d (List.mem_cons_of_mem _ hd)
  · intro c hc
    rcases hmem c hc with rfl | ⟨hc, _⟩
    · exact h.own b hbm
    · exact h.own c hc
  · intro r hr
    exact ownsRow_block (h.rows r hr) (fun g hg => hoth g (fun e => h.apart r hr b hbm (by rw [hg, e])))
  · intro r hr c hc
    obtain ⟨d, hd, e⟩ := hgm c hc
    rw [← e]
    exact h.apart r hr d hd
  · intro v hv
    obtain ⟨h1, h2, h3⟩ := h.views v hv
    exact ⟨by rw [hsz]; exact h1, fun q => h2 (hM _ q), range_block h3 (hoth _ (fun e => h2 (.inr (.inl ⟨b, hbm, e.symm⟩))))⟩
  · refine ⟨h.chg.os, h.chg.tape, h.chg.output, by rw [hsz]; exact h.chg.size, fun k hk hA => ?_⟩
    refine (hoth k (fun e => ?_)).trans (h.chg.block k hk hA)
    subst e
    rcases h.own b hbm with q | q
    · exact hA q
    · omega
  · intro s hs
    refine ⟨by show _ ≤ (w.setRow _ _).heap.size; rw [hsz]; exact (h.snaps s hs).size, fun k hk hm => ?_⟩
    obtain ⟨e, n⟩ := (h.snaps s hs).keep k hk hm
    exact ⟨(hoth k (fun q => n (.inr (.inl ⟨b, hbm, q.symm⟩)))).trans e, fun q => n (hM k q)⟩
end
end Go.Proofs.Ytomfladifefomaa
-- Sy: What an operation of the model makes of a state that is known: a value, a new block, a store. Names no program. Conditions: as each law states them.
namespace Go.Proofs.Ytomfladifefomaa
open Go.RowKit

/-! ### what is asked of the program's types -/
def tSize (P : Program) (t : TypeId) : Option Nat := (P.info? t).map (·.size)
def tRow (P : Program) (t : TypeId) : Option Bool := (P.underlying t).map (·.isRow)
def tZero (P : Program) (t : TypeId) : Option (List Value) := ((P.info? t).bind (·.zero)).map (·.cells.toList)
def tField (P : Program) (s : TypeId) (f : Nat) : Option (Nat × TypeId) := match P.underlying s with
  | some (.struct fs) => (fs[f]?).map fun f => (f.offset, f.type)
  | _ => none
def tFields (P : Program) (s : TypeId) : Option (List (Nat × Nat)) := match P.underlying s with
  | some (.struct fs) => fs.toList.mapM fun f => (tSize P f.type).map fun n => (f.offset, n)
  | _ => none
def tInt (P : Program) (t : TypeId) : Option IntKind := match P.underlying t with
  | some (.int k) => some k
  | _ => none
def tSlice (P : Program) (t : TypeId) : Option TypeId := match P.underlying t with
  | some (.slice e) => some e
  | _ => none
def tStr (P : Program) (t : TypeId) : Bool := match P.underlying t with
  | some .string => true
  | _ => false

def inR (k : IntKind) (x : Int) : Prop := match k with
  | .i64 => -9223372036854775808 ≤ x ∧ x ≤ 9223372036854775807
  | .u8 => 0 ≤ x ∧ x ≤ 255
  | _ => False
theorem wrap_inR {k : IntKind} {x : Int} (h : inR k x) : k.wrap x = x := by
  cases k <;> first | exact IntWalk.i64_in x h | exact IntWalk.u8_in x h | exact h.elim

inductive Out where
  | val (s : Prop) (v : SV)
  | new (t : TypeId) (cs : List SC) (n : Option Nat)
  | put (s : Prop) (id off : Nat) (cs : List SC)
  | no

def ev (σ : St) : Operand → Option SV
  | .tmp t => look σ.tmps t
  | .const v => some (.c (.v v))
  | .func f => some (.c (.f f []))
  | .global _ => none
theorem ev_den {σ : St} {a : Act} {w : World} (h : See σ a w) {x : Operand} {v : SV} (hx : ev σ x = some v) : a.eval x = v.den := by
  cases x with
  | tmp t =>
    have := h.tmps t v hx
    simp [Act.eval, this]
  | const v => cases hx; rfl
  | func f => cases hx; rfl
  | global g => cases hx

def binI (op : BinOp) (k : IntKind) (a b : Int) : Option (Prop × Value) := match op with
  | .add => some (inR k (a + b), .int k (a + b))
  | .sub => some (inR k (a - b), .int k (a - b))
  | .mul => some (inR k (a * b), .int k (a * b))
  | .quo => some (1 ≤ b ∧ inR k a ∧ k = .i64, .int k (a.tdiv b))
  | .rem => some (0 ≤ a ∧ 1 ≤ b, .int k (a % b))
  | .eql => some (True, .bool (decide (a = b)))
  | .neq => some (True, .bool (!decide (a = b)))
  | .lss => some (True, .bool (decide (a < b)))
  | .leq => some (True, .bool (decide (a ≤ b)))
  | .gtr => some (True, .bool (decide (b < a)))
  | .geq => some (True, .bool (decide (b ≤ a)))
  | _ => none
theorem binI_run {P : Program} {op : BinOp} {k : IntKind} {a b : Int} {s : Prop} {v : Value} (h : binI op k a b = some (s, v)) (hs : s) (t : TypeId) (w : World) :
    (binOp op t (.int k a) (.int k b)).run P w = .ok v w := by
  cases op <;> simp only [binI, Option.some.injEq, Prod.mk.injEq, reduceCtorEq] at h <;> obtain ⟨rfl, rfl⟩ := h
  case add => simp [binOp, Op.intArith, wrap_inR hs]
  case sub => simp [binOp, Op.intArith, wrap_inR hs]
  case mul => simp [binOp, Op.intArith, wrap_inR hs]
  case quo =>
    have : b ≠ 0 := by have := hs.1; omega
    obtain ⟨h1, h2, rfl⟩ := hs
    have e := IntWalk.i64_quo' a b ⟨h2.1, h2.2, h1⟩
    simp [binOp, Op.intDiv, this, e]
  case rem =>
    have : b ≠ 0 := by omega
    have e : a.tmod b = a % b := Int.tmod_eq_emod_of_nonneg hs.1
    simp [binOp, Op.intDiv, this, e]
  case eql => simp [binOp, Op.intCmp]; rfl
  case neq => simp [binOp, Op.intCmp]; rfl
  all_goals simp [binOp, Op.intCmp]

def fillF (fs : List (Nat × Nat)) : List SC → List (Nat × List SC) → Option (List SC)
  | z, [] => some z
  | z, (i, cs) :: rest => match fs[i]? with
    | some (off, n) => if cs.length = n ∧ off + n ≤ z.length then fillF fs (putCs z off cs) rest else none
    | none => none
/-- the parts of a literal, each with its cells -/
def partsOf (σ : St) : List (Nat × Operand) → Option (List (Nat × List SC))
  | [] => some []
  | (i, x) :: r => match ev σ x, partsOf σ r with
    | some v, some l => some ((i, v.cells) :: l)
    | _, _ => none
def foldMin : List SV → Option Int
  | [.c (.v (.int .i64 a))] => some a
  | .c (.v (.int .i64 a)) :: r => (foldMin r).map (min a ·)
  | _ => none
def evs (σ : St) : List Operand → Option (List SV)
  | [] => some []
  | x :: r => match ev σ x, evs σ r with
    | some v, some l => some (v :: l)
    | _, _ => none
/-- the pointers that a closure captures -/
def capsOf : List SV → Option (List (Nat × Nat × Nat))
  | [] => some []
  | .c (.p id g o) :: r => (capsOf r).map ((id, g, o) :: ·)
  | _ => none

def getVw : List Vw → Nat → Option Vw
  | [], _ => none
  | v :: r, id => if v.id = id then some v else getVw r id
theorem getVw_mem : ∀ {l : List Vw} {id : Nat} {v : Vw}, getVw l id = some v → v ∈ l
  | [], _, _, h => by cases h
  | x :: r, id, v, h => by
    unfold getVw at h
    split at h
    · cases h; exact List.mem_cons_self
    · exact List.mem_cons_of_mem _ (getVw_mem h)

def loadCs (P : Program) (t : TypeId) (cs : List SC) (off : Nat) (s : Prop) : Out := match tSize P t, tRow P t with
  | some n, some true => if off + n ≤ cs.length then .val s (.a ((cs.drop off).take n)) else .no
  | some _, some false => match cs[off]? with
    | some c => .val s (.c c)
    | none => .no
  | _, _ => .no
def oPick : Option SV → Option SV → Option SV → Out
  | some (.c (.v (.bool t))), vx, vy => match vx, vy with
    | some (.c (.v (.bool p))), some (.c (.v (.bool q))) => .val True (.c (.v (.bool (cond t p q))))
    | some vx, some vy => match t with
      | true => .val True vx
      | false => .val True vy
    | _, _ => .no
  | _, _, _ => .no
def oUn (op : UnOp) : Option SV → Out := fun v => match op, v with
  | .not, some (.c (.v (.bool b))) => .val True (.c (.v (.bool !b)))
  | .neg, some (.c (.v (.int k n))) => .val (inR k (0 - n)) (.c (.v (.int k (0 - n))))
  | _, _ => .no
def oConv : Option SV → Option IntKind → Option IntKind → Out
  | some (.c (.v (.int _ n))), k1, k2 => match k1, k2 with
    | some _, some .u8 => .val True (.c (.v (.int .u8 (n % 256))))
    | some _, some k => .val (inR k n) (.c (.v (.int k n)))
    | _, _ => .no
  | _, _, _ => .no
def oBuild : Option (List Value) → Option (List (Nat × Nat)) → Option (List (Nat × List SC)) → Out
  | some z, some fs, some l => match fillF fs (z.map .v) l with
    | some cs => .val True (.a cs)
    | none => .no
  | _, _, _ => .no
def oFn (f : FuncId) : List Operand → Option (List (Nat × Nat × Nat)) → Out
  | [], some l => .val True (.c (.f f l))
  | _, _ => .no
def oLen (P : Program) (ts : Array TypeId) : Option (List SV) → Out
  | some [.c (.v (.slice _ n _))] => match (ts[0]?).bind (tSlice P) with
    | some _ => .val True (.c (.v (.int .i64 n)))
    | none => .no
  | some [.c (.v (.string s))] => match (ts[0]?).map (tStr P) with
    | some true => .val True (.c (.v (.int .i64 s.size)))
    | _ => .no
  | _ => .no
def oMin : Option (List SV) → Out
  | some [.c (.v (.int .i64 a)), .c (.v (.int .i64 b))] => .val True (.c (.v (.int .i64 (min a b))))
  | _ => .no
def oMax : Option (List SV) → Out
  | some [.c (.v (.int .i64 a)), .c (.v (.int .i64 b))] => .val True (.c (.v (.int .i64 (max a b))))
  | _ => .no
def ivOf (σ : St) : Option Operand → Int → Option Int
  | none, d => some d
  | some x, _ => match ev σ x with
    | some (.c (.v (.int _ n))) => some n
    | _ => none
def oCut2 (s : ByteArray) (b : Bool) : Option Int → Option Int → Out
  | some l, some h => match b with
    | true => .val (0 ≤ l ∧ l ≤ h ∧ h ≤ s.size) (.c (.v (.string (s.extract l.toNat h.toNat))))
    | false => .no
  | _, _ => .no
def oCut (P : Program) (t : TypeId) (σ : St) (lo hi mx : Option Operand) : Option SV → Out
  | some (.c (.v (.string s))) => match mx with
    | none => oCut2 s (tStr P t) (ivOf σ lo 0) (ivOf σ hi s.size)
    | some _ => .no
  | _ => .no
/-- the parts of a literal slice, in their order, all of them -/
def catP (k : Nat) : Nat → List (Nat × List SC) → Option (List SC)
  | _, [] => some []
  | i, (j, cs) :: r => if i = j ∧ cs.length = k then (catP k (i + 1) r).map (cs ++ ·) else none
def oLit (k : Option Nat) (e : Option TypeId) (z : Option (List Value)) (n : Nat) (l : Option (List (Nat × List SC))) : Out := match k, e, z, l with
  | some k, some e, some z, some l => if l.length = n ∧ n * k ≤ 16777216 ∧ z.length = k then match catP k 0 l with
    | some cs => .new e cs (some n)
    | none => .no else .no
  | _, _, _, _ => .no
def binS (op : BinOp) (a b : ByteArray) : Option (Prop × Value) := match op with
  | .add => some ((a.size : Int) + b.size ≤ 9223372036854775807, .string (a ++ b))
  | .eql => some (True, .bool (a.toList == b.toList))
  | .neq => some (True, .bool (!(a.toList == b.toList)))
  | .lss => some (True, .bool (Op.bytesLess a.toList b.toList))
  | .gtr => some (True, .bool (!(Op.bytesLess a.toList b.toList || a.toList == b.toList)))
  | .leq => some (True, .bool (Op.bytesLess a.toList b.toList || a.toList == b.toList))
  | .geq => some (True, .bool (!Op.bytesLess a.toList b.toList))
  | _ => none
def oBin2 (op : BinOp) : Option SV → Option SV → Out
  | some (.c (.v (.int k a))), some (.c (.v (.int k' b))) => if k = k' then match binI op k a b with
    | some (s, v) => .val s (.c (.v v))
    | none => .no else .no
  | some (.c (.v (.string a))), some (.c (.v (.string b))) => match binS op a b with
    | some (s, v) => .val s (.c (.v v))
    | none => .no
  | _, _ => .no
def stepO (P : Program) (o : Oper) (σ : St) : Out := match o.op with
  | .move x | .assign x => match ev σ x with
    | some v => .val True v
    | none => .no
  | .pick c x y => oPick (ev σ c) (ev σ x) (ev σ y)
  | .load t x => match ev σ x with
    | some (.c (.p id g off)) => match getBl σ.blks id with
      | some b => loadCs P t b.cs off (b.g = g)
      | none => .no
    | some (.c (.q id g q off)) => match getVw σ.views id with
      | some v => loadCs P t (v.cs.map .v) off (v.g = g ∧ v.o = q)
      | none => .no
    | _ => .no
  | .store t x y => match ev σ x, ev σ y with
    | some (.c (.p id g off)), some v => match getBl σ.blks id, tSize P t with
      | some b, some n => if v.cells.length = n ∧ off + n ≤ b.cs.length then .put (b.g = g ∧ ones v.cells) id off v.cells else .no
      | _, _ => .no
    | _, _ => .no
  | .alloc t => match tZero P t with
    | some z => .new t (z.map .v) none
    | none => .no
  | .box t x => match ev σ x with
    | some v => .new t v.cells none
    | none => .no
  | .fieldAddr s x f => match ev σ x, tField P s f with
    | some (.c (.p id g off)), some (o, ft) => match tSize P ft with
      | some n => if n ≠ 0 then .val True (.c (.p id g (off + o))) else .no
      | none => .no
    | some (.c (.q id g q off)), some (o, ft) => match tSize P ft with
      | some n => if n ≠ 0 then .val True (.c (.q id g q (off + o))) else .no
      | none => .no
    | _, _ => .no
  | .field s x f => match ev σ x, tField P s f with
    | some v, some (o, ft) => match v with
      | .a l => loadCs P ft l o True
      | .c (.v (.agg cs)) => loadCs P ft (cs.toList.map .v) o True
      | _ => .no
    | _, _ => .no
  | .extract x i => match ev σ x with
    | some (.c (.v (.tuple vs))) => match vs[i]? with
      | some v => .val True (.c (.v v))
      | none => .no
    | _ => .no
  | .binOp op _ x y _ => oBin2 op (ev σ x) (ev σ y)
  | .slice t x lo hi mx => oCut P t σ lo hi mx (ev σ x)
  | .buildSlice t n parts => oLit ((tSlice P t).bind (tSize P)) (tSlice P t) ((tSlice P t).bind (tZero P)) n (partsOf σ parts.toList)
  | .unOp op _ x => oUn op (ev σ x)
  | .convert src dst x => oConv (ev σ x) (tInt P src) (tInt P dst)
  | .build t parts => oBuild (tZero P t) (tFields P t) (partsOf σ parts.toList)
  | .nilCheck x => match ev σ x with
    | some (.c (.p id g off)) => .val True (.c (.p id g off))
    | some (.c (.q id g o r)) => .val True (.c (.q id g o r))
    | _ => .no
  | .makeFunc fn first captured => match fn with
    | .func f => oFn f first.toList ((evs σ captured.toList).bind capsOf)
    | _ => .no
  | .call c => match c.callee with
    | .builtin .len => oLen P c.argTypes (evs σ c.args.toList)
    | .builtin .min => oMin (evs σ c.args.toList)
    | .builtin .max => oMax (evs σ c.args.toList)
    | _ => .no
  | _ => .no
end Go.Proofs.Ytomfladifefomaa
-- Sz: That the model's operations do what 'stepO' says. Names no program. Conditions: as each law states them.
namespace Go.Proofs.Ytomfladifefomaa
open Go.RowKit
variable {P : Program} {σ : St} {a : Act} {w : World}

theorem range_of_blk {g : Nat} {t : TypeId} {cs : List SC} (h : Blk w g t (dens cs)) (off n : Nat) (_hl : off + n ≤ cs.length) : w.rangeAt g off (((cs.drop off).take n).map SC.den) := by
  intro j v hj
  have hjn : j < n := by
    have := (List.getElem?_eq_some_iff.1 hj).1
    simp at this; omega
  rw [h.cell]
  simp only [List.getElem?_map, List.getElem?_take_of_lt hjn, List.getElem?_drop] at hj
  simp only [dens, List.getElem?_toArray, List.getElem?_map]
  exact hj
theorem run_loadCs {g q : Nat} {t : TypeId} {cs : List SC} {off : Nat} {s : Prop} {s' : Prop} {v : SV} (hc : ∀ j c, cs[j]? = some c → w.cell? ⟨g, q + j, none⟩ = some c.den)
    (h : loadCs P t cs off s = .val s' v) : (Instr.loadAt t (.pointer (some ⟨g, q + off, none⟩))).run P w = .ok v.den w ∧ s' = s := by
  unfold loadCs at h
  have hz : ∀ n, tSize P t = some n → (P.info? t).map (·.size) = some n := fun n h => h
  split at h
  · rename_i n hn hr
    split at h
    · rename_i hl
      cases h
      obtain ⟨d, hd, hdr⟩ : ∃ d, P.underlying t = some d ∧ d.isRow = true := by
        unfold tRow at hr
        cases hu : P.underlying t with
        | none => rw [hu] at hr; cases hr
        | some d => rw [hu] at hr; exact ⟨d, rfl, by simpa using hr⟩
      refine ⟨?_, rfl⟩
      refine run_loadAt_mid w g (q + off) t (((cs.drop off).take n).map SC.den) d (fun j v hj => ?_) hd hdr (by rw [hz n hn]; simp; omega)
      have hjn : j < n := by
        have := (List.getElem?_eq_some_iff.1 hj).1
        simp at this; omega
      simp only [List.getElem?_map, List.getElem?_take_of_lt hjn, List.getElem?_drop, Option.map_eq_some_iff] at hj
      obtain ⟨c, hc1, rfl⟩ := hj
      have := hc _ _ hc1
      rwa [← Nat.add_assoc] at this
    · cases h
  · rename_i n hn hr
    split at h
    · rename_i c hcc
      cases h
      obtain ⟨d, hd, hdr⟩ : ∃ d, P.underlying t = some d ∧ d.isRow = false := by
        unfold tRow at hr
        cases hu : P.underlying t with
        | none => rw [hu] at hr; cases hr
        | some d => rw [hu] at hr; exact ⟨d, rfl, by simpa using hr⟩
      refine ⟨?_, rfl⟩
      have hagg : (isAgg t).run P w = .ok false w := by
        unfold isAgg
        rw [Sem.run_bind, run_underlying hd w]
        cases d <;> simp_all
      have := hc off c hcc
      simp [Instr.loadAt, Instr.sureAddr, loadVar, Sem.run_bind, hagg, this, SV.den]
    · cases h
  · cases h
theorem run_part {t : TypeId} {cs : List SC} {off : Nat} {s : Prop} {s' : Prop} {v : SV}
    (h : loadCs P t cs off s = .val s' v) : (part t (dens cs) off).run P w = .ok v.den w ∧ s' = s := by
  unfold loadCs at h
  split at h
  · rename_i n hn hr
    split at h
    · rename_i hl
      cases h
      obtain ⟨d, hd, hdr⟩ : ∃ d, P.underlying t = some d ∧ d.isRow = true := by
        unfold tRow at hr
        cases hu : P.underlying t with
        | none => rw [hu] at hr; cases hr
        | some d => rw [hu] at hr; exact ⟨d, rfl, by simpa using hr⟩
      obtain ⟨i, hi, hin⟩ : ∃ i, P.info? t = some i ∧ i.size = n := by
        unfold tSize at hn
        cases hu : P.info? t with
        | none => rw [hu] at hn; cases hn
        | some i => rw [hu] at hn; exact ⟨i, rfl, by simpa using hn⟩
      refine ⟨?_, rfl⟩
      have hagg : (isAgg t).run P w = .ok true w := by
        unfold isAgg
        rw [Sem.run_bind, run_underlying hd w]
        cases d <;> simp_all
      simp [part, Sem.run_bind, hagg, sizeOf, typeInfo, hi, hin, SV.den, dens, List.extract_eq_take_drop, List.map_drop, List.map_take]
    · cases h
  · rename_i n hn hr
    split at h
    · rename_i c hcc
      cases h
      obtain ⟨d, hd, hdr⟩ : ∃ d, P.underlying t = some d ∧ d.isRow = false := by
        unfold tRow at hr
        cases hu : P.underlying t with
        | none => rw [hu] at hr; cases hr
        | some d => rw [hu] at hr; exact ⟨d, rfl, by simpa using hr⟩
      refine ⟨?_, rfl⟩
      have hagg : (isAgg t).run P w = .ok false w := by
        unfold isAgg
        rw [Sem.run_bind, run_underlying hd w]
        cases d <;> simp_all
      have : (dens cs)[off]? = some c.den := by simp [dens, hcc]
      simp [part, Sem.run_bind, hagg, this, SV.den]
    · cases h
  · cases h
theorem tField_spec {s f o : Nat} {ft : TypeId} (h : tField P s f = some (o, ft)) : ∃ fs fl, P.underlying s = some (.struct fs) ∧ fs[f]? = some fl ∧ fl.offset = o ∧ fl.type = ft := by
  unfold tField at h
  split at h
  · rename_i fs hu
    cases hf : fs[f]? with
    | none => rw [hf] at h; cases h
    | some fl =>
      rw [hf] at h
      simp only [Option.map_some, Option.some.injEq, Prod.mk.injEq] at h
      exact ⟨fs, fl, hu, hf, h.1, h.2⟩
  · cases h
theorem run_fieldAt {s f o g off n : Nat} {ft : TypeId} (h : tField P s f = some (o, ft)) (hn : tSize P ft = some n) (h0 : n ≠ 0) :
    (Instr.fieldAt s (.pointer (some ⟨g, off, none⟩)) f).run P w = .ok (.pointer (some ⟨g, off + o, none⟩)) w := by
  obtain ⟨fs, fl, hu, hf, rfl, rfl⟩ := tField_spec h
  obtain ⟨i, hi, hin⟩ : ∃ i, P.info? fl.type = some i ∧ i.size = n := by
    unfold tSize at hn
    cases hu : P.info? fl.type with
    | none => rw [hu] at hn; cases hn
    | some i => rw [hu] at hn; exact ⟨i, rfl, by simpa using hn⟩
  simp [Instr.fieldAt, run_underlying hu, hf, Instr.sureAddr, fieldPlace, sizeOf, typeInfo, hi, hin, h0, Addr.add_mid]
theorem run_field {s f o : Nat} {ft : TypeId} {cs : List SC} {s' : Prop} {v : SV} (h : tField P s f = some (o, ft)) (hl : loadCs P ft cs o True = .val s' v) :
    (Instr.field s (.agg (dens cs)) f).run P w = .ok v.den w := by
  obtain ⟨fs, fl, hu, hf, rfl, rfl⟩ := tField_spec h
  have := (run_part (w := w) hl).1
  simp [Instr.field, run_underlying hu, hf, asAgg, this]
theorem evs_den (h : See σ a w) : ∀ {l : List Operand} {vs : List SV}, evs σ l = some vs → l.map a.eval = vs.map SV.den
  | [], vs, hx => by cases hx; rfl
  | x :: r, vs, hx => by
    unfold evs at hx
    split at hx
    · rename_i v l hv hl
      cases hx
      simp [ev_den h hv, evs_den h hl]
    · cases hx
theorem capsOf_den : ∀ {l : List SV} {cs : List (Nat × Nat × Nat)}, capsOf l = some cs → l.map SV.den = cs.map fun c => Value.pointer (some ⟨c.2.1, c.2.2, none⟩)
  | [], cs, h => by cases h; rfl
  | x :: r, cs, h => by
    unfold capsOf at h
    split at h
    · rename_i hh; cases hh
    · rename_i id g o r' hh
      cases hh
      cases hr : capsOf r with
      | none => rw [hr] at h; cases h
      | some l =>
        rw [hr] at h
        cases h
        simp [capsOf_den hr, SV.den, SC.den]
    · cases h
theorem dens_set (z : List SC) (o : Nat) (x : SC) : dens (z.set o x) = (dens z).setIfInBounds o x.den := by
  simp [dens, List.map_set]
theorem putCs_cons (z : List SC) (o : Nat) (x : SC) (xs : List SC) (h : o + (xs.length + 1) ≤ z.length) : putCs z o (x :: xs) = putCs (z.set o x) (o + 1) xs := by
  rw [putCs_eq z o (x :: xs) (by simp; omega), putCs_eq (z.set o x) (o + 1) xs (by simp; omega)]
  have e : z.set o x = z.take o ++ x :: z.drop (o + 1) := by rw [List.set_eq_take_append_cons_drop, if_pos (by omega)]
  have h1 : (z.set o x).take (o + 1) = z.take o ++ [x] := by
    rw [e, List.take_append, List.length_take, Nat.min_eq_left (by omega)]
    simp [List.take_take]
  have h2 : (z.set o x).drop (o + 1 + xs.length) = z.drop (o + (x :: xs).length) := by
    rw [e, List.drop_append, List.length_take, Nat.min_eq_left (by omega)]
    rw [List.drop_eq_nil_of_le (by simp; omega), show o + 1 + xs.length - o = xs.length + 1 by omega, List.nil_append, List.drop_succ_cons, List.drop_drop]
    congr 1
    simp; omega
  rw [h1, h2]
  simp
theorem foldl_putCs (off : Nat) : ∀ (c : List SC) (k : Nat) (z : List SC), off + k + c.length ≤ z.length →
    ((c.map SC.den).zipIdx k).foldl (fun cs x => cs.setIfInBounds (off + x.2) x.1) (dens z) = dens (putCs z (off + k) c)
  | [], k, z, h => by
    rw [putCs_eq z _ [] (by simpa using h)]
    simp
  | x :: xs, k, z, h => by
    have ih := foldl_putCs off xs (k + 1) (z.set (off + k) x) (by simp at h ⊢; omega)
    rw [putCs_cons z _ x xs (by simp at h; omega)]
    simp only [List.map_cons, List.zipIdx_cons, List.foldl_cons]
    rw [← dens_set]
    exact ih
theorem fillF_den {places : Nat → Option (Nat × Nat)} {fs : List (Nat × Nat)} (hp : ∀ i x, fs[i]? = some x → places i = some x) :
    ∀ (l : List (Nat × List SC)) (z cs : List SC), fillF fs z l = some cs → ∀ (vs : List (Nat × Value)), vs.map (fun x => (x.1, x.2.cells)) = l.map (fun x => (x.1, dens x.2)) → Instr.fill places (dens z) vs = some (dens cs)
  | [], z, cs, h, vs, hv => by
    cases h
    cases vs with
    | nil => rfl
    | cons x r => simp at hv
  | (i, c) :: rest, z, cs, h, vs, hv => by
    cases vs with
    | nil => simp at hv
    | cons x r =>
      obtain ⟨j, u⟩ := x
      simp only [List.map_cons, List.cons.injEq, Prod.mk.injEq] at hv
      obtain ⟨⟨rfl, hu⟩, hr⟩ := hv
      unfold fillF at h
      split at h
      · rename_i off n hfs
        split at h
        · rename_i hl
          have ih := fillF_den hp rest _ cs h r hr
          unfold Instr.fill
          rw [hp _ _ hfs]
          have hsz : u.cells.size = n := by rw [hu]; simp [dens, hl.1]
          have hzs : (dens z).size = z.length := by simp [dens]
          have key : u.cells.zipIdx.foldl (fun cs x => cs.setIfInBounds (off + x.2) x.1) (dens z) = dens (putCs z off c) := by
            have h1 := foldl_putCs off c 0 z (by omega)
            rw [hu, ← Array.foldl_toList]
            simpa [dens] using h1
          rw [← key] at ih
          have hcond : ¬ ((decide (u.cells.size ≠ n) || decide (off + u.cells.size > (dens z).size)) = true) := by
            rw [hsz, hzs]; simp; omega
          show (if (decide (u.cells.size ≠ n) || decide (off + u.cells.size > (dens z).size)) = true then none else _) = _
          rw [if_neg hcond]
          exact ih
        · cases h
      · cases h
theorem partsOf_den (h : See σ a w) : ∀ {l : List (Nat × Operand)} {ps : List (Nat × List SC)}, partsOf σ l = some ps →
    (l.map fun x => (x.1, a.eval x.2)).map (fun x => (x.1, x.2.cells)) = ps.map (fun x => (x.1, dens x.2))
  | [], ps, hx => by cases hx; rfl
  | (i, x) :: r, ps, hx => by
    unfold partsOf at hx
    split at hx
    · rename_i v l hv hl
      cases hx
      simp [ev_den h hv, SV.cells_den, partsOf_den h hl]
    · cases hx
theorem tFields_spec {s : TypeId} {l : List (Nat × Nat)} (h : tFields P s = some l) : ∃ fs, P.underlying s = some (.struct fs) ∧ fs.toList.mapM (fun f => (tSize P f.type).map fun n => (f.offset, n)) = some l := by
  unfold tFields at h
  split at h
  · rename_i fs hu; exact ⟨fs, hu, h⟩
  · cases h
theorem mapM_some_at {α β : Type} {f : α → Option β} : ∀ {l : List α} {r : List β}, l.mapM f = some r → l.length = r.length ∧ ∀ (i : Nat) (x : α), l[i]? = some x → ∃ y, f x = some y ∧ r[i]? = some y
  | [], r, h => by
    simp at h; subst h; exact ⟨rfl, fun i x hx => by simp at hx⟩
  | x :: l, r, h => by
    rw [List.mapM_cons] at h
    cases hx : f x with
    | none => rw [hx] at h; cases h
    | some y =>
      rw [hx] at h
      cases hl : l.mapM f with
      | none => rw [hl] at h; cases h
      | some r' =>
        rw [hl] at h
        cases h
        obtain ⟨h1, h2⟩ := mapM_some_at hl
        refine ⟨by simp [h1], fun i z hz => ?_⟩
        cases i with
        | zero => simp at hz; subst hz; exact ⟨y, hx, rfl⟩
        | succ i => simpa using h2 i z (by simpa using hz)
theorem tSize_spec {t n : Nat} (h : tSize P t = some n) : ∃ i, P.info? t = some i ∧ i.size = n := by
  unfold tSize at h
  cases hu : P.info? t with
  | none => rw [hu] at h; cases h
  | some i => rw [hu] at h; exact ⟨i, rfl, by simpa using h⟩
theorem tZero_spec {t : TypeId} {z : List Value} (h : tZero P t = some z) : ∃ i v, P.info? t = some i ∧ i.zero = some v ∧ v.cells.toList = z := by
  unfold tZero at h
  cases hu : P.info? t with
  | none => rw [hu] at h; cases h
  | some i =>
    rw [hu] at h
    cases hz : i.zero with
    | none => simp [hz] at h
    | some v => simp [hz] at h; exact ⟨i, v, rfl, hz, h⟩
theorem run_fields (w : World) : ∀ (l : List Field) (r : List (Nat × Nat)), l.mapM (fun f => (tSize P f.type).map fun n => (f.offset, n)) = some r →
    (l.mapM fun f => (do pure (f.offset, ← sizeOf f.type) : Sem (Nat × Nat))).run P w = .ok r w
  | [], r, h => by
    simp at h; subst h; rfl
  | f :: l, r, h => by
    rw [List.mapM_cons] at h
    cases hx : tSize P f.type with
    | none => rw [hx] at h; cases h
    | some n =>
      rw [hx] at h
      cases hl : l.mapM (fun f => (tSize P f.type).map fun n => (f.offset, n)) with
      | none => rw [hl] at h; cases h
      | some r' =>
        rw [hl] at h
        cases h
        obtain ⟨i, hi, hin⟩ := tSize_spec hx
        have ih := run_fields w l r' hl
        rw [List.mapM_cons]
        simp [Sem.run_bind, sizeOf, typeInfo, hi, hin] at ih ⊢
        simp [ih]
theorem dens_v (l : List Value) : dens (l.map .v) = l.toArray := by
  have e : SC.den ∘ SC.v = id := rfl
  simp [dens, e]
theorem run_build {t : TypeId} {z : List Value} {fs : List (Nat × Nat)} {l : List (Nat × List SC)} {cs : List SC} (hz : tZero P t = some z) (hf : tFields P t = some fs)
    (h : fillF fs (z.map .v) l = some cs) {ps : Array (Nat × Value)} (hp : ps.toList.map (fun x => (x.1, x.2.cells)) = l.map (fun x => (x.1, dens x.2))) :
    (Instr.build t ps).run P w = .ok (.agg (dens cs)) w := by
  obtain ⟨i, v, hi, hv, rfl⟩ := tZero_spec hz
  obtain ⟨fls, hu, hm⟩ := tFields_spec hf
  have hpl := run_fields (P := P) w fls.toList fs hm
  have hfill := fillF_den (places := (fs.toArray[·]?)) (fs := fs) (fun i x hx => by simpa using hx) l _ cs h ps.toList hp
  rw [dens_v] at hfill
  have hpl2 : (fls.mapM fun f => (do pure (f.offset, ← sizeOf f.type) : Sem (Nat × Nat))).run P w = .ok fs.toArray w := by
    rw [Array.mapM_eq_mapM_toList]
    simp only [map_eq_pure_bind, Sem.run_bind, hpl, Result.andThen_ok, Sem.run_pure]
  simp only [Array.toArray_toList] at hfill
  simp only [Instr.build, Sem.run_bind, zeroValue, typeInfo, run_program, Result.andThen_ok, hi, hv, Sem.run_pure, run_underlying hu, hpl2, hfill]
end Go.Proofs.Ytomfladifefomaa
-- Sa: The soundness of the steps. Names no program. Conditions: as each law states them.
namespace Go.Proofs.Ytomfladifefomaa
open Go.RowKit
variable {P : Program} {σ : St} {a : Act} {w : World}
def mkV (n : Option Nat) (g : Nat) : Value := match n with
  | none => .pointer (some ⟨g, 0, none⟩)
  | some n => .slice (some ⟨g, 0, none⟩) n n
def mkS (n : Option Nat) (id g : Nat) : SV := match n with
  | none => .c (.p id g 0)
  | some n => .c (.s id g 0 n n)
theorem mkS_den (n : Option Nat) (id g : Nat) : (mkS n id g).den = mkV n g := by cases n <;> rfl
theorem run_val {α : Type} {x : Sem α} {v : α} {f : α → Sem Next} (h : x.run P w = .ok v w) : (x >>= f).run P w = (f v).run P w := by
  rw [Sem.run_bind, h]; rfl
theorem blk_cells {g : Nat} {t : TypeId} {cs : List SC} (h : Blk w g t (dens cs)) : ∀ j c, cs[j]? = some c → w.cell? ⟨g, 0 + j, none⟩ = some c.den := by
  intro j c hc
  rw [Nat.zero_add, h.cell]
  simp [dens, hc]
theorem view_cells {g o : Nat} {cs : List Value} (h : w.rangeAt g o cs) : ∀ j c, (cs.map SC.v)[j]? = some c → w.cell? ⟨g, o + j, none⟩ = some c.den := by
  intro j c hc
  simp only [List.getElem?_map, Option.map_eq_some_iff] at hc
  obtain ⟨v, hv, rfl⟩ := hc
  exact h j v hv
theorem evs_args (h : See σ a w) {l : Array Operand} {vs : List SV} (hx : evs σ l.toList = some vs) : l.map a.eval = (vs.map SV.den).toArray := by
  rw [← evs_den h hx, ← Array.toList_map, Array.toArray_toList]
theorem run_convert_int {src dst : TypeId} {k1 k2 : IntKind} (h1 : tInt P src = some k1) (h2 : tInt P dst = some k2) (k : IntKind) (n : Int) :
    (convert src dst (.int k n)).run P w = .ok (.int k2 (k2.wrap n)) w := by
  have hu1 : P.underlying src = some (.int k1) := by
    unfold tInt at h1
    split at h1
    · rename_i hh; cases h1; exact hh
    · cases h1
  have hu2 : P.underlying dst = some (.int k2) := by
    unfold tInt at h2
    split at h2
    · rename_i hh; cases h2; exact hh
    · cases h2
  simp [convert, run_underlying hu1, run_underlying hu2, Conv.intToInt]
theorem binS_run {op : BinOp} {p q : ByteArray} {s : Prop} {v : Value} (h : binS op p q = some (s, v)) (hs : s) (t : TypeId) (w : World) :
    (binOp op t (.string p) (.string q)).run P w = .ok v w := by
  cases op <;> simp only [binS, Option.some.injEq, Prod.mk.injEq, reduceCtorEq] at h <;> obtain ⟨rfl, rfl⟩ := h
  case add =>
    have hm : IntKind.i64.max = 9223372036854775807 := by decide
    have : ¬ (((p.size + q.size : Nat) : Int) > IntKind.i64.max) := by rw [hm]; omega
    simp only [binOp, Op.stringOp]
    rw [if_neg this]; rfl
  all_goals simp [binOp, Op.stringOp]
theorem ivOf_run (hr : See σ a w) {x : Option Operand} {d n : Int} (h : ivOf σ x d = some n) : (x = none ∧ n = d) ∨ ∃ y k, x = some y ∧ a.eval y = .int k n := by
  cases x with
  | none => cases h; exact .inl ⟨rfl, rfl⟩
  | some y =>
    unfold ivOf at h
    split at h
    · rename_i hh; cases hh
    · rename_i z _ hz
      cases hz
      split at h
      · rename_i k m hm
        cases h
        exact .inr ⟨_, k, rfl, ev_den hr hm⟩
      · cases h
set_option maxHeartbeats 1000000 in
theorem stepO_val {o : Oper} {s : Prop} {v : SV} (h : stepO P o σ = .val s v) (hs : s) (hr : See σ a w) : (execOp a.eval o).run P w = .ok (.value v.den) w := by
  unfold stepO at h
  unfold execOp
  generalize hop : o.op = op at h ⊢
  cases op <;> try simp only [reduceCtorEq] at h
  case move x =>
    split at h
    · rename_i u hu; cases h; simp [ev_den hr hu]
    · cases h
  case assign x =>
    split at h
    · rename_i u hu; cases h; simp [ev_den hr hu]
    · cases h
  case pick c x y =>
    unfold oPick at h
    split at h
    · rename_i t ht
      have hc := ev_den hr ht
      simp only [SV.den, SC.den] at hc
      split at h
      · rename_i p q hp hq
        cases h
        have h1 := ev_den hr hp
        have h2 := ev_den hr hq
        cases t <;> simp [hc, h1, h2, asBool, SV.den, SC.den]
      · rename_i hx hy
        split at h
        · cases h; simp [hc, asBool]; exact ev_den hr hx
        · cases h; simp [hc, asBool]; exact ev_den hr hy
      · cases h
    · cases h
  case load t x =>
    split at h
    · rename_i id g off hx
      have hx' := ev_den hr hx
      split at h
      · rename_i b hb
        obtain ⟨h1, rfl⟩ := run_loadCs (P := P) (w := w) (g := b.g) (q := 0) (blk_cells (hr.blks b (getBl_mem hb))) h
        rw [Nat.zero_add] at h1
        rw [show b.g = g from hs] at h1
        simp only [hx', SV.den, SC.den]
        rw [run_val h1]; rfl
      · cases h
    · rename_i id g q off hx
      have hx' := ev_den hr hx
      split at h
      · rename_i b hb
        have hv := hr.views b (getVw_mem hb)
        obtain ⟨h1, rfl⟩ := run_loadCs (P := P) (w := w) (g := b.g) (q := b.o) (view_cells hv) h
        rw [hs.1, hs.2] at h1
        simp only [hx', SV.den, SC.den]
        rw [run_val h1]; rfl
      · cases h
    · cases h
  case store t x y =>
    split at h
    · split at h
      · split at h <;> cases h
      · cases h
    · cases h
  case alloc t => split at h <;> cases h
  case box t x => split at h <;> cases h
  case fieldAddr s x f =>
    split at h
    · rename_i id g off o' ft hx hf
      have hx' := ev_den hr hx
      split at h
      · rename_i n hn
        split at h
        · rename_i h0
          cases h
          simp only [hx', SV.den, SC.den]
          rw [run_val (run_fieldAt hf hn h0)]; rfl
        · cases h
      · cases h
    · rename_i id g q off o' ft hx hf
      have hx' := ev_den hr hx
      split at h
      · rename_i n hn
        split at h
        · rename_i h0
          cases h
          simp only [hx', SV.den, SC.den]
          rw [run_val (run_fieldAt hf hn h0)]; simp [Nat.add_assoc]
        · cases h
      · cases h
    · cases h
  case field s x f =>
    split at h
    · rename_i u o' ft hx hf
      have hx' := ev_den hr hx
      split at h
      · rename_i l
        simp only [hx', SV.den]
        rw [run_val (run_field hf h)]; rfl
      · rename_i cs
        have e : dens (cs.toList.map .v) = cs := by rw [dens_v]
        have := run_field (w := w) hf h
        rw [e] at this
        simp only [hx', SV.den, SC.den]
        rw [run_val this]; rfl
      · cases h
    · cases h
  case extract x i =>
    split at h
    · rename_i vs hx
      have hx' := ev_den hr hx
      split at h
      · rename_i u hu
        cases h
        simp [hx', SV.den, SC.den, Instr.extract, hu]
      · cases h
    · cases h
  case binOp op t x y t' =>
    unfold oBin2 at h
    split at h
    · rename_i k p k' q hx hy
      have hx' := ev_den hr hx
      have hy' := ev_den hr hy
      simp only [SV.den, SC.den] at hx' hy'
      split at h
      · rename_i hk
        subst hk
        split at h
        · rename_i s' u hb
          cases h
          have hrun := binI_run (P := P) hb hs t w
          have hg : (eqGuard op t x y (.int k p) (.int k q)).run P w = .ok () w := by
            unfold eqGuard
            cases op <;> simp
          simp only [hx', hy', Sem.run_bind, hg, Result.andThen_ok, hrun, Sem.run_pure, SV.den, SC.den]
        · cases h
      · cases h
    · rename_i p q hx hy
      have hx' := ev_den hr hx
      have hy' := ev_den hr hy
      simp only [SV.den, SC.den] at hx' hy'
      split at h
      · rename_i s' u hb
        cases h
        have hrun := binS_run (P := P) hb hs t w
        have hg : (eqGuard op t x y (.string p) (.string q)).run P w = .ok () w := by
          unfold eqGuard
          cases op <;> simp
        simp only [hx', hy', Sem.run_bind, hg, Result.andThen_ok, hrun, Sem.run_pure, SV.den, SC.den]
      · cases h
    · cases h
  case slice t x lo hi mx =>
    unfold oCut at h
    split at h
    · rename_i str hx
      have hx' := ev_den hr hx
      split at h
      · unfold oCut2 at h
        split at h
        rotate_left
        · cases h
        rename_i l' h' hl hh
        split at h
        rotate_left
        · cases h
        rename_i ht
        cases h
        have hu : P.underlying t = some .string := by
          unfold tStr at ht
          split at ht
          · rename_i hh; exact hh
          · cases ht
        obtain ⟨s1, s2, s3⟩ := hs
        obtain ⟨l, rfl⟩ := Int.eq_ofNat_of_zero_le s1
        obtain ⟨m, rfl⟩ := Int.eq_ofNat_of_zero_le (by omega : 0 ≤ h')
        have e1 := ivOf_run hr hl
        have e2 := ivOf_run hr hh
        simp only [hx', SV.den, SC.den, Int.toNat_natCast]
        have hrun : (Instr.sliceAt t (.string str) (lo.map a.eval) (hi.map a.eval) (none : Option Value)).run P w = .ok (.string (str.extract l m)) w := by
          have hb : (Instr.sliceBounds false str.size str.size (lo.map a.eval) (hi.map a.eval) none).run P w = .ok (l, m, str.size) w := by
            rcases e1 with ⟨rfl, e1⟩ | ⟨x1, k1, rfl, e1⟩ <;> rcases e2 with ⟨rfl, e2⟩ | ⟨x2, k2, rfl, e2⟩
            · have q1 : l = 0 := by omega
              have q2 : m = str.size := by omega
              subst q1; subst q2
              simp [Instr.sliceBounds]
            · have q1 : l = 0 := by omega
              subst q1
              have c2 : 0 ≤ (m : Int) ∧ (m : Int) ≤ (str.size : Int) := ⟨by omega, by omega⟩
              simp [Instr.sliceBounds, e2, run_sliceBound w k2 (m : Int) str.size _ c2.1 c2.2]
            · have q2 : m = str.size := by omega
              subst q2
              have c1 : 0 ≤ (l : Int) ∧ (l : Int) ≤ (str.size : Int) := ⟨by omega, by omega⟩
              simp [Instr.sliceBounds, e1, run_sliceBound w k1 (l : Int) str.size _ c1.1 c1.2]
            · have c2 : 0 ≤ (m : Int) ∧ (m : Int) ≤ (str.size : Int) := ⟨by omega, by omega⟩
              have c1 : 0 ≤ (l : Int) ∧ (l : Int) ≤ (m : Int) := ⟨by omega, by omega⟩
              simp [Instr.sliceBounds, e1, e2, run_sliceBound w k2 (m : Int) str.size _ c2.1 c2.2, run_sliceBound w k1 (l : Int) m _ c1.1 c1.2]
          simp [Instr.sliceAt, Instr.slice, run_underlying hu, hb]
        rw [Option.map_none, run_val hrun]; rfl
      · cases h
    · cases h
  case unOp op t x =>
    unfold oUn at h
    split at h
    · rename_i b hx
      cases h
      simp [ev_den hr hx, SV.den, SC.den, Op.unary]
    · rename_i k n hx
      cases h
      have := wrap_inR hs
      simp only [ev_den hr hx, SV.den, SC.den, Op.unary, Op.intArith, this, Sem.run_bind, Sem.run_pure, Result.andThen_ok]
    · cases h
  case convert src dst x =>
    unfold oConv at h
    split at h
    · rename_i k n hx
      have hx' := ev_den hr hx
      split at h
      · rename_i k1 h1 h2
        cases h
        have := run_convert_int (w := w) h1 h2 k n
        simp only [hx', SV.den, SC.den]
        rw [run_val this, IntKind.wrap_u8]; rfl
      · rename_i k1 k2 _ h1 h2
        cases h
        have := run_convert_int (w := w) h1 h2 k n
        simp only [hx', SV.den, SC.den]
        rw [run_val this, wrap_inR hs]; rfl
      · cases h
    · cases h
  case build t parts =>
    unfold oBuild at h
    split at h
    · rename_i z fs l hz hf hl
      split at h
      · rename_i cs hcs
        cases h
        have hd := partsOf_den hr hl
        have := run_build (P := P) (w := w) hz hf hcs (ps := parts.map fun (i, x) => (i, a.eval x)) (by simpa using hd)
        rw [run_val this]; rfl
      · cases h
    · cases h
  case buildSlice t n parts =>
    unfold oLit at h
    (repeat' split at h) <;> cases h
  case nilCheck x =>
    split at h
    · rename_i id g off hx
      cases h
      simp [ev_den hr hx, SV.den, SC.den]
    · rename_i id g q off hx
      cases h
      simp [ev_den hr hx, SV.den, SC.den]
    · cases h
  case makeFunc fn first captured =>
    split at h
    rotate_left
    · cases h
    unfold oFn at h
    split at h
    · rename_i f l hf hl
      cases h
      obtain ⟨vs, hvs, hcl⟩ := Option.bind_eq_some_iff.1 hl
      have h1 := evs_args hr hvs
      have h2 : first = #[] := by simpa using hf
      subst h2
      rw [capsOf_den hcl] at h1
      simp [h1, Instr.makeFunc, SV.den, SC.den]
    · cases h
  case call c =>
    split at h
    · rename_i hc
      unfold oLen at h
      split at h
      · rename_i A n cp hv
        have h1 := evs_args hr hv
        split at h
        · rename_i e he
          cases h
          obtain ⟨t, ht, hts⟩ := Option.bind_eq_some_iff.1 he
          have hu : P.underlying t = some (.slice e) := by
            unfold tSlice at hts
            split at hts
            · rename_i e' hh; cases hts; exact hh
            · cases hts
          simp [resolve, hc, h1, invoke, builtin, Builtin.len_, SV.den, SC.den, ht, run_underlying hu, goInt]
        · cases h
      · rename_i str hv
        have h1 := evs_args hr hv
        split at h
        · rename_i he
          cases h
          obtain ⟨t, ht, hts⟩ := Option.map_eq_some_iff.1 he
          have hu : P.underlying t = some .string := by
            unfold tStr at hts
            split at hts
            · rename_i hh; exact hh
            · cases hts
          simp [resolve, hc, h1, invoke, builtin, Builtin.len_, SV.den, SC.den, ht, run_underlying hu, goInt]
        · cases h
      · cases h
    · rename_i hc
      unfold oMin at h
      split at h
      · rename_i p q hv
        have h1 := evs_args hr hv
        cases h
        have e : (if q < p then q else p) = min p q := by omega
        simp [resolve, hc, h1, invoke, builtin, Builtin.min_, Builtin.min2, SV.den, SC.den, e]
      · cases h
    · rename_i hc
      unfold oMax at h
      split at h
      · rename_i p q hv
        have h1 := evs_args hr hv
        cases h
        have e : (if q > p then q else p) = max p q := by omega
        simp [resolve, hc, h1, invoke, builtin, Builtin.max_, Builtin.max2, SV.den, SC.den, e]
      · cases h
    · cases h
theorem tSlice_spec {t e : Nat} (h : tSlice P t = some e) : P.underlying t = some (.slice e) := by
  unfold tSlice at h
  split at h
  · rename_i e' hh; cases h; exact hh
  · cases h
theorem catP_len (k : Nat) : ∀ (l : List (Nat × List SC)) (i : Nat) (cs : List SC), catP k i l = some cs → cs.length = l.length * k
  | [], i, cs, h => by cases h; simp
  | (j, c) :: r, i, cs, h => by
    unfold catP at h
    split at h
    · rename_i hc
      obtain ⟨cs', hcs, rfl⟩ := Option.map_eq_some_iff.1 h
      rw [List.length_append, hc.2, catP_len k r (i + 1) cs' hcs, List.length_cons, Nat.succ_mul, Nat.add_comm]
    · cases h
theorem putCs_append (z : List SC) (o : Nat) (c cs : List SC) (h : o + (c.length + cs.length) ≤ z.length) : putCs (putCs z o c) (o + c.length) cs = putCs z o (c ++ cs) := by
  have hzl : (putCs z o c).length = z.length := by rw [putCs_eq _ _ _ (by omega)]; simp; omega
  rw [putCs_eq _ _ _ (by rw [hzl]; omega), putCs_eq z o (c ++ cs) (by simp; omega), putCs_eq z o c (by omega)]
  have hto : (z.take o).length = o := by rw [List.length_take]; omega
  have h1 : (z.take o ++ c ++ z.drop (o + c.length)).take (o + c.length) = z.take o ++ c := by
    rw [List.take_append, List.take_of_length_le (by simp; omega)]
    have : o + c.length - (z.take o ++ c).length = 0 := by simp; omega
    rw [this]; simp
  have h2 : (z.take o ++ c ++ z.drop (o + c.length)).drop (o + c.length + cs.length) = z.drop (o + (c ++ cs).length) := by
    rw [List.drop_append, List.drop_eq_nil_of_le (by simp; omega), List.nil_append, List.drop_drop]
    congr 1
    simp; omega
  rw [h1, h2]
  simp
theorem catP_fill (k : Nat) : ∀ (l : List (Nat × List SC)) (i : Nat) (cs z : List SC), catP k i l = some cs → i * k + cs.length ≤ z.length → ∀ (vs : List (Nat × Value)), vs.map (fun x => (x.1, x.2.cells)) = l.map (fun x => (x.1, dens x.2)) →
    Instr.fill (fun i => some (i * k, k)) (dens z) vs = some (dens (putCs z (i * k) cs))
  | [], i, cs, z, h, hl, vs, hv => by
    cases h
    cases vs with
    | nil => rw [putCs_eq z _ [] (by simpa using hl)]; simp [Instr.fill]
    | cons x r => simp at hv
  | (j, c) :: r, i, cs, z, h, hl, vs, hv => by
    unfold catP at h
    split at h
    · rename_i hc
      obtain ⟨rfl, hck⟩ := hc
      obtain ⟨cs', hcs, rfl⟩ := Option.map_eq_some_iff.1 h
      cases vs with
      | nil => simp at hv
      | cons x r' =>
        obtain ⟨j', u⟩ := x
        simp only [List.map_cons, List.cons.injEq, Prod.mk.injEq] at hv
        obtain ⟨⟨rfl, hu⟩, hr⟩ := hv
        rw [List.length_append] at hl
        have hzl : (putCs z (j' * k) c).length = z.length := by rw [putCs_eq _ _ _ (by omega)]; simp; omega
        have ih := catP_fill k r (j' + 1) cs' (putCs z (j' * k) c) hcs (by rw [hzl, Nat.succ_mul]; omega) r' hr
        have hsz : u.cells.size = k := by rw [hu]; simp [dens, hck]
        have hzs : (dens z).size = z.length := by simp [dens]
        have key : u.cells.zipIdx.foldl (fun cs x => cs.setIfInBounds (j' * k + x.2) x.1) (dens z) = dens (putCs z (j' * k) c) := by
          have h1 := foldl_putCs (j' * k) c 0 z (by omega)
          rw [hu, ← Array.foldl_toList]
          simpa [dens] using h1
        rw [← key] at ih
        have hcond : ¬ ((decide (u.cells.size ≠ k) || decide (j' * k + u.cells.size > (dens z).size)) = true) := by
          rw [hsz, hzs]; simp; omega
        unfold Instr.fill
        show (if (decide (u.cells.size ≠ k) || decide (j' * k + u.cells.size > (dens z).size)) = true then none else _) = _
        rw [if_neg hcond]
        refine Eq.trans ih ?_
        congr 2
        rw [Nat.succ_mul, ← hck]
        exact putCs_append z (j' * c.length) c cs' (by rw [hck]; omega)
    · cases h
theorem stepO_new {o : Oper} {t : TypeId} {cs : List SC} {n : Option Nat} (h : stepO P o σ = .new t cs n) (hr : See σ a w) :
    (execOp a.eval o).run P w = .ok (.value (mkV n w.heap.size)) (w.alloc (.cells (dens cs) t)) := by
  unfold stepO at h
  unfold execOp
  generalize hop : o.op = op at h ⊢
  cases op <;> try simp only [reduceCtorEq] at h
  case alloc t' =>
    split at h
    · rename_i z hz
      cases h
      obtain ⟨i, v, hi, hv, rfl⟩ := tZero_spec hz
      simp only [Instr.alloc, Sem.run_bind, zeroValue, typeInfo, run_program, Result.andThen_ok, hi, hv, Sem.run_pure, newVar, newRow, run_newObj, dens_v, Array.toArray_toList]
      rfl
    · cases h
  case box t' x =>
    split at h
    · rename_i v hv
      cases h
      have e := SV.cells_den v
      simp only [Instr.box, Sem.run_bind, Result.andThen_ok, Sem.run_pure, newVar, newRow, run_newObj, ev_den hr hv, e]
      rfl
    · cases h
  case buildSlice t' len parts =>
    unfold oLit at h
    split at h
    · rename_i kc e zl l hkc he hz hl
      split at h
      · rename_i hc
        split at h
        · rename_i cs' hcat
          cases h
          have hu : P.underlying t' = some (.slice t) := tSlice_spec he
          rw [he, Option.bind_some] at hkc
          obtain ⟨i, hi, hin⟩ := tSize_spec hkc
          have hd := partsOf_den hr hl
          have hlen : parts.size = len := by
            have := congrArg List.length hd
            simp at this
            omega
          have hsl := catP_len kc l 0 cs hcat
          rw [hc.1] at hsl
          have hnb : ¬ (len * kc > 2 ^ 24) := by
            have := hc.2.1
            have e : (2 : Nat) ^ 24 = 16777216 := by decide
            rw [e]; omega
          rw [he, Option.bind_some] at hz
          obtain ⟨i', zv, hi', hzv, hzl⟩ := tZero_spec hz
          rw [hi] at hi'
          cases hi'
          have hzs : zv.cells.size = kc := by rw [← Array.length_toList, hzl]; exact hc.2.2
          have hZ : ∀ Z : Array Value, Z.size = len * kc → Instr.fill (fun i => some (i * kc, kc)) Z (parts.map fun (i, x) => (i, a.eval x)).toList = some (dens cs) := by
            intro Z hZs
            have hf := catP_fill kc l 0 cs (Z.toList.map .v) hcat (by simp [hsl, hZs]) (parts.map fun (i, x) => (i, a.eval x)).toList (by simpa using hd)
            rw [dens_v, Array.toArray_toList] at hf
            rw [hf]
            congr 2
            rw [putCs_eq _ _ _ (by simp [hsl, hZs])]
            simp [hsl, hZs]
          simp only [Instr.buildSlice, Sem.run_bind, run_underlying hu, Result.andThen_ok, sizeOf, typeInfo, run_program, hi, Sem.run_pure, hin, hnb, if_false]
          by_cases h0 : len * kc = 0
          · have hf := hZ ((Array.range (len * kc)).map (fun x => (#[] : Array Value)[x % (#[] : Array Value).size]!)) (by simp)
            simp only [h0, if_true, Sem.run_bind, Sem.run_pure, Result.andThen_ok] at hf ⊢
            rw [hf]
            simp only [Sem.run_bind, newRow, run_newObj, Result.andThen_ok, Sem.run_pure]
            rfl
          · have hf := hZ ((Array.range (len * kc)).map (fun x => zv.cells[x % zv.cells.size]!)) (by simp)
            simp only [h0, if_false, Sem.run_bind, zeroValue, typeInfo, run_program, Result.andThen_ok, hi, hzv, Sem.run_pure] at hf ⊢
            rw [hf]
            simp only [Sem.run_bind, newRow, run_newObj, Result.andThen_ok, Sem.run_pure]
            rfl
        · cases h
      · cases h
    · cases h
  all_goals (repeat' split at h) <;> first | cases h | ((first | unfold loadCs at h | unfold oPick at h | unfold oBuild at h | unfold oUn at h | unfold oConv at h | unfold oFn at h | unfold oLen at h | unfold oMin at h | unfold oMax at h | (unfold oBin2 at h) | unfold oCut at h | unfold oLit at h | unfold oCut2 at h); (repeat' split at h) <;> first | cases h | (unfold oCut2 at h; (repeat' split at h) <;> cases h))
theorem one_dens {cs : List SC} (h : ones cs) : ∀ v ∈ (cs.map SC.den), v.oneCell' = true := by
  intro v hv
  obtain ⟨c, hc, rfl⟩ := List.mem_map.1 hv
  exact SC.one_den (ones_mem h c hc)
theorem stepO_put {o : Oper} {s : Prop} {id off : Nat} {cs : List SC} (h : stepO P o σ = .put s id off cs) (hs : s) (hr : See σ a w) :
    ∃ b, getBl σ.blks id = some b ∧ off + cs.length ≤ b.cs.length ∧ (execOp a.eval o).run P w = .ok .skip (w.setRow b.g (dens (putCs b.cs off cs))) := by
  unfold stepO at h
  unfold execOp
  generalize hop : o.op = op at h ⊢
  cases op <;> try simp only [reduceCtorEq] at h
  case store t x y =>
    split at h
    · rename_i id' g _ v hx hy
      have hx' := ev_den hr hx
      have hy' := ev_den hr hy
      split at h
      · rename_i b n hb hn
        split at h
        · rename_i hl
          cases h
          obtain ⟨hg, h1⟩ := hs
          refine ⟨b, hb, by omega, ?_⟩
          have hB : w.heap[b.g]? = some (.cells (dens b.cs) b.t (0, 0)) := hr.blks b (getBl_mem hb)
          have hst := run_storeCells_at (P := P) b.g off b.t (v.cells.map SC.den) 0 (dens b.cs) w hB (by simp [dens]; omega) (one_dens h1)
          obtain ⟨i, hi, hin⟩ := tSize_spec hn
          have e := SV.cells_den v
          have hsz : (dens v.cells).size = i.size := by rw [hin]; simp [dens, hl.1]
          have hrow : ((dens b.cs).toList.take (off + 0) ++ v.cells.map SC.den ++ (dens b.cs).toList.drop (off + 0 + (v.cells.map SC.den).length)).toArray = dens (putCs b.cs off v.cells) := by
            rw [putCs_eq _ _ _ (by omega)]
            simp [dens]
          rw [hrow] at hst
          have hx2 : a.eval x = .pointer (some ⟨b.g, off, none⟩) := by rw [hg]; exact hx'
          have hcl : (dens v.cells).toList = v.cells.map SC.den := by simp [dens]
          simp only [hx2, hy', Instr.storeAt, Sem.run_bind, Instr.sureAddr, Sem.run_pure, Result.andThen_ok, storeVar, sizeOf, typeInfo, run_program, hi, e, hsz, ne_eq, not_true_eq_false, if_false, hcl, hst]
        · cases h
      · cases h
    · cases h
  all_goals (repeat' split at h) <;> first | cases h | ((first | unfold loadCs at h | unfold oPick at h | unfold oBuild at h | unfold oUn at h | unfold oConv at h | unfold oFn at h | unfold oLen at h | unfold oMin at h | unfold oMax at h | (unfold oBin2 at h) | unfold oCut at h | unfold oLit at h | unfold oCut2 at h); (repeat' split at h) <;> first | cases h | (unfold oCut2 at h; (repeat' split at h) <;> cases h))
end Go.Proofs.Ytomfladifefomaa
