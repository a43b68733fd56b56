/- Arguments that are slices: what is read of them, element by element, whatever the type of the block they lie in. Names no program. Conditions: as each law states them. -/
import Derived.Test.YtomfladifefomaaSo
import Derived.Deep.Slices
import Derived.Deep.Fields
import Derived.ChangeSame
import Derived.WideShapes
namespace Go.Proofs.Ytomfladifefomaa
open Go.RowKit
/-- a slice of n elements, of k cells each, that reads as these cells, in a block that nobody writes -/
def Sc (G : GW) (k n : Nat) (v : Value) (cells : List Value) : Prop :=
  ∃ A c, v = .slice A n c ∧ n ≤ c ∧ c ≤ maxLen ∧ cells.length = n * k ∧ (0 < n → ∃ g o, A = some ⟨g, o, none⟩ ∧ ¬ G.M g ∧ g < G.w.heap.size ∧ G.w.rangeAt g o cells)
theorem Sc.mono {G G' : GW} {k n : Nat} {v : Value} {cells : List Value} (h : Sc G k n v cells) (hl : G.Le G') : Sc G' k n v cells := by
  obtain ⟨A, c, rfl, h1, h2, h3, h4⟩ := h
  refine ⟨A, c, rfl, h1, h2, h3, fun hn => ?_⟩
  obtain ⟨g, o, rfl, hm, hb, hc⟩ := h4 hn
  obtain ⟨e, m⟩ := hl.keep g hb hm
  exact ⟨g, o, rfl, m, Nat.lt_of_lt_of_le hb hl.size, range_block hc e⟩
theorem Sl.sc {G : GW} {t k n : Nat} {v : Value} {cells : List Value} (h : Sl G t k n v cells) : Sc G k n v cells := by
  obtain ⟨A, c, rfl, h1, h2, h3, h4⟩ := h
  refine ⟨A, c, rfl, h1, h2, h3, fun hn => ?_⟩
  obtain ⟨g, o, cur, fr, rfl, hm, hb, hc⟩ := h4 hn
  exact ⟨g, o, rfl, hm, lt_of_block hb, fun j u hu => (cell_of_block hb).trans (hc j u hu)⟩
/-- a slice of such elements -/
def ScR {α : Type} (R : GW → α → List Value → Prop) (k : Nat) (G : GW) (v : Value) (l : List α) : Prop := ∃ css, ElG R k G css l ∧ Sc G k l.length v css.flatten
section
variable {α : Type} {R : GW → α → List Value → Prop} {t k : Nat} {G G' : GW} {v : Value} {l : List α}
theorem ScR.mono (h : ScR R k G v l) (hR : MonoR R) (hl : G.Le G') : ScR R k G' v l := by
  obtain ⟨css, he, hs⟩ := h
  exact ⟨css, he.mono hR hl, hs.mono hl⟩
theorem Sq.sc (h : Sq R t k G v l) : ScR R k G v l := by
  obtain ⟨css, he, hs⟩ := h
  exact ⟨css, he, hs.sc⟩
theorem ScR.form (h : ScR R k G v l) : ∃ A c, v = .slice A l.length c ∧ l.length ≤ c ∧ c ≤ maxLen := by
  obtain ⟨css, _, A, c, rfl, h1, h2, _⟩ := h
  exact ⟨A, c, rfl, h1, h2⟩
theorem ScR.at_ {A : Option Addr} {n c i : Nat} {x : α} (h : ScR R k G (.slice A n c) l) (hx : l[i]? = some x) :
    ∃ g o cs, A = some ⟨g, o, none⟩ ∧ g < G.w.heap.size ∧ ¬ G.M g ∧ cs.length = k ∧ R G x cs ∧ G.w.rangeAt g (o + i * k) cs ∧ n = l.length := by
  obtain ⟨css, he, A', c', e, h1, h2, h3, h4⟩ := h
  cases e
  obtain ⟨cs, hc, hl, hr⟩ := he.at_ hx
  have hi : i < l.length := (List.getElem?_eq_some_iff.1 hx).1
  obtain ⟨g, o, rfl, hm, hb, hcell⟩ := h4 (by omega)
  refine ⟨g, o, cs, rfl, hb, hm, hl, hr, fun j u hu => ?_, rfl⟩
  have hj : j < cs.length := (List.getElem?_eq_some_iff.1 hu).1
  rw [Nat.add_assoc]
  refine hcell _ u ?_
  rw [flatten_at css he.2.1 i j cs hc (by omega), hu]
end
section
variable {P : Program} {E : Env} {σ : St} {o : Oper}
/-- an element of a slice that is only read -/
theorem elemC_does {α : Type} {R : GW → α → List Value → Prop} {t e kc : Nat} {x i : Operand} {A : Option Addr} {n c m : Nat} {kk : IntKind} {j : Int} {l : List α} {y : α} (ho : o.op = .indexAddr t x i) (ht : tSlice P t = some e) (hk : tSize P e = some kc)
    (hx : ev σ x = some (.c (.v (.slice A n c)))) (hi : ev σ i = some (.c (.v (.int kk j)))) (hd : dOk E o.dst) (hj : j = (m : Int)) (hy : l[m]? = some y)
    (hs : ∀ G : GW, Now E σ G → ScR R kc G (.slice A n c) l) :
    Does P E σ o (fun σ' => ∃ g o' cs G, cs.length = kc ∧ R G y cs ∧ Now E σ G ∧ σ' = ((σ.seen G).view g o' cs).put o.dst (.c (.q σ.next g o' 0))) := by
  intro a w Q next hr hn
  obtain ⟨g, o', cs, rfl, hg, hm, hl, hR, hrg, rfl⟩ := (hs ⟨σ.M E, w⟩ hr.now).at_ hy
  have hx' : a.eval x = .slice (some ⟨g, o', none⟩) l.length c := ev_den hr.see hx
  have hi' : a.eval i = .int kk j := ev_den hr.see hi
  have hml : m < l.length := (List.getElem?_eq_some_iff.1 hy).1
  obtain ⟨inf, hinf, hsz⟩ := tSize_spec hk
  have hrun : (execOp a.eval o).run P w = .ok (.value (.pointer (some ⟨g, o' + m * kc, none⟩))) w := by
    unfold execOp
    subst hj
    have hc1 : 0 ≤ (m : Int) ∧ (m : Int) < (l.length : Int) := ⟨by omega, by omega⟩
    simp only [ho, hx', hi', Instr.indexAt, Sem.run_bind, asIntOf, Sem.run_pure, Result.andThen_ok, run_underlying (tSlice_spec ht), hc1, and_self, if_true, sizeOf, typeInfo, run_program, hinf, hsz, Int.toNat_natCast, Addr.add_mid]
  refine wp_of_value hrun (hn _ _ _ ⟨g, o' + m * kc, cs, ⟨σ.M E, w⟩, hl, hR, hr.now, rfl⟩ ?_)
  exact (((hr.called (Chg.refl _ _)).addV hg (fun q => hm q) hrg).put o.dst (.c (.q σ.next g (o' + m * kc) 0)) (dOk_lt hd))
end
section
open Go.ChangeShapes Go.WideShapes Go.Deep
theorem choose_list {α : Type} {p : Nat → α → Prop} : ∀ (n : Nat), (∀ i, i < n → ∃ x, p i x) → ∃ l : List α, l.length = n ∧ ∀ i x, l[i]? = some x → p i x
  | 0, _ => ⟨[], rfl, fun i x h => by simp at h⟩
  | n + 1, h => by
    obtain ⟨l, hl, hp⟩ := choose_list n fun i hi => h i (by omega)
    obtain ⟨x, hx⟩ := h n (by omega)
    refine ⟨l ++ [x], by simp [hl], fun i y hy => ?_⟩
    by_cases hi : i < n
    · rw [List.getElem?_append_left (by omega)] at hy
      exact hp i y hy
    · have : i < (l ++ [x]).length := (List.getElem?_eq_some_iff.1 hy).1
      have e : i = n := by simp [hl] at this; omega
      subst e
      rw [← hl, List.getElem?_concat_length] at hy
      cases hy; exact hx
variable {H : Type} {enc : TypeId × Value → H} {P : Program} {w : World} {sp : Nat → Bool} {held : Bool}
theorem cells_some {base : Nat} {a : Addr} {n : Nat} {cs : List Value} (h : w.cells? base a n = some cs) : cs.length = n ∧ ∀ j, j < n → w.cell? (a.add j) = cs[j]? := by
  obtain ⟨_, hcl, hat⟩ := World.cells?_some h
  exact ⟨hcl, hat⟩
/-- an argument that is a slice, of elements of k cells: a list of things, each read by R -/
theorem open_seq {α : Type} {R : List Value → α → Prop} {t e k : Nat} {v : Value} {d : DataW H} {p : List MemPlace} (ht : P.underlying t = some (.slice e)) (hk : P.cellsOf e = k) (h0 : 0 < k)
    (hR : ∀ n cs x, DataW.trod enc P w 0 (fun _ => true) held n e cs = some x → cs.length = k → ∃ y, R cs y) {r : Reach} {b0 : Nat} (hok : Value.okWide P w r b0 t v) (h : DataW.Trod enc P w 0 (fun _ => true) held t v d p) :
    ∃ l : List α, ScR (fun _ x cs => R cs x) k ⟨Non, w⟩ v l := by
  obtain ⟨fuel, hf⟩ := h
  obtain ⟨A0, n0, c0, rfl⟩ := okWide_slice ht hok
  have hf : DataW.trod enc P w 0 (fun _ => true) held fuel t [.slice A0 n0 c0] = some (d, p) := hf
  rcases open_slice ht hf with ⟨hcs, _⟩ | ⟨a, len, cap, m, n, D, Pl, hcs, hb, hl, hm, hmm, hx, hi⟩
  · cases hcs
    exact ⟨[], [], ElG.nil, none, 0, rfl, Nat.le_refl _, Nat.zero_le _, by simp, fun h => absurd h (by simp)⟩
  · cases hcs
    simp only [if_true] at hmm
    subst hmm
    obtain ⟨l, hll, hp⟩ := choose_list (α := List Value × α) (p := fun i x => (x.1.length = k ∧ ∀ j, j < k → w.cell? ((a.add (i * k)).add j) = x.1[j]?) ∧ R x.1 x.2) n0 fun i hil => by
      obtain ⟨cs', hc, hd⟩ := hi i (by omega)
      rw [hk] at hc
      obtain ⟨h1, h2⟩ := cells_some hc
      obtain ⟨y, hy⟩ := hR _ _ _ hd h1
      exact ⟨(cs', y), ⟨h1, h2⟩, hy⟩
    have hml : ∀ cs ∈ l.map (·.1), cs.length = k := by
      intro cs hcs
      obtain ⟨x, hx, rfl⟩ := List.mem_map.1 hcs
      obtain ⟨i, hi⟩ := List.mem_iff_getElem?.1 hx
      exact (hp i x hi).1.1
    refine ⟨l.map (·.2), l.map (·.1), ⟨by simp, hml, fun i cs x h1 h2 => ?_⟩, some a, m, by simp [hll], by simpa [hll] using hl, hm, ?_, fun hn => ?_⟩
    · rw [List.getElem?_map] at h1 h2
      cases hx : l[i]? with
      | none => rw [hx] at h1; cases h1
      | some q =>
        rw [hx] at h1 h2
        cases h1; cases h2
        exact (hp i q hx).2
    · rw [flatten_len _ hml]; simp
    · have hl0 : 0 < l.length := by simpa using hn
      obtain ⟨b, off, spot⟩ := a
      have hc0 := (hp 0 l[0] (List.getElem?_eq_getElem hl0)).1
      have hcell : ∃ u, w.cell? ((⟨b, off, spot⟩ : Addr).add 0) = some u := by
        have h1 := hc0.2 0 h0
        rw [List.getElem?_eq_getElem (by rw [hc0.1]; exact h0)] at h1
        refine ⟨(l[0]).1[0]'(by rw [hc0.1]; exact h0), ?_⟩
        simpa [Addr.add] using h1
      obtain ⟨u, hu⟩ := hcell
      obtain rfl : spot = none := by simpa [Addr.add] using World.cell?_spot hu
      refine ⟨b, off, rfl, id, ?_, fun j u hj => ?_⟩
      · rw [Addr.add_mid] at hu
        unfold World.cell? at hu
        simp only at hu
        split at hu
        · rename_i hh; exact lt_of_block hh
        · cases hu
      · have hjl : j < (l.map (·.1)).flatten.length := (List.getElem?_eq_some_iff.1 hj).1
        rw [flatten_len _ hml] at hjl
        have hjk : j / k < l.length := by
          rw [Nat.div_lt_iff_lt_mul h0]; simpa using hjl
        have hmod : j % k < k := Nat.mod_lt _ h0
        have he : j = (j / k) * k + j % k := by rw [Nat.mul_comm]; exact (Nat.div_add_mod j k).symm
        have hcs : (l.map (·.1))[j / k]? = some (l[j / k]).1 := by rw [List.getElem?_map, List.getElem?_eq_getElem hjk]; rfl
        rw [he, flatten_at _ hml _ _ _ hcs hmod] at hj
        have h2 := (hp _ _ (List.getElem?_eq_getElem hjk)).1.2 _ hmod
        rw [Addr.add_mid, Addr.add_mid, Nat.add_assoc, ← he] at h2
        rw [h2, hj]
end
end Go.Proofs.Ytomfladifefomaa
