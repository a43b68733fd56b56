/- Appends to rows of the call's own; rows that are read from now on; texts as bytes; cuts of slices. Names no program. Conditions: as each law states them. -/
import Derived.Test.YtomfladifefomaaSp
namespace Go.Proofs.Ytomfladifefomaa
open Go.RowKit
/-- what 'append' asks of an element's type: its cells, its bytes -/
def tApp (P : Program) (e : TypeId) : Option (Nat × Nat) := (P.info? e).bind fun i => i.zero.bind fun z => if z.cells.size = i.size ∧ 0 < i.size then some (i.size, i.bytes) else none
theorem tApp_spec {P : Program} {e k b : Nat} (h : tApp P e = some (k, b)) : ∃ i z, P.info? e = some i ∧ i.zero = some z ∧ i.size = k ∧ i.bytes = b ∧ z.cells.size = k ∧ 0 < k := by
  obtain ⟨i, hi, h⟩ := Option.bind_eq_some_iff.1 h
  obtain ⟨z, hz, h⟩ := Option.bind_eq_some_iff.1 h
  split at h
  · rename_i hc
    cases h
    exact ⟨i, z, hi, hz, rfl, rfl, hc.1, hc.2⟩
  · cases h
def St.rowsTo (σ : St) (R : List Rw) : St := { σ with rows := R }
section
variable {P : Program} {E : Env} {σ : St} {o : Oper}
theorem Rel.grow {a : Act} {w w' : World} (h : Rel E σ a w) {R1 R2 : List Rw} {r r' : Rw} (hR : σ.rows = R1 ++ r :: R2) (hg : w.grownBy w' r.v.ownBlock)
    (hown : w'.ownsRow E.W.heap.size r'.t r'.k r'.v r'.n r'.xs) (hat : r'.v.ownBlock = r.v.ownBlock ∨ r'.v.ownBlock = some w.heap.size) : Rel E (σ.rowsTo (R1 ++ r' :: R2)) a w' := by
  have hrm : r ∈ σ.rows := by rw [hR]; simp
  have hap := h.rapart
  rw [hR, List.pairwise_append, List.pairwise_cons] at hap
  obtain ⟨p1, ⟨p2, p3⟩, p4⟩ := hap
  have hWs := h.chg.size
  have hoth : ∀ q ∈ R1 ++ R2, q ∈ σ.rows ∧ ∀ g, q.v.ownBlock = some g → r.v.ownBlock ≠ some g := by
    intro q hq
    rcases List.mem_append.1 hq with hq | hq
    · exact ⟨by rw [hR]; exact List.mem_append_left _ hq, fun g hg => p4 q hq r List.mem_cons_self g hg⟩
    · exact ⟨by rw [hR]; exact List.mem_append_right _ (List.mem_cons_of_mem _ hq), fun g hg e => p2 q hq g e hg⟩
  have hnew : ∀ g, g < w.heap.size → r'.v.ownBlock = some g → r.v.ownBlock = some g := by
    intro g hl e
    rcases hat with q | q
    · rw [← q]; exact e
    · rw [q] at e; cases e; omega
  have hbg : ∀ b ∈ σ.blks, r'.v.ownBlock ≠ some b.g := fun b hb e => h.apart r hrm b hb (hnew _ (h.blks b hb).lt e)
  have hqg : ∀ q ∈ R1 ++ R2, ∀ g, q.v.ownBlock = some g → r'.v.ownBlock ≠ some g := fun q hq g e e' => (hoth q hq).2 g e (hnew g (ownsRow_lt (h.rows q (hoth q hq).1) e).2 e')
  have hmem : ∀ q, q ∈ R1 ++ r' :: R2 → q = r' ∨ q ∈ R1 ++ R2 := by
    intro q hq
    rcases List.mem_append.1 hq with hq | hq
    · exact .inr (List.mem_append_left _ hq)
    · rcases List.mem_cons.1 hq with hq | hq
      · exact .inl hq
      · exact .inr (List.mem_append_right _ hq)
  have hM : ∀ k, k < w.heap.size → St.M E (σ.rowsTo (R1 ++ r' :: R2)) k → σ.M E k := by
    intro k hk hm
    rcases hm with hm | hm | ⟨q, hq, e⟩
    · exact .inl hm
    · exact .inr (.inl hm)
    · rcases hmem q hq with rfl | hq
      · exact .inr (.inr ⟨r, hrm, hnew k hk e⟩)
      · exact .inr (.inr ⟨q, (hoth q hq).1, e⟩)
  refine ⟨h.tmps, h.size, h.defers, fun b hb => (h.blks b hb).grown hg (fun e => h.apart r hrm b hb e.symm), h.nodup, h.own, ?_, ?_, ?_, ?_, ?_, ?_, h.mem⟩
  · intro q hq
    rcases hmem q hq with rfl | hq
    · exact hown
    · exact ownsRow_block (h.rows q (hoth q hq).1) fun g e => hg.block g (ownsRow_lt (h.rows q (hoth q hq).1) e).2 (fun q' => (hoth q hq).2 g e q'.symm)
  · intro q hq b hb
    rcases hmem q hq with rfl | hq
    · exact hbg b hb
    · exact h.apart q (hoth q hq).1 b hb
  · show (R1 ++ r' :: R2).Pairwise _
    rw [List.pairwise_append, List.pairwise_cons]
    refine ⟨p1, ⟨fun q hq g e e' => hqg q (List.mem_append_right _ hq) g e' e, p3⟩, fun q hq q' hq' g e => ?_⟩
    rcases List.mem_cons.1 hq' with rfl | hq'
    · exact hqg q (List.mem_append_left _ hq) g e
    · exact p4 q hq q' (List.mem_cons_of_mem _ hq') g e
  · intro v hv
    obtain ⟨h1, h2, h3⟩ := h.views v hv
    exact ⟨Nat.lt_of_lt_of_le h1 hg.size, fun q => h2 (hM _ h1 q), range_block h3 (hg.block _ h1 (fun e => h2 (.inr (.inr ⟨r, hrm, e.symm⟩))))⟩
  · refine ⟨hg.os.trans h.chg.os, hg.tape.trans h.chg.tape, hg.output.trans h.chg.output, Nat.le_trans h.chg.size hg.size, fun k hk hA => ?_⟩
    refine (hg.block k (by omega) (fun e => ?_)).trans (h.chg.block k hk hA)
    have := (ownsRow_lt (h.rows r hrm) e.symm).1
    omega
  · intro s hs
    have hs' := h.snaps s hs
    refine ⟨Nat.le_trans hs'.size hg.size, fun k hk hm => ?_⟩
    obtain ⟨e, n⟩ := hs'.keep k hk hm
    have hkw : k < w.heap.size := Nat.lt_of_lt_of_le hk hs'.size
    exact ⟨(hg.block k hkw (fun e => n (.inr (.inr ⟨r, hrm, e.symm⟩)))).trans e, fun q => n (hM k hkw q)⟩
/-- a row that is appended to -/
theorem append_does {s x : Operand} {t e kc by_ m cx n : Nat} {Ax : Option Addr} {news : List Value} {R1 R2 : List Rw} {v : Value} {xs : List Value} (ho : o.op = .call ⟨.builtin .append, #[s, x], #[t, t]⟩) (ht : tSlice P t = some e) (ha : tApp P e = some (kc, by_))
    (hR : σ.rows = R1 ++ ⟨v, e, kc, n, xs⟩ :: R2) (hs : ev σ s = some (.c (.v v))) {xv : SV} (hx : ev σ x = some xv) (hxv : xv.den = .slice Ax m cx) (hd : dOk E o.dst) (h1 : ∀ u ∈ news, u.oneCell' = true)
    (h63 : n + m ≤ maxLen) (hb : (n + m) * by_ ≤ 140737488355328) (hn : ∀ G : GW, Now E σ G → TSl G.w e kc m (.slice Ax m cx) news) :
    Does P E σ o (fun σ' => ∃ A' c', σ' = (σ.rowsTo (R1 ++ ⟨.slice A' (n + m) c', e, kc, n + m, xs ++ news⟩ :: R2)).put o.dst (.c (.v (.slice A' (n + m) c')))) := by
  intro a w Q next hr hnx
  obtain ⟨i, z, hi, hz, hk, hby, hzs, h0⟩ := tApp_spec ha
  have hrow := hr.rows _ (by rw [hR]; simp : (⟨v, e, kc, n, xs⟩ : Rw) ∈ σ.rows)
  have hs' : a.eval s = v := ev_den hr.see hs
  have hx' : a.eval x = .slice Ax m cx := (ev_den hr.see hx).trans hxv
  refine wp_append_tsl w s x t ho E.W.heap.size e i z kc by_ (tSlice_spec ht) hi hz hk hby hzs h0 v n xs hs' hrow Ax m cx news hx' (hn _ hr.now) h1 h63 hb hr.chg.size ?_
  intro A' c' w' hown hg hat
  exact hnx _ _ _ ⟨A', c', rfl⟩ ((hr.grow (r' := ⟨.slice A' (n + m) c', e, kc, n + m, xs ++ news⟩) hR hg hown hat).put o.dst (.c (.v (.slice A' (n + m) c'))) (dOk_lt hd))
/-- a literal that was just laid reads as its cells -/
theorem tsl_blk {G : GW} {b : Bl} {m k : Nat} (hn : Now E σ G) (hb : b ∈ σ.blks) (hl : b.cs.length = m * k) (h : m ≤ maxLen) : TSl G.w b.t k m (.slice (some ⟨b.g, 0, none⟩) m m) (b.cs.map SC.den) := by
  refine ⟨_, m, rfl, Nat.le_refl _, h, by simpa using hl, fun _ => ⟨b.g, 0, dens b.cs, (0, 0), rfl, hn.blks b hb, fun j u hj => ?_⟩⟩
  rw [Nat.zero_add]
  simpa [dens] using hj
/-- a row that there is none of yet -/
theorem row_ok {Φ : Act → World → Prop} (e kc : Nat) (h : Ok E (σ.rowsTo (⟨.slice none 0 0, e, kc, 0, []⟩ :: σ.rows)) Φ) : Ok E σ Φ := by
  intro a w hr
  refine h a w ⟨hr.tmps, hr.size, hr.defers, hr.blks, hr.nodup, hr.own, ?_, ?_, List.Pairwise.cons (fun q _ k e => by cases e) hr.rapart, ?_, hr.chg, ?_, hr.mem⟩
  · intro r hr'
    rcases List.mem_cons.1 hr' with rfl | hr'
    · exact World.ownsRow_nil w _ e kc
    · exact hr.rows r hr'
  · intro r hr' b hb
    rcases List.mem_cons.1 hr' with rfl | hr'
    · intro e; cases e
    · exact hr.apart r hr' b hb
  · intro v hv
    obtain ⟨h1, h2, h3⟩ := hr.views v hv
    refine ⟨h1, fun q => h2 ?_, h3⟩
    rcases q with q | q | ⟨r, hr', e⟩
    · exact .inl q
    · exact .inr (.inl q)
    · rcases List.mem_cons.1 hr' with rfl | hr'
      · cases e
      · exact .inr (.inr ⟨r, hr', e⟩)
  · intro s hs
    refine ⟨(hr.snaps s hs).size, fun k hk hm => ⟨((hr.snaps s hs).keep k hk hm).1, fun q => ((hr.snaps s hs).keep k hk hm).2 ?_⟩⟩
    rcases q with q | q | ⟨r, hr', e⟩
    · exact .inl q
    · exact .inr (.inl q)
    · rcases List.mem_cons.1 hr' with rfl | hr'
      · cases e
      · exact .inr (.inr ⟨r, hr', e⟩)
/-- a row that is only read from now on -/
theorem read_ok {Φ : Act → World → Prop} {R1 R2 : List Rw} {r : Rw} (hR : σ.rows = R1 ++ r :: R2) (h : ∀ G : GW, (∀ s ∈ σ.snaps, s.Le G) → Sl G r.t r.k r.n r.v r.xs → Ok E ((σ.rowsTo (R1 ++ R2)).seen G) Φ) : Ok E σ Φ := by
  intro a w hr
  have hrm : r ∈ σ.rows := by rw [hR]; simp
  have hsub : ∀ q ∈ R1 ++ R2, q ∈ σ.rows := by
    intro q hq
    rw [hR]
    rcases List.mem_append.1 hq with hq | hq
    · exact List.mem_append_left _ hq
    · exact List.mem_append_right _ (List.mem_cons_of_mem _ hq)
  have hap := hr.rapart
  rw [hR, List.pairwise_append, List.pairwise_cons] at hap
  obtain ⟨p1, ⟨p2, p3⟩, p4⟩ := hap
  have hM : ∀ k, St.M E (σ.rowsTo (R1 ++ R2)) k → σ.M E k := by
    intro k hk
    rcases hk with q | q | ⟨r, hr', e⟩
    · exact .inl q
    · exact .inr (.inl q)
    · exact .inr (.inr ⟨r, hsub r hr', e⟩)
  have hr2 : Rel E (σ.rowsTo (R1 ++ R2)) a w := ⟨hr.tmps, hr.size, hr.defers, hr.blks, hr.nodup, hr.own, fun q hq => hr.rows q (hsub q hq), fun q hq => hr.apart q (hsub q hq),
    List.pairwise_append.2 ⟨p1, p3, fun q hq q' hq' => p4 q hq q' (List.mem_cons_of_mem _ hq')⟩,
    fun v hv => let ⟨h1, h2, h3⟩ := hr.views v hv; ⟨h1, fun q => h2 (hM _ q), h3⟩, hr.chg,
    fun s hs => ⟨(hr.snaps s hs).size, fun k hk hm => ⟨((hr.snaps s hs).keep k hk hm).1, fun q => ((hr.snaps s hs).keep k hk hm).2 (hM k q)⟩⟩, hr.mem⟩
  refine h ⟨St.M E (σ.rowsTo (R1 ++ R2)), w⟩ hr2.snaps ?_ a w (hr2.called (Chg.refl _ _))
  have hrow := hr.rows r hrm
  rcases hrow.2 with ⟨e1, e2⟩ | ⟨g, cap, cur, e, hb, hg, h1, h2, h3, h4⟩
  · rw [e1, e2]
    have : r.xs = [] := List.eq_nil_of_length_eq_zero (by rw [hrow.1, e2, Nat.zero_mul])
    rw [this]
    exact Sl.nil _ _ _
  · refine ⟨_, cap, e, h1, h2, hrow.1, fun _ => ⟨g, 0, cur, (0, 0), rfl, fun q => ?_, hg, fun j u hu => ?_⟩⟩
    · have hown : r.v.ownBlock = some g := by rw [e]; rfl
      have hWs := hr.chg.size
      rcases q with q | ⟨b, hb', e'⟩ | ⟨q, hq, e'⟩
      · have := hr.mem g q
        have := (ownsRow_lt hrow hown).1
        omega
      · exact hr.apart r hrm b hb' (by rw [hown, e'])
      · rcases List.mem_append.1 hq with hq | hq
        · exact p4 q hq r List.mem_cons_self g e' hown
        · exact p2 q hq g hown e'
    · rw [← h4, List.getElem?_take] at hu
      split at hu
      · simpa using hu
      · cases hu
end
end Go.Proofs.Ytomfladifefomaa
