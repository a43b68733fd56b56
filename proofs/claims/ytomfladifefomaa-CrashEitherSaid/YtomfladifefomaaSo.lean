/- Calls that hand memory over; rows that are written in their midst; which types of blocks somebody writes. Names no program. Conditions: as each law states them. -/
import Derived.Test.YtomfladifefomaaSv
namespace Go.Proofs.Ytomfladifefomaa
open Go.RowKit
/-- no block that somebody writes is of these types -/
def Tid (X : TypeId → Bool) (G : GW) : Prop := ∀ k, G.M k → ∀ cur t fr, G.w.heap[k]? = some (.cells cur t fr) → X t = false
theorem keepX_le {X : TypeId → Bool} {G G' : GW} (h : G.Le G') (ht : Tid X G) : KeepX X G.w G'.w :=
  ⟨h.size, fun g cur t fr hg hx => (h.keep g (lt_of_block hg) (fun hm => by rw [ht g hm cur t fr hg] at hx; cases hx)).1.trans hg⟩
theorem keepX_chg {X : TypeId → Bool} {w w' : World} (h : Chg Non w w') : KeepX X w w' := KeepX.of_below h.below
theorem Tid.mono {X Y : TypeId → Bool} {G : GW} (h : Tid X G) (hy : ∀ t, Y t = true → X t = true) : Tid Y G := fun k hm cur t fr hk => by
  have := h k hm cur t fr hk
  cases hyt : Y t with
  | false => rfl
  | true => rw [hy t hyt] at this; cases this
theorem tid_now {X : TypeId → Bool} {E : Env} {σ : St} {G : GW} (hn : Now E σ G) (hA : ∀ k, ¬ E.A k) (h0 : Tid X ⟨E.M, E.W⟩) (hm : ∀ k, E.M k → k < E.W.heap.size) (hr : ∀ r ∈ σ.rows, X r.t = false) (hb : ∀ b ∈ σ.blks, X b.t = false) : Tid X G := by
  intro k hk cur t fr hc
  rcases hn.only k hk with q | ⟨b, hb', rfl⟩ | ⟨r, hr', e'⟩
  · exact h0 k q cur t fr ((hn.chg.block k (hm k q) (hA k)).symm.trans hc)
  · have := hn.blks b hb'
    unfold Blk at this
    rw [this] at hc
    cases hc
    exact hb b hb'
  · have := hn.rows r hr'
    rcases this.2 with ⟨e, _⟩ | ⟨g, cap, cur', e, _, hg, _⟩
    · rw [e] at e'; cases e'
    · rw [e] at e'; cases e'
      rw [hg] at hc; cases hc
      exact hr r hr'
/-- apart rows -/
def RApart (R : List Rw) : Prop := R.Pairwise fun r r' => ∀ k, r.v.ownBlock = some k → r'.v.ownBlock ≠ some k
/-- what a call returns that hands rows over: the caller may write them -/
def RetO (G : GW) (T : Value → List Rw → GW → Prop) (e : Ending) (w' : World) : Prop := ∃ v R, e = .returned v ∧ (∀ r ∈ R, w'.ownsRow G.w.heap.size r.t r.k r.v r.n r.xs) ∧ RApart R ∧
  T v R ⟨fun k => G.M k ∨ ∃ r ∈ R, r.v.ownBlock = some k, w'⟩ ∧ Chg Non G.w w'
section
variable {P : Program} {E : Env} {σ : St} {o : Oper}
theorem Rel.calledO {a : Act} {w w' : World} (h : Rel E σ a w) (hc : Chg Non w w') {R : List Rw} (hown : ∀ r ∈ R, w'.ownsRow w.heap.size r.t r.k r.v r.n r.xs) (hap : RApart R) :
    Rel E ((σ.rowsTo (R ++ σ.rows)).seen ⟨fun k => σ.M E k ∨ ∃ r ∈ R, r.v.ownBlock = some k, w'⟩) a w' := by
  have hWs := h.chg.size
  have hr := h.called hc
  have hM : ∀ k, St.M E (σ.rowsTo (R ++ σ.rows)) k ↔ (σ.M E k ∨ ∃ r ∈ R, r.v.ownBlock = some k) := by
    intro k
    constructor
    · rintro (q | q | ⟨r, hr', e⟩)
      · exact .inl (.inl q)
      · exact .inl (.inr (.inl q))
      · rcases List.mem_append.1 hr' with hr' | hr'
        · exact .inr ⟨r, hr', e⟩
        · exact .inl (.inr (.inr ⟨r, hr', e⟩))
    · rintro ((q | q | ⟨r, hr', e⟩) | ⟨r, hr', e⟩)
      · exact .inl q
      · exact .inr (.inl q)
      · exact .inr (.inr ⟨r, List.mem_append_right _ hr', e⟩)
      · exact .inr (.inr ⟨r, List.mem_append_left _ hr', e⟩)
  have hnew : ∀ r ∈ R, ∀ g, r.v.ownBlock = some g → w.heap.size ≤ g := fun r hr' g e => (ownsRow_lt (hown r hr') e).1
  refine ⟨hr.tmps, hr.size, hr.defers, hr.blks, hr.nodup, hr.own, ?_, ?_, ?_, ?_, hr.chg, ?_, hr.mem⟩
  · intro r hr'
    rcases List.mem_append.1 hr' with hr' | hr'
    · exact ownsRow_base (hown r hr') hWs
    · exact hr.rows r hr'
  · intro r hr' b hb
    rcases List.mem_append.1 hr' with hr' | hr'
    · intro e
      have := hnew r hr' _ e
      have := (h.blks b hb).lt
      omega
    · exact hr.apart r hr' b hb
  · refine List.pairwise_append.2 ⟨hap, hr.rapart, fun r hr' q hq g e e' => ?_⟩
    have := hnew r hr' g e
    have := (ownsRow_lt (h.rows q hq) e').2
    omega
  · intro v hv
    obtain ⟨h1, h2, h3⟩ := h.views v hv
    refine ⟨Nat.lt_of_lt_of_le h1 hc.size, fun q => ?_, range_block h3 (hc.block _ h1 id)⟩
    rcases (hM _).1 q with q | ⟨r, hr', e⟩
    · exact h2 q
    · have := hnew r hr' _ e
      omega
  · intro s hs
    rcases List.mem_cons.1 hs with rfl | hs
    · exact ⟨Nat.le_refl _, fun k _ hm => ⟨rfl, fun q => hm ((hM k).1 q)⟩⟩
    · have hs' := h.snaps s hs
      refine ⟨Nat.le_trans hs'.size hc.size, fun k hk hm => ?_⟩
      obtain ⟨e, n⟩ := hs'.keep k hk hm
      have hkw : k < w.heap.size := Nat.lt_of_lt_of_le hk hs'.size
      refine ⟨(hc.block k hkw id).trans e, fun q => ?_⟩
      rcases (hM k).1 q with q | ⟨r, hr', e⟩
      · exact n q
      · have := hnew r hr' k e
        omega
/-- a call that hands rows over -/
theorem callO_does {c : Call} {f : FuncId} {vs : List SV} (T : Value → List Rw → GW → Prop) (ho : o.op = .call c) (hcal : c.callee = .value (.func f)) (hf : isFn P f = true)
    (hev : evs σ c.args.toList = some vs) (hd : dOk E o.dst) (hct : ∀ G : GW, Now E σ G → Calls P f (vs.map SV.den).toArray G.w (RetO G T)) :
    Does P E σ o (fun σ' => ∃ v R G, T v R G ∧ Now E (σ.rowsTo (R ++ σ.rows)) G ∧ σ' = ((σ.rowsTo (R ++ σ.rows)).seen G).put o.dst (.c (.v v))) := by
  intro a w Q next hr hn
  unfold Oper.wp
  rw [run_call ho hcal hev hf hr.see]
  refine Calls.mono (hct ⟨σ.M E, w⟩ hr.now) fun e w' he => ?_
  obtain ⟨v, R, rfl, hown, hap, hT, hc⟩ := he
  have hr' := hr.calledO hc hown hap
  have hw := hr'.now
  refine hn _ _ _ ⟨v, R, _, hT, ⟨fun s hs => ?_, hw.blks, fun b hb => .inl (.inr (.inl ⟨b, hb, rfl⟩)), hw.chg, fun k hk => ?_, fun k hk => ?_, hw.rows⟩, rfl⟩ (hr'.put o.dst (.c (.v v)) (dOk_lt hd))
  · have h1 := hr'.snaps s (List.mem_cons_of_mem _ hs)
    refine ⟨h1.size, fun k hk hm => ⟨(h1.keep k hk hm).1, fun q => (h1.keep k hk hm).2 ?_⟩⟩
    rcases q with (q | q | ⟨r, hr2, e⟩) | ⟨r, hr2, e⟩
    · exact .inl q
    · exact .inr (.inl q)
    · exact .inr (.inr ⟨r, List.mem_append_right _ hr2, e⟩)
    · exact .inr (.inr ⟨r, List.mem_append_left _ hr2, e⟩)
  · rcases hk with q | ⟨r, hr2, e⟩
    · exact Nat.lt_of_lt_of_le (hr.wf k q) hc.size
    · exact (ownsRow_lt (hown r hr2) e).2
  · rcases hk with (q | q | ⟨r, hr2, e⟩) | ⟨r, hr2, e⟩
    · exact .inl q
    · exact .inr (.inl q)
    · exact .inr (.inr ⟨r, List.mem_append_right _ hr2, e⟩)
    · exact .inr (.inr ⟨r, List.mem_append_left _ hr2, e⟩)
/-- a row that is written in its midst from now on: a block of the call's own, whose cells are a list -/
theorem rowBlk_ok {Φ : Act → World → Prop} {R1 R2 : List Rw} {r : Rw} (hR : σ.rows = R1 ++ r :: R2) (hn : 0 < r.n)
    (h : ∀ (g cap : Nat) (cur : List Value), r.v = .slice (some ⟨g, 0, none⟩) r.n cap → r.n ≤ cap → cap ≤ maxLen → cur.length = cap * r.k → cur.take (r.n * r.k) = r.xs →
      Ok E { σ with rows := R1 ++ R2, blks := ⟨σ.next, g, r.t, cur.map .v⟩ :: σ.blks, next := σ.next + 1 } Φ) : Ok E σ Φ := by
  intro a w hr
  have hrm : r ∈ σ.rows := by rw [hR]; simp
  have hrow := hr.rows r hrm
  rcases hrow.2 with ⟨_, e2⟩ | ⟨g, cap, cur, e, hb, hg, h1, h2, h3, h4⟩
  · omega
  have hown : r.v.ownBlock = some g := by rw [e]; rfl
  have hsub : ∀ q ∈ R1 ++ R2, q ∈ σ.rows := by
    intro q hq
    rw [hR]
    rcases List.mem_append.1 hq with hq | hq
    · exact List.mem_append_left _ hq
    · exact List.mem_append_right _ (List.mem_cons_of_mem _ hq)
  have hap := hr.rapart
  rw [hR, List.pairwise_append, List.pairwise_cons] at hap
  obtain ⟨p1, ⟨p2, p3⟩, p4⟩ := hap
  have hM : ∀ k, St.M E { σ with rows := R1 ++ R2, blks := ⟨σ.next, g, r.t, cur.toList.map .v⟩ :: σ.blks, next := σ.next + 1 } k → σ.M E k := by
    intro k hk
    rcases hk with q | ⟨b, hb', rfl⟩ | ⟨q, hq, e'⟩
    · exact .inl q
    · rcases List.mem_cons.1 hb' with rfl | hb'
      · exact .inr (.inr ⟨r, hrm, hown⟩)
      · exact .inr (.inl ⟨b, hb', rfl⟩)
    · exact .inr (.inr ⟨q, hsub q hq, e'⟩)
  refine h g cap cur.toList e h1 h2 (by simpa using h3) h4 a w ⟨hr.tmps, hr.size, hr.defers, ?_, ?_, ?_, fun q hq => hr.rows q (hsub q hq), ?_, ?_, fun v hv => ?_, hr.chg, fun s hs => ?_, hr.mem⟩
  · intro b hb'
    rcases List.mem_cons.1 hb' with rfl | hb'
    · show w.heap[g]? = _
      rw [hg, dens_v, Array.toArray_toList]
    · exact hr.blks b hb'
  · exact List.Pairwise.cons (fun b hb' e' => hr.apart r hrm b hb' (by rw [hown]; exact congrArg some e')) hr.nodup
  · intro b hb'
    rcases List.mem_cons.1 hb' with rfl | hb'
    · exact .inr hb
    · exact hr.own b hb'
  · intro q hq b hb'
    rcases List.mem_cons.1 hb' with rfl | hb'
    · intro e'
      rcases List.mem_append.1 hq with hq | hq
      · exact p4 q hq r List.mem_cons_self g e' hown
      · exact p2 q hq g hown e'
    · exact hr.apart q (hsub q hq) b hb'
  · exact List.pairwise_append.2 ⟨p1, p3, fun q hq q' hq' => p4 q hq q' (List.mem_cons_of_mem _ hq')⟩
  · obtain ⟨a1, a2, a3⟩ := hr.views v hv
    exact ⟨a1, fun q => a2 (hM _ q), a3⟩
  · exact ⟨(hr.snaps s hs).size, fun k hk hm => ⟨((hr.snaps s hs).keep k hk hm).1, fun q => ((hr.snaps s hs).keep k hk hm).2 (hM k q)⟩⟩
/-- an element of a slice whose block is the call's own -/
theorem own_elem_does {t e kc : Nat} {x i : Operand} {g n c m id : Nat} {kk : IntKind} {j : Int} (ho : o.op = .indexAddr t x i) (ht : tSlice P t = some e) (hk : tSize P e = some kc)
    (hx : ev σ x = some (.c (.v (.slice (some ⟨g, 0, none⟩) n c)))) (hi : ev σ i = some (.c (.v (.int kk j)))) (hd : dOk E o.dst) (hj : j = (m : Int)) (hm : m < n) :
    Does P E σ o (fun σ' => σ' = σ.put o.dst (.c (.p id g (m * kc)))) := by
  intro a w Q next hr hn
  have hx' : a.eval x = .slice (some ⟨g, 0, none⟩) n c := ev_den hr.see hx
  have hi' : a.eval i = .int kk j := ev_den hr.see hi
  obtain ⟨inf, hinf, hsz⟩ := tSize_spec hk
  have hrun : (execOp a.eval o).run P w = .ok (.value (.pointer (some ⟨g, m * kc, none⟩))) w := by
    unfold execOp
    subst hj
    have hc1 : 0 ≤ (m : Int) ∧ (m : Int) < (n : Int) := ⟨by omega, by omega⟩
    simp only [ho, hx', hi', Instr.indexAt, Sem.run_bind, asIntOf, Sem.run_pure, Result.andThen_ok, run_underlying (tSlice_spec ht), hc1, and_self, if_true, sizeOf, typeInfo, run_program, hinf, hsz, Int.toNat_natCast, Addr.add_mid, Nat.zero_add]
  exact wp_of_value hrun (hn _ _ _ rfl (hr.put o.dst (.c (.p id g (m * kc))) (dOk_lt hd)))
end
@[go_sem] theorem rowsTo_mk (T : List (Nat × SV)) (B : List Bl) (R R' : List Rw) (V : List Vw) (S : List GW) (n : Nat) : (St.mk T B R V S n).rowsTo R' = ⟨T, B, R', V, S, n⟩ := rfl
end Go.Proofs.Ytomfladifefomaa
