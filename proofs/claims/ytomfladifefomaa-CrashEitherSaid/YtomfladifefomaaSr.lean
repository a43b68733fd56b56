/- The walk's beginning, its end, and calls. Names no program. Conditions: as each law states them. -/
import Derived.Test.YtomfladifefomaaSw
namespace Go.Proofs.Ytomfladifefomaa
open Go.RowKit

def initT : Nat → List Value → List (Nat × SV)
  | _, [] => []
  | i, v :: r => (i, .c (.v v)) :: initT (i + 1) r
theorem look_initT : ∀ (l : List Value) (i t : Nat) (v : SV), look (initT i l) t = some v → ∃ x, l[t - i]? = some x ∧ i ≤ t ∧ v = .c (.v x)
  | [], i, t, v, h => by cases h
  | x :: r, i, t, v, h => by
    unfold initT look at h
    split at h
    · rename_i e
      cases h
      subst e
      exact ⟨x, by simp, Nat.le_refl _, rfl⟩
    · rename_i e
      obtain ⟨y, hy, hle, rfl⟩ := look_initT r (i + 1) t v h
      refine ⟨y, ?_, by omega, rfl⟩
      rw [show t - i = (t - (i + 1)) + 1 by omega]
      simpa using hy
def start (G : GW) (args : List Value) : St := ⟨initT 0 args, [], [], [], [G], 0⟩
theorem QOk_body (P : Program) (fn : Func) (R : Ending → World → Prop) : QOk (bodyPost P fn R) := fun c a d v w h => by
  obtain ⟨h1, h2⟩ := h
  exact ⟨by cases d <;> exact h1, h2⟩
/-- the beginning: a call that writes no block of its caller's -/
theorem enter {P : Program} {f : FuncId} {fn : Func} {c : Code} {args : Array Value} {G : GW} {R : Ending → World → Prop} {n : Nat} (N : Nat) (hG : G.Wf) (hf : P.funcs[f]? = some fn) (hb : fn.body = some c) (hn : fn.ntmps = n)
    (hl : args.size ≤ n) (h : W P ⟨G.w, Non, G.M, n⟩ N (.base (bodyPost P fn R)) (.code c) (start G args.toList)) : Calls P f args G.w R := by
  refine calls_of_wp hf hb ?_
  refine W_sound N (.base (bodyPost P fn R)) (.code c) _ (QOk_body P fn R) h trivial _ _ ?_
  refine ⟨fun t v hv => ?_, (by simp [hn]; omega), rfl, (fun b hb => by cases hb), List.Pairwise.nil, (fun b hb => by cases hb), (fun r hr => by cases hr), (fun r hr => by cases hr), List.Pairwise.nil, (fun v hv => by cases hv), Chg.refl _ _, ?_, hG⟩
  · obtain ⟨x, hx, _, rfl⟩ := look_initT _ _ _ _ hv
    rw [Nat.sub_zero] at hx
    have hx' : args[t]? = some x := by simpa using hx
    rw [Array.getElem?_append_left (by exact (Array.getElem?_eq_some_iff.1 hx').1)]
    exact hx'
  · intro s hs
    have : s = G := by simpa [start] using hs
    subst this
    refine ⟨Nat.le_refl _, fun k _ hm => ⟨rfl, fun q => ?_⟩⟩
    rcases q with q | ⟨b, hb, _⟩ | ⟨r, hr, _⟩
    · exact hm q
    · cases hb
    · cases hr

/-- what a call returns: a value with what holds of it, and nothing that was there has turned -/
def Ret (G : GW) (T : Value → GW → Prop) (e : Ending) (w' : World) : Prop := ∃ v, e = .returned v ∧ T v ⟨G.M, w'⟩ ∧ Chg Non G.w w'

def valR : Out → Option (Prop × SV)
  | .val s v => some (s, v)
  | _ => none
def tmpR : Option SV → Option (Prop × SV)
  | some v => some (True, v)
  | none => none
def cellB (P : Program) (t : TypeId) (g off : Nat) : Option Bl → Option (Prop × SV)
  | some b => valR (loadCs P t b.cs off (b.g = g))
  | none => none
def cellR (P : Program) (t : TypeId) (B : List Bl) : Option SV → Option (Prop × SV)
  | some (.c (.p id g off)) => cellB P t g off (getBl B id)
  | _ => none
def resO (P : Program) (σ : St) : ResultVar → Option (Prop × SV)
  | .tmp t => tmpR (look σ.tmps t)
  | .cell a t => cellR P t σ.blks (look σ.tmps a)
def resL (P : Program) (σ : St) : List ResultVar → Option (Prop × List SV)
  | [] => some (True, [])
  | r :: l => match resO P σ r, resL P σ l with
    | some (s, v), some (s', vs) => some (s ∧ s', v :: vs)
    | _, _ => none
def resV : List SV → Value
  | [v] => v.den
  | vs => .tuple (vs.map SV.den).toArray
section
variable {P : Program} {E : Env} {σ : St} {a : Act} {w : World}
theorem run_res (hr : Rel E σ a w) : ∀ (l : List ResultVar) (s : Prop) (vs : List SV), resL P σ l = some (s, vs) → s →
    (l.mapM fun | ResultVar.tmp t => (pure (a.tmps.getD t undef) : Sem Value) | .cell x t => do loadVar t (← asAddr (a.tmps.getD x undef))).run P w = .ok (vs.map SV.den) w
  | [], s, vs, h, hs => by cases h; rfl
  | r :: l, s, vs, h, hs => by
    unfold resL at h
    split at h
    · rename_i s1 v s2 vs2 h1 h2
      cases h
      have ih := run_res hr l s2 vs2 h2 hs.2
      rw [List.mapM_cons]
      cases r with
      | tmp t =>
        replace h1 : tmpR (look σ.tmps t) = some (s1, v) := h1
        unfold tmpR at h1
        split at h1
        · rename_i u hu
          cases h1
          have := hr.tmps t _ hu
          have e : a.tmps.getD t undef = v.den := by rw [Array.getD_eq_getD_getElem?, this]; rfl
          simp only [Sem.run_bind, Sem.run_pure, Result.andThen_ok, ih, e, List.map_cons]
        · cases h1
      | cell x t =>
        replace h1 : cellR P t σ.blks (look σ.tmps x) = some (s1, v) := h1
        unfold cellR at h1
        split at h1
        · rename_i id g off hx
          unfold cellB at h1
          split at h1
          · rename_i b hb
            unfold valR at h1
            split at h1
            · rename_i s' u hu
              cases h1
              have := hr.tmps x _ hx
              have e : a.tmps.getD x undef = .pointer (some ⟨g, off, none⟩) := by rw [Array.getD_eq_getD_getElem?, this]; rfl
              obtain ⟨h3, rfl⟩ := run_loadCs (P := P) (w := w) (g := b.g) (q := 0) (blk_cells (hr.blks b (getBl_mem hb))) hu
              rw [Nat.zero_add, show b.g = g from hs.1] at h3
              simp only [Instr.loadAt, Instr.sureAddr, Sem.run_bind, Sem.run_pure, Result.andThen_ok] at h3
              have e2 : (asAddr (a.tmps.getD x undef)).run P w = .ok ⟨g, off, none⟩ w := by rw [e]; rfl
              simp only [Sem.run_bind, Sem.run_pure, Result.andThen_ok, ih, e2, h3, List.map_cons]
            · cases h1
          · cases h1
        · cases h1
    · cases h
theorem results_run (hr : Rel E σ a w) {fn : Func} {rs : Array ResultVar} (hrs : fn.results = rs) {s : Prop} {vs : List SV} (h : resL P σ rs.toList = some (s, vs)) (hs : s) : (results fn a.tmps).run P w = .ok (resV vs) w := by
  have h1 := run_res hr rs.toList s vs h hs
  unfold results
  rw [hrs]
  have h2 : (rs.mapM fun | ResultVar.tmp t => (pure (a.tmps.getD t undef) : Sem Value) | .cell x t => do loadVar t (← asAddr (a.tmps.getD x undef))).run P w = .ok (vs.map SV.den).toArray w := by
    rw [Array.mapM_eq_mapM_toList]
    simp only [map_eq_pure_bind, Sem.run_bind, h1, Result.andThen_ok, Sem.run_pure]
  rw [Sem.run_bind]
  erw [h2]
  cases vs with
  | nil => rfl
  | cons v r => cases r with
    | nil => rfl
    | cons u r => simp [resV]
theorem ret_ok {fn : Func} {rs : Array ResultVar} (hrs : fn.results = rs) {s : Prop} {vs : List SV} {R : Ending → World → Prop} (h : resL P σ rs.toList = some (s, vs)) (hs : s) (hR : ∀ a w, Rel E σ a w → R (.returned (resV vs)) w) :
    Ok E σ (bodyPost P fn R .ret) := fun a w hr => ⟨hr.defers, _, results_run hr hrs h hs, hR a w hr⟩
theorem end_ok {fn : Func} {rs : Array ResultVar} (hrs : fn.results = rs) {s : Prop} {vs : List SV} {R : Ending → World → Prop} (h : resL P σ rs.toList = some (s, vs)) (hs : s) (hR : ∀ a w, Rel E σ a w → R (.returned (resV vs)) w) :
    Ok E σ (bodyPost P fn R .normal) := fun a w hr => ⟨hr.defers, _, results_run hr hrs h hs, hR a w hr⟩
/-- at the end: whatever was seen on the way is seen as ever -/
theorem Rel.fin (h : Rel E σ a w) {s : GW} (hs : s ∈ σ.snaps) : s.Le ⟨E.M, w⟩ :=
  ⟨(h.snaps s hs).size, fun k hk hm => ⟨((h.snaps s hs).keep k hk hm).1, fun q => ((h.snaps s hs).keep k hk hm).2 (.inl q)⟩⟩
def isFn (P : Program) (f : FuncId) : Bool := match P.funcs[f]? with
  | some fn => !(fn.name == "runtime.NumGoroutine") && fn.body.isSome
  | none => false
theorem run_enter {f : FuncId} (h : isFn P f = true) (args : Array Value) : (callFunc f args).run P w = .ok (.enter f args) w := by
  unfold isFn at h
  split at h
  · rename_i fn hf
    simp only [Bool.and_eq_true, Bool.not_eq_true'] at h
    have h1 : fn.body.isNone = false := by cases hb : fn.body <;> simp [hb] at h ⊢
    simp only [callFunc, Sem.run_bind, run_program, Result.andThen_ok, hf, h.1, h1, Bool.false_eq_true, if_false, Sem.run_pure]
  · cases h
theorem run_call {o : Oper} {c : Call} {f : FuncId} {vs : List SV} (ho : o.op = .call c) (hcal : c.callee = .value (.func f)) (hev : evs σ c.args.toList = some vs) (hf : isFn P f = true) (hr : See σ a w) :
    (execOp a.eval o).run P w = .ok (.enter f (vs.map SV.den).toArray) w := by
  have h1 := evs_args hr hev
  unfold execOp
  simp only [ho, resolve, hcal, h1, Act.eval, Deferred.ofValue, Sem.run_bind, Sem.run_pure, Result.andThen_ok, invoke, Array.empty_append, Array.append_empty, run_enter hf]
/-- a new state behind a call that writes nothing of what is there -/
theorem Rel.called (h : Rel E σ a w) {w' : World} (hc : Chg Non w w') : Rel E { σ with snaps := ⟨σ.M E, w'⟩ :: σ.snaps } a w' := by
  have hb : ∀ k, k < w.heap.size → w'.heap[k]? = w.heap[k]? := fun k hk => hc.block k hk id
  refine ⟨h.tmps, h.size, h.defers, fun b hb' => (hb _ (h.blks b hb').lt).trans (h.blks b hb'), h.nodup, h.own, fun r hr => ownsRow_block (h.rows r hr) fun g hg => hb g (ownsRow_lt (h.rows r hr) hg).2, h.apart, h.rapart, fun v hv => ?_, ?_, fun s hs => ?_, h.mem⟩
  · obtain ⟨h1, h2, h3⟩ := h.views v hv
    exact ⟨Nat.lt_of_lt_of_le h1 hc.size, h2, range_block h3 (hb _ h1)⟩
  · exact h.chg.trans ⟨hc.os, hc.tape, hc.output, hc.size, fun k hk _ => hb k hk⟩
  · rcases List.mem_cons.1 hs with rfl | hs
    · exact GW.Le.refl _
    · exact (h.snaps s hs).trans ⟨hc.size, fun k hk hm => ⟨hb k hk, hm⟩⟩
def St.seen (σ : St) (G : GW) : St := { σ with snaps := G :: σ.snaps }
def gdOk (ops : Array Oper) (σ : St) (o : Oper) : Prop := o.guard = none ∨ ∃ j want, o.guard = some (j, want) ∧ gVal ops σ j = some want
theorem gdOk_wanted {ops : Array Oper} {o : Oper} (h : gdOk ops σ o) (hr : Rel E σ a w) : Region.wanted o (yielded ops a.tmps) = true := by
  rcases h with h | ⟨j, want, h, hv⟩
  · simp [Region.wanted, h]
  · rw [wanted_of hr h hv]; simp
/-- a call, by its contract -/
theorem call_ok {k : Cont} {N : Nat} {ops : Array Oper} {rest : List Oper} {o : Oper} {c : Call} {f : FuncId} {vs : List SV} (T : Value → GW → Prop) (hk : k.ok) (hg : gdOk ops σ o) (ho : o.op = .call c) (hcal : c.callee = .value (.func f)) (hf : isFn P f = true)
    (hev : evs σ c.args.toList = some vs) (hd : dOk E o.dst)
    (hct : ∀ G : GW, (∀ s ∈ σ.snaps, s.Le G) → Calls P f (vs.map SV.den).toArray G.w (Ret G T))
    (h : ∀ v G, T v G → W P E N k (.ops ops rest) ((σ.seen G).put o.dst (.c (.v v)))) : Ok E σ (wpList P ops (k.den P) (o :: rest)) := by
  intro a w hr
  unfold wpList
  rw [if_pos (gdOk_wanted hg hr)]
  left
  unfold Oper.wp
  rw [run_call ho hcal hev hf hr.see]
  refine Calls.mono (hct ⟨σ.M E, w⟩ hr.snaps) fun e w' he => ?_
  obtain ⟨v, rfl, hT, hc⟩ := he
  exact W_sound N k _ _ hk (h v _ hT) trivial _ _ ((hr.called hc).put o.dst (.c (.v v)) (dOk_lt hd))
theorem callA_ok {k : Cont} {N : Nat} {ops : Array Oper} {B : List Bl} {V : List Vw} {fu i : Nat} {listed : Array Bool} {p : Plan} {o : Oper} {c : Call} {f : FuncId} {vs : List SV} (T : Value → GW → Prop) (hk : k.ok) (hi : ops[i]? = some o) (hg : gdOk ops σ o) (ho : o.op = .call c) (hcal : c.callee = .value (.func f)) (hf : isFn P f = true)
    (hev : evs σ c.args.toList = some vs) (hd : dOk E o.dst)
    (hct : ∀ G : GW, (∀ s ∈ σ.snaps, s.Le G) → Calls P f (vs.map SV.den).toArray G.w (Ret G T))
    (h : ∀ v G, T v G → W P E N k (.any ops B V fu (listed.setIfInBounds i true) p) ((σ.seen G).put o.dst (.c (.v v)))) : AnyStop P E k ops B V fu listed i p o σ := by
  intro hI a w hr
  obtain ⟨hpl, hpa, hB, hV⟩ := hI
  unfold wpOp
  simp only [hi, gdOk_wanted hg hr, if_true]
  left
  unfold Oper.wp
  rw [run_call ho hcal hev hf hr.see]
  refine Calls.mono (hct ⟨σ.M E, w⟩ hr.snaps) fun e w' he => ?_
  obtain ⟨v, rfl, hT, hc⟩ := he
  have hr' := (hr.called hc).put o.dst (.c (.v v)) (dOk_lt hd)
  have hB' : ∀ b ∈ B, b ∈ (((σ.seen ⟨σ.M E, w'⟩)).put o.dst (.c (.v v))).blks := by rw [(put_blks _ o.dst _).1]; exact hB
  have hV' : ∀ v' ∈ V, v' ∈ (((σ.seen ⟨σ.M E, w'⟩)).put o.dst (.c (.v v))).views := by rw [(put_blks _ o.dst _).2]; exact hV
  exact ⟨Sof_of hr' hB' hV', W_sound N k _ _ hk (h v _ hT) ⟨hpl, hpa, hB', hV'⟩ _ _ hr'⟩
/-- a region that draws its order, gone through by a plan -/
theorem draw_ok {k : Cont} {N id : Nat} {ops : Array Oper} (pl : Plan) (out : List Nat) (hk : k.ok) (hm : P.follows .mixedOrders = true) (hpl : planOk ops (Array.replicate ops.size false) pl = true) (hpa : planAlt ops (Array.replicate ops.size false) pl = true)
    (h : W P E N k (.any ops (σ.blks.filter fun b => !out.contains b.id) σ.views ops.size (Array.replicate ops.size false) pl) σ) : Ok E σ (sem P k (.code (.region id ops true))) := fun _ _ hr =>
  wp_region_held (S := Sof (σ.blks.filter fun b => !out.contains b.id) σ.views) hm
    (W_sound N k _ _ hk h ⟨hpl, hpa, fun _ hb => (List.mem_filter.1 hb).1, fun _ hv => hv⟩ _ _ hr.drew)
end
end Go.Proofs.Ytomfladifefomaa
