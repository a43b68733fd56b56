/- Calls that write one block of their caller's: what they may do, how they are entered, what their caller knows behind them. Names no program. Conditions: as each law states them. -/
import Derived.Test.YtomfladifefomaaA3
namespace Go.Proofs.Ytomfladifefomaa
open Go.RowKit
set_option linter.unusedSimpArgs false
/-- the block that may be written -/
def One (g : Nat) (k : Nat) : Prop := k = g
/-- what such a call returns, and what its caller's block holds then -/
def RetP (G : GW) (g : Nat) (t : TypeId) (n : Nat) (T : Value → List SC → GW → Prop) (e : Ending) (w' : World) : Prop :=
  ∃ v cs, e = .returned v ∧ cs.length = n ∧ Blk w' g t (dens cs) ∧ T v cs ⟨G.M, w'⟩ ∧ Chg (One g) G.w w'
theorem RetP.mono {P : Program} {f : FuncId} {args : Array Value} {G : GW} {g : Nat} {t : TypeId} {n : Nat} {T T' : Value → List SC → GW → Prop} (h : Calls P f args G.w (RetP G g t n T)) (k : ∀ v cs G', T v cs G' → T' v cs G') : Calls P f args G.w (RetP G g t n T') :=
  Calls.mono h fun _ _ ⟨v, cs, he, hl, hb, hT, hc⟩ => ⟨v, cs, he, hl, hb, k v cs _ hT, hc⟩
def startP (G : GW) (g : Nat) (t : TypeId) (cs : List SC) (args : List Value) : St := ⟨(0, .c (.p 0 g 0)) :: initT 1 args, [⟨0, g, t, cs⟩], [], [], [G], 1⟩
/-- the beginning: a call that may write the block its first argument points at -/
theorem enterP {P : Program} {f : FuncId} {fn : Func} {c : Code} {args : List Value} {G : GW} {g : Nat} {t : TypeId} {cs : List SC} {R : Ending → World → Prop} {n : Nat} (N : Nat) (hG : G.Wf) (hM : G.M g) (hB : Blk G.w g t (dens cs)) (hf : P.funcs[f]? = some fn) (hb : fn.body = some c) (hn : fn.ntmps = n)
    (hl : args.length + 1 ≤ n) (h : W P ⟨G.w, One g, G.M, n⟩ N (.base (bodyPost P fn R)) (.code c) (startP G g t cs args)) : Calls P f (Value.pointer (some ⟨g, 0, none⟩) :: args).toArray G.w R := by
  refine calls_of_wp hf hb ?_
  refine W_sound N (.base (bodyPost P fn R)) (.code c) _ (QOk_body P fn R) h trivial _ _ ?_
  refine ⟨fun u v hv => ?_, (by simp [hn]; omega), rfl, ?_, List.pairwise_singleton _ _, ?_, (fun r hr => by cases hr), (fun r hr => by cases hr), List.Pairwise.nil, (fun v hv => by cases hv), Chg.refl _ _, ?_, hG⟩
  · have hx : (Value.pointer (some ⟨g, 0, none⟩) :: args)[u]? = some v.den := by
      have hv' : (if 0 = u then some (SV.c (.p 0 g 0)) else look (initT 1 args) u) = some v := hv
      split at hv'
      · rename_i e
        subst e
        cases hv'
        rfl
      · rename_i e
        obtain ⟨x, hx, _, rfl⟩ := look_initT _ _ _ _ hv'
        obtain ⟨u', rfl⟩ : ∃ u', u = u' + 1 := ⟨u - 1, by omega⟩
        have hx1 : args[u']? = some x := by simpa using hx
        show args[u']? = some x
        exact hx1
    have hx' : (Value.pointer (some ⟨g, 0, none⟩) :: args).toArray[u]? = some v.den := by simpa using hx
    rw [Array.getElem?_append_left (by exact (Array.getElem?_eq_some_iff.1 hx').1)]
    exact hx'
  · intro b hb
    obtain rfl := List.mem_singleton.1 hb
    exact hB
  · intro b hb
    obtain rfl := List.mem_singleton.1 hb
    exact .inl rfl
  · intro s hs
    have : s = G := by simpa [startP] using hs
    subst this
    refine ⟨Nat.le_refl _, fun k _ hm => ⟨rfl, fun q => ?_⟩⟩
    rcases q with q | ⟨b, hb, e⟩ | ⟨r, hr, _⟩
    · exact hm q
    · obtain rfl := List.mem_singleton.1 hb
      exact hm (by rw [← e]; exact hM)
    · cases hr
section
variable {E : Env} {σ : St} {a : Act} {w : World}
/-- the same slot for the block that may be written is what is known of it at the end -/
def FinP (P : Program) (E : Env) (G : GW) (g : Nat) (t : TypeId) (n : Nat) (σ : St) (rs : List ResultVar) (T : Value → List SC → GW → Prop) : Prop := match resL P σ rs with
  | some (s, vs) => s ∧ ∃ b, getBl σ.blks 0 = some b ∧ b.g = g ∧ b.t = t ∧ b.cs.length = n ∧ ∀ a w, Rel E σ a w → (∀ s ∈ σ.snaps, s.Le ⟨G.M, w⟩) → T (resV vs) b.cs ⟨G.M, w⟩
  | none => False
theorem fin_retP {P : Program} {G : GW} {g : Nat} {t : TypeId} {m n : Nat} {σ : St} {fn : Func} {rs : Array ResultVar} {T : Value → List SC → GW → Prop} (hrs : fn.results = rs) (h : FinP P ⟨G.w, One g, G.M, n⟩ G g t m σ rs.toList T) :
    Ok ⟨G.w, One g, G.M, n⟩ σ (bodyPost P fn (RetP G g t m T) .ret) := by
  unfold FinP at h
  cases hl : resL P σ rs.toList with
  | none => rw [hl] at h; exact h.elim
  | some x =>
    obtain ⟨s, vs⟩ := x
    rw [hl] at h
    obtain ⟨hs, b, hb, rfl, rfl, hlen, hT⟩ := h
    exact ret_ok hrs hl hs fun a w hr => ⟨_, b.cs, rfl, hlen, hr.blks b (getBl_mem hb), hT a w hr (fun t ht => hr.fin ht), hr.chg⟩
theorem fin_normP {P : Program} {G : GW} {g : Nat} {t : TypeId} {m n : Nat} {σ : St} {fn : Func} {rs : Array ResultVar} {T : Value → List SC → GW → Prop} (hrs : fn.results = rs) (h : FinP P ⟨G.w, One g, G.M, n⟩ G g t m σ rs.toList T) :
    Ok ⟨G.w, One g, G.M, n⟩ σ (bodyPost P fn (RetP G g t m T) .normal) := by
  unfold FinP at h
  cases hl : resL P σ rs.toList with
  | none => rw [hl] at h; exact h.elim
  | some x =>
    obtain ⟨s, vs⟩ := x
    rw [hl] at h
    obtain ⟨hs, b, hb, rfl, rfl, hlen, hT⟩ := h
    exact end_ok hrs hl hs fun a w hr => ⟨_, b.cs, rfl, hlen, hr.blks b (getBl_mem hb), hT a w hr (fun t ht => hr.fin ht), hr.chg⟩
def finPA (E : Env) (G : GW) (g : Nat) (t : TypeId) (n : Nat) (σ : St) (T : Value → List SC → GW → Prop) (vs : List SV) : Option Bl → Prop
  | some b => b.g = g ∧ b.t = t ∧ b.cs.length = n ∧ ∀ a w, Rel E σ a w → (∀ s ∈ σ.snaps, s.Le ⟨G.M, w⟩) → T (resV vs) b.cs ⟨G.M, w⟩
  | none => False
def finPB (E : Env) (G : GW) (g : Nat) (t : TypeId) (n : Nat) (σ : St) (T : Value → List SC → GW → Prop) : Option (Prop × List SV) → Prop
  | some (s, vs) => s ∧ finPA E G g t n σ T vs (getBl σ.blks 0)
  | none => False
@[go_sem] theorem FinP_def (P : Program) (E : Env) (G : GW) (g : Nat) (t : TypeId) (n : Nat) (σ : St) (T : Value → List SC → GW → Prop) (rs : List ResultVar) : FinP P E G g t n σ rs T = finPB E G g t n σ T (resL P σ rs) := by
  unfold FinP finPB finPA
  cases resL P σ rs with
  | none => rfl
  | some x =>
    obtain ⟨s, vs⟩ := x
    show (_ ∧ _) = (_ ∧ _)
    congr 1
    cases getBl σ.blks 0 with
    | none => simp
    | some b => simp
@[go_sem] theorem finPB_some (E : Env) (G : GW) (g : Nat) (t : TypeId) (n : Nat) (σ : St) (T : Value → List SC → GW → Prop) (s : Prop) (vs : List SV) : finPB E G g t n σ T (some (s, vs)) = (s ∧ finPA E G g t n σ T vs (getBl σ.blks 0)) := rfl
@[go_sem] theorem finPA_some (E : Env) (G : GW) (g : Nat) (t : TypeId) (n : Nat) (σ : St) (T : Value → List SC → GW → Prop) (vs : List SV) (i g' t' : Nat) (cs : List SC) : finPA E G g t n σ T vs (some ⟨i, g', t', cs⟩) = (g' = g ∧ t' = t ∧ cs.length = n ∧ ∀ a w, Rel E σ a w → (∀ s ∈ σ.snaps, s.Le ⟨G.M, w⟩) → T (resV vs) cs ⟨G.M, w⟩) := rfl
@[go_sem] theorem startP_def (G : GW) (g : Nat) (t : TypeId) (cs : List SC) (args : List Value) : startP G g t cs args = ⟨(0, .c (.p 0 g 0)) :: initT 1 args, [⟨0, g, t, cs⟩], [], [], [G], 1⟩ := rfl
theorem putCs_all : ∀ (l cs : List SC), cs.length = l.length → putCs l 0 cs = cs
  | [], [], _ => rfl
  | [], _ :: _, h => by simp at h
  | _ :: _, [], h => by simp at h
  | x :: l, c :: cs, h => by
    show c :: putCs l 0 cs = c :: cs
    rw [putCs_all l cs (by simpa using h)]
theorem set_M {id : Nat} {cs : List SC} {b : Bl} (hb : getBl σ.blks id = some b) (k : Nat) : (σ.set id 0 cs).M E k ↔ σ.M E k := by
  obtain ⟨pre, post, hsp, hput⟩ := getBl_split hb
  have hset' : (σ.set id 0 cs).blks = pre ++ { b with cs := putCs b.cs 0 cs } :: post := hput 0 cs
  unfold St.M
  rw [hset', hsp]
  show (_ ∨ _ ∨ _) ↔ (_ ∨ _ ∨ _)
  constructor
  · rintro (h | ⟨c, hc, rfl⟩ | h)
    · exact .inl h
    · rcases List.mem_append.1 hc with hc | hc
      · exact .inr (.inl ⟨c, List.mem_append_left _ hc, rfl⟩)
      · rcases List.mem_cons.1 hc with rfl | hc
        · exact .inr (.inl ⟨b, List.mem_append_right _ List.mem_cons_self, rfl⟩)
        · exact .inr (.inl ⟨c, List.mem_append_right _ (List.mem_cons_of_mem _ hc), rfl⟩)
    · exact .inr (.inr h)
  · rintro (h | ⟨c, hc, rfl⟩ | h)
    · exact .inl h
    · rcases List.mem_append.1 hc with hc | hc
      · exact .inr (.inl ⟨c, List.mem_append_left _ hc, rfl⟩)
      · rcases List.mem_cons.1 hc with rfl | hc
        · exact .inr (.inl ⟨{ c with cs := putCs c.cs 0 cs }, List.mem_append_right _ List.mem_cons_self, rfl⟩)
        · exact .inr (.inl ⟨c, List.mem_append_right _ (List.mem_cons_of_mem _ hc), rfl⟩)
    · exact .inr (.inr h)
/-- a call that may write one own block -/
theorem callP_does {P : Program} {o : Oper} {c : Call} {f : FuncId} {vs : List SV} (id g : Nat) (t : TypeId) (n : Nat) (T : Value → List SC → GW → Prop) (ho : o.op = .call c) (hcal : c.callee = .value (.func f)) (hf : isFn P f = true)
    (hev : evs σ c.args.toList = some vs) (hd : dOk E o.dst) {b : Bl} (hb : getBl σ.blks id = some b) (hbg : b.g = g) (hbt : b.t = t) (hbn : b.cs.length = n)
    (hct : ∀ G : GW, Now E σ G → Calls P f (vs.map SV.den).toArray G.w (RetP G g t n T)) :
    Does P E σ o (fun σ' => ∃ v cs G, cs.length = n ∧ T v cs G ∧ (∀ s ∈ σ.snaps, s.Le G) ∧ σ' = ((σ.set id 0 cs).seen G).put o.dst (.c (.v v))) := by
  intro a w Q next hr hn
  unfold Oper.wp
  rw [run_call ho hcal hev hf hr.see]
  refine Calls.mono (hct ⟨σ.M E, w⟩ hr.now) fun e w' he => ?_
  obtain ⟨v, cs, rfl, hlen, hbk, hT, hc⟩ := he
  have h1 := hr.set (off := 0) (cs := cs) hb (by rw [hbn, hlen]; omega)
  have hall : putCs b.cs 0 cs = cs := putCs_all _ _ (by rw [hlen, hbn])
  have hold : w.heap[b.g]? = some (.cells (dens b.cs) b.t (0, 0)) := hr.blks b (getBl_mem hb)
  have hsz : (w.setRow b.g (dens (putCs b.cs 0 cs))).heap.size = w.heap.size := by simp [World.setRow]
  have hch : Chg Non (w.setRow b.g (dens (putCs b.cs 0 cs))) w' := by
    refine ⟨hc.os, hc.tape, hc.output, by rw [hsz]; exact hc.size, fun k hk _ => ?_⟩
    by_cases e : k = b.g
    · subst e
      have := setRow_heap w b.g (dens b.cs) (dens (putCs b.cs 0 cs)) b.t (0, 0) hold
      rw [this, hall]
      rw [← hbg, ← hbt] at hbk
      exact hbk
    · have : (w.setRow b.g (dens (putCs b.cs 0 cs))).heap[k]? = w.heap[k]? := by
        simp only [World.setRow, Array.getElem?_modify]
        rw [if_neg (fun e' => e e'.symm)]
      rw [this]
      exact hc.block k (by rw [hsz] at hk; exact hk) (fun q => e (by rw [hbg]; exact q))
  have h2 := h1.called hch
  have hM : (σ.set id 0 cs).M E = σ.M E := funext fun k => propext (set_M hb k)
  rw [hM] at h2
  refine hn _ _ _ ⟨v, cs, ⟨σ.M E, w'⟩, hlen, hT, fun s hs => ?_, rfl⟩ (h2.put o.dst (.c (.v v)) (dOk_lt hd))
  have h3 := h2.snaps s (List.mem_cons_of_mem _ hs)
  have h4 : ({ (σ.set id 0 cs) with snaps := ⟨σ.M E, w'⟩ :: (σ.set id 0 cs).snaps } : St).M E = σ.M E := hM
  rw [h4] at h3
  exact h3
/-- the same in a region that draws, which holds that block not -/
theorem anyP_ok {P : Program} {o : Oper} {k : Cont} {N : Nat} {ops : Array Oper} {B : List Bl} {V : List Vw} {fu i id n : Nat} {listed : Array Bool} {p : Plan} {T : Value → List SC → GW → Prop} (hd : Does P E σ o (fun σ' => ∃ v cs G, cs.length = n ∧ T v cs G ∧ (∀ s ∈ σ.snaps, s.Le G) ∧ σ' = ((σ.set id 0 cs).seen G).put o.dst (.c (.v v)))) (hk : k.ok) (hi : ops[i]? = some o) (hg : gdOk ops σ o)
    (hid : ∀ b ∈ B, b.id ≠ id)
    (h : ∀ σ', (∃ v cs G, cs.length = n ∧ T v cs G ∧ (∀ s ∈ σ.snaps, s.Le G) ∧ σ' = ((σ.set id 0 cs).seen G).put o.dst (.c (.v v))) → W P E N k (.any ops B V fu (listed.setIfInBounds i true) p) σ') : AnyStop P E k ops B V fu listed i p o σ := by
  refine any_ok hd hk hi hg (fun σ' hS hB b hb => ?_) (fun σ' hS v hv => ?_) h
  · obtain ⟨v, cs, G, _, _, _, rfl⟩ := hS
    rw [(put_blks _ _ _).1]
    exact putBl_keep (hB b hb) (hid b hb)
  · obtain ⟨u, cs, G, _, _, _, rfl⟩ := hS
    rw [(put_blks _ _ _).2]
    exact hv
/-- types of blocks nobody writes, in such a call -/
theorem tidP {X : TypeId → Bool} {G0 G : GW} {g n : Nat} (hn : Now ⟨G0.w, One g, G0.M, n⟩ σ G) (h0 : Tid X G0) (hW : G0.Wf) (hr : ∀ r ∈ σ.rows, X r.t = false) (hb : ∀ b ∈ σ.blks, X b.t = false) (hg : ∃ b ∈ σ.blks, b.g = g) : Tid X G := by
  intro k hk cur t fr hc
  have hblk : ∀ b ∈ σ.blks, b.g = k → X t = false := fun b hb' e => by
    have := hn.blks b hb'
    unfold Blk at this
    rw [e, hc] at this
    cases this
    exact hb b hb'
  rcases hn.only k hk with q | ⟨b, hb', e⟩ | ⟨r, hr', e'⟩
  · by_cases e : k = g
    · obtain ⟨b, hb', e2⟩ := hg
      exact hblk b hb' (by rw [e2, e])
    · exact h0 k q cur t fr ((hn.chg.block k (hW k q) e).symm.trans hc)
  · exact hblk b hb' e
  · have := hn.rows r hr'
    rcases this.2 with ⟨e, _⟩ | ⟨g, cap, cur', e, _, hg, _⟩
    · rw [e] at e'; cases e'
    · rw [e] at e'; cases e'
      rw [hg] at hc; cases hc
      exact hr r hr'
end
end Go.Proofs.Ytomfladifefomaa
