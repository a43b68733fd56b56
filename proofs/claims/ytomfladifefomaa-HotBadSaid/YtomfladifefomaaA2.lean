/- Symbolic execution, part 2: walks through regions and code. Names no program. Conditions: as each law states them. -/
import Derived.Test.YtomfladifefomaaA1
import Derived.OrdersHeld
-- Sw: The walk as a function: from a code and a state that is known to what must be shown; and that it suffices. Names no program. Conditions: as each law states them.
namespace Go.Proofs.Ytomfladifefomaa
open Go.RowKit

inductive Cont where
  | base (Q : Exit → Act → World → Prop)
  | seq (y : Code) (k : Cont)
  | block (id : Nat) (k : Cont)
  | inv (J : Act → World → Prop) (k : Cont)
def Cont.den (P : Program) : Cont → Exit → Act → World → Prop
  | .base Q => Q
  | .seq y k => Exit.then (y.wp P (k.den P)) (k.den P)
  | .block id k => Exit.inBlock id (k.den P)
  | .inv J k => Exit.then J (k.den P)
/-- what a panic leaves does not hang on the slots -/
def QOk (Q : Exit → Act → World → Prop) : Prop := ∀ c a d v w, Q (.panic c) (Act.put a d v) w → Q (.panic c) a w
def Cont.ok : Cont → Prop
  | .base Q => QOk Q
  | .seq _ k => k.ok
  | .block _ k => k.ok
  | .inv _ k => k.ok
theorem Cont.ok_den {P : Program} {k : Cont} (h : k.ok) : QOk (k.den P) := by
  induction k with
  | base Q => exact h
  | seq y k ih => exact fun c a d v w q => ih h c a d v w q
  | block id k ih => exact fun c a d v w q => ih h c a d v w q
  | inv J k ih => exact fun c a d v w q => ih h c a d v w q
/-- in which order a region that draws is gone through: one that may be taken first; else each that may come up -/
inductive Plan where
  | done
  | take (i : Nat) (p : Plan)
  | alt (i : Nat) (p rest : Plan)
  | last
def Plan.heads : Plan → List Nat
  | .alt i _ r => i :: r.heads
  | _ => []
def planOk (ops : Array Oper) : Array Bool → Plan → Bool
  | listed, .done => (Region.ready .any ops listed).isEmpty
  | listed, .take i p => Region.noSelect ops && Region.free .any ops listed i && (Region.ready .any ops listed).contains i && planOk ops (listed.setIfInBounds i true) p
  | listed, .alt i p r => decide (i < ops.size) && planOk ops (listed.setIfInBounds i true) p && planOk ops listed r
  | _, .last => true
/-- the first choice lists all that may come up -/
def planAlt (ops : Array Oper) : Array Bool → Plan → Bool
  | listed, .take i p => planAlt ops (listed.setIfInBounds i true) p
  | listed, .alt i p r => (Region.ready .any ops listed == i :: r.heads) && planAlt ops (listed.setIfInBounds i true) p && planRest ops listed r
  | _, _ => true
where planRest (ops : Array Oper) : Array Bool → Plan → Bool
  | listed, .alt i p r => planAlt ops (listed.setIfInBounds i true) p && planRest ops listed r
  | _, _ => true
def Sof (B : List Bl) (V : List Vw) (w : World) : Prop := (∀ b ∈ B, Blk w b.g b.t (dens b.cs)) ∧ ∀ v ∈ V, w.rangeAt v.g v.o v.cs
inductive Cmd where
  | code (c : Code)
  | norm
  | exit (id : Nat)
  | ret
  | ops (ops : Array Oper) (l : List Oper)
  | any (ops : Array Oper) (B : List Bl) (V : List Vw) (f : Nat) (listed : Array Bool) (pl : Plan)
  | alts (ops : Array Oper) (B : List Bl) (V : List Vw) (f : Nat) (listed : Array Bool) (pl : Plan)
def sem (P : Program) (k : Cont) : Cmd → Act → World → Prop
  | .code c => fun a w => c.wp P (k.den P) a w
  | .norm => k.den P .normal
  | .exit id => k.den P (.exit id)
  | .ret => k.den P .ret
  | .ops ops l => wpList P ops (k.den P) l
  | .any ops B V f listed _ => wpAnyH P .any ops (k.den P) (Sof B V) f listed
  | .alts ops B V f listed pl => fun a w => ∀ i ∈ pl.heads, wpOp P ops (k.den P) i (fun a' w' => Sof B V w' ∧ wpAnyH P .any ops (k.den P) (Sof B V) f (listed.setIfInBounds i true) a' w') a w
def Inv (σ : St) : Cmd → Prop
  | .any ops B V _ listed pl => planOk ops listed pl = true ∧ planAlt ops listed pl = true ∧ (∀ b ∈ B, b ∈ σ.blks) ∧ ∀ v ∈ V, v ∈ σ.views
  | .alts ops B V _ listed pl => planOk ops listed pl = true ∧ planAlt.planRest ops listed pl = true ∧ (∀ b ∈ B, b ∈ σ.blks) ∧ ∀ v ∈ V, v ∈ σ.views
  | _ => True
def dOk (E : Env) : Option Tmp → Prop
  | none => True
  | some t => t < E.n
def gTmp (ops : Array Oper) (j : Nat) : Option Tmp := (ops[j]?).bind (·.dst)
def gV2 : Option SV → Option Bool
  | some (.c (.v (.bool b))) => some b
  | _ => none
def gVal (ops : Array Oper) (σ : St) (j : Nat) : Option Bool := gV2 ((gTmp ops j).bind (look σ.tmps))
def St.know (σ : St) (x : Operand) (b : Bool) : St := match x with
  | .tmp t => { σ with tmps := (t, .c (.v (.bool b))) :: σ.tmps }
  | _ => σ
def AnyStop (P : Program) (E : Env) (k : Cont) (ops : Array Oper) (B : List Bl) (V : List Vw) (f : Nat) (listed : Array Bool) (i : Nat) (p : Plan) (_o : Oper) (σ : St) : Prop :=
  Inv σ (.any ops B V f (listed.setIfInBounds i true) p) → Ok E σ (fun a w => wpOp P ops (k.den P) i (fun a' w' => Sof B V w' ∧ wpAnyH P .any ops (k.den P) (Sof B V) f (listed.setIfInBounds i true) a' w') a w)
/-- a branch that hangs on a bool that is not known: the walk stands till one says which -/
def Wb (t : Bool) (x y : Prop) : Prop := (t = true → x) ∧ (t = false → y)

/-- a test -/
def Wc (P : Program) (E : Env) (rec_ : Cmd → St → Prop) (k : Cont) (c : Operand) (x y : Code) (σ : St) : Option SV → Prop
  | some (.c (.v (.bool t))) => Wb t (rec_ (.code x) (σ.know c true)) (rec_ (.code y) (σ.know c false))
  | _ => Ok E σ (sem P k (.code (.cond c x y)))
/-- an operation of a region in its order -/
def Wo (P : Program) (E : Env) (rec_ : Cmd → St → Prop) (k : Cont) (ops : Array Oper) (rest : List Oper) (o : Oper) (σ : St) : Out → Prop
  | .val s v => dOk E o.dst ∧ s ∧ rec_ (.ops ops rest) (σ.put o.dst v)
  | .new t cs m => dOk E o.dst ∧ ∀ g, rec_ (.ops ops rest) ((σ.add g t cs).put o.dst (mkS m σ.next g))
  | .put s id off cs => dOk E o.dst ∧ s ∧ rec_ (.ops ops rest) ((σ.set id off cs).put o.dst (.c (.v undef)))
  | .no => Ok E σ (wpList P ops (k.den P) (o :: rest))
/-- one that is guarded -/
def Wg (P : Program) (E : Env) (rec_ : Cmd → St → Prop) (k : Cont) (ops : Array Oper) (rest : List Oper) (o : Oper) (σ : St) (want : Bool) : Option Bool → Prop
  | some b => Wb (b == want) (Wo P E rec_ k ops rest o σ (stepO P o σ)) (dOk E o.dst ∧ rec_ (.ops ops rest) (σ.put o.dst (.c (.v undef))))
  | none => Ok E σ (wpList P ops (k.den P) (o :: rest))
/-- what goes on in a region that draws, behind number i -/
structure Dr where
  ops : Array Oper
  B : List Bl
  V : List Vw
  f : Nat
  listed : Array Bool
def Dr.next (d : Dr) (i : Nat) (p : Plan) : Cmd := .any d.ops d.B d.V d.f (d.listed.setIfInBounds i true) p
/-- an operation that is to be taken first, and that one must say of what it yields -/
def TakeStop (P : Program) (E : Env) (rec_ : Cmd → St → Prop) (d : Dr) (i : Nat) (p : Plan) (o : Oper) (σ : St) : Prop :=
  ∃ v : SV, dOk E o.dst ∧ (∀ (a : Act) (w : World), See { σ with blks := d.B, views := d.V } a w → (execOp a.eval o).run P w = .ok (.value v.den) w) ∧ rec_ (d.next i p) (σ.put o.dst v)
/-- one that is taken first -/
def Wt (P : Program) (E : Env) (rec_ : Cmd → St → Prop) (d : Dr) (i : Nat) (p : Plan) (o : Oper) (σ : St) : Out → Prop
  | .val s v => dOk E o.dst ∧ s ∧ rec_ (d.next i p) (σ.put o.dst v)
  | .no => TakeStop P E rec_ d i p o σ
  | _ => False
def Wh (P : Program) (E : Env) (rec_ : Cmd → St → Prop) (d : Dr) (i : Nat) (p : Plan) (o : Oper) (σ : St) (want : Bool) : Option Bool → Prop
  | some b => Wb (b == want) (Wt P E rec_ d i p o σ (stepO P o { σ with blks := d.B, views := d.V })) (dOk E o.dst ∧ rec_ (d.next i p) (σ.put o.dst (.c (.v undef))))
  | none => False
/-- one of those that may come up -/
def Wx (P : Program) (E : Env) (rec_ : Cmd → St → Prop) (k : Cont) (d : Dr) (i : Nat) (p : Plan) (o : Oper) (σ : St) : Out → Prop
  | .val s v => dOk E o.dst ∧ s ∧ rec_ (d.next i p) (σ.put o.dst v)
  | .new t cs m => dOk E o.dst ∧ ∀ g, rec_ (d.next i p) ((σ.add g t cs).put o.dst (mkS m σ.next g))
  | .put s id off cs => dOk E o.dst ∧ (∀ b ∈ d.B, b.id ≠ id) ∧ s ∧ rec_ (d.next i p) ((σ.set id off cs).put o.dst (.c (.v undef)))
  | .no => AnyStop P E k d.ops d.B d.V d.f d.listed i p o σ
def Wy (P : Program) (E : Env) (rec_ : Cmd → St → Prop) (k : Cont) (d : Dr) (i : Nat) (p : Plan) (o : Oper) (σ : St) (want : Bool) : Option Bool → Prop
  | some b => Wb (b == want) (Wx P E rec_ k d i p o σ (stepO P o σ)) (dOk E o.dst ∧ rec_ (d.next i p) (σ.put o.dst (.c (.v undef))))
  | none => AnyStop P E k d.ops d.B d.V d.f d.listed i p o σ
def WopG (P : Program) (E : Env) (rec_ : Cmd → St → Prop) (k : Cont) (ops : Array Oper) (rest : List Oper) (o : Oper) (σ : St) : Option (Nat × Bool) → Prop
  | none => Wo P E rec_ k ops rest o σ (stepO P o σ)
  | some (j, want) => Wg P E rec_ k ops rest o σ want (gVal ops σ j)
def WtG (P : Program) (E : Env) (rec_ : Cmd → St → Prop) (d : Dr) (i : Nat) (p : Plan) (o : Oper) (σ : St) : Option (Nat × Bool) → Prop
  | none => Wt P E rec_ d i p o σ (stepO P o { σ with blks := d.B, views := d.V })
  | some (j, want) => Wh P E rec_ d i p o σ want (gVal d.ops σ j)
def WxG (P : Program) (E : Env) (rec_ : Cmd → St → Prop) (k : Cont) (d : Dr) (i : Nat) (p : Plan) (o : Oper) (σ : St) : Option (Nat × Bool) → Prop
  | none => Wx P E rec_ k d i p o σ (stepO P o σ)
  | some (j, want) => Wy P E rec_ k d i p o σ want (gVal d.ops σ j)
def WtO (P : Program) (E : Env) (rec_ : Cmd → St → Prop) (d : Dr) (i : Nat) (p : Plan) (σ : St) : Option Oper → Prop
  | some o => WtG P E rec_ d i p o σ o.guard
  | none => False
def WxO (P : Program) (E : Env) (rec_ : Cmd → St → Prop) (k : Cont) (d : Dr) (i : Nat) (p : Plan) (σ : St) : Option Oper → Prop
  | some o => WxG P E rec_ k d i p o σ o.guard
  | none => False
def WoL (P : Program) (E : Env) (rec_ : Cmd → St → Prop) (k : Cont) (ops : Array Oper) (σ : St) : List Oper → Prop
  | [] => rec_ .norm σ
  | o :: rest => WopG P E rec_ k ops rest o σ o.guard
def W (P : Program) (E : Env) : Nat → Cont → Cmd → St → Prop
  | 0, k, c, σ => Inv σ c → Ok E σ (sem P k c)
  | n + 1, k, .code .skip, σ => W P E n k .norm σ
  | n + 1, k, .code (.seq x y), σ => W P E n (.seq y k) (.code x) σ
  | n + 1, k, .code (.region _ ops false), σ => W P E n k (.ops ops ops.toList) σ
  | n + 1, k, .code (.cond c x y), σ => Wc P E (W P E n k) k c x y σ (ev σ c)
  | n + 1, k, .code (.block id c), σ => W P E n (.block id k) (.code c) σ
  | n + 1, k, .code (.exit id), σ => W P E n k (.exit id) σ
  | n + 1, k, .code .ret, σ => W P E n k .ret σ
  | _ + 1, k, .code c, σ => Ok E σ (sem P k (.code c))
  | _ + 1, .base Q, .norm, σ => Ok E σ (Q .normal)
  | n + 1, .seq y k, .norm, σ => W P E n k (.code y) σ
  | n + 1, .block _ k, .norm, σ => W P E n k .norm σ
  | _ + 1, .inv J _, .norm, σ => Ok E σ J
  | _ + 1, .base Q, .exit id, σ => Ok E σ (Q (.exit id))
  | n + 1, .seq _ k, .exit id, σ => W P E n k (.exit id) σ
  | n + 1, .block id' k, .exit id, σ => if id = id' then W P E n k .norm σ else W P E n k (.exit id) σ
  | n + 1, .inv _ k, .exit id, σ => W P E n k (.exit id) σ
  | _ + 1, .base Q, .ret, σ => Ok E σ (Q .ret)
  | n + 1, .seq _ k, .ret, σ => W P E n k .ret σ
  | n + 1, .block _ k, .ret, σ => W P E n k .ret σ
  | n + 1, .inv _ k, .ret, σ => W P E n k .ret σ
  | n + 1, k, .ops ops l, σ => WoL P E (W P E n k) k ops σ l
  | n + 1, k, .any _ _ _ _ _ .done, σ => W P E n k .norm σ
  | n + 1, k, .any ops B V (f + 1) listed (.take i p), σ => WtO P E (W P E n k) ⟨ops, B, V, f, listed⟩ i p σ ops[i]?
  | n + 1, k, .any ops B V (f + 1) listed (.alt i p r), σ => W P E n k (.alts ops B V f listed (.alt i p r)) σ
  | _ + 1, _, .any .., _ => False
  | n + 1, k, .alts ops B V f listed (.alt i p r), σ => WxO P E (W P E n k) k ⟨ops, B, V, f, listed⟩ i p σ ops[i]? ∧ W P E n k (.alts ops B V f listed r) σ
  | _ + 1, _, .alts .., _ => True

section
variable {P : Program} {E : Env} {rec_ : Cmd → St → Prop} {k : Cont}
theorem dOk_lt {d : Option Tmp} (h : dOk E d) : ∀ t, d = some t → t < E.n := fun t e => by subst e; exact h
theorem wp_of_value {o : Oper} {a : Act} {w w' : World} {v : Value} {next : Act → World → Prop} {Q : Exit → Act → World → Prop} (h : (execOp a.eval o).run P w = .ok (.value v) w') (hn : next (a.put o.dst v) w') : o.wp P a w next Q := by
  unfold Oper.wp; rw [h]; exact hn
theorem wp_of_skip {o : Oper} {a : Act} {w w' : World} {next : Act → World → Prop} {Q : Exit → Act → World → Prop} (h : (execOp a.eval o).run P w = .ok .skip w') (hn : next (a.put o.dst undef) w') : o.wp P a w next Q := by
  unfold Oper.wp; rw [h]; exact hn
/-- an operation that is carried out, whatever comes behind it -/
theorem step_sound {o : Oper} {σ : St} {a : Act} {w : World} {next : Act → World → Prop} {Q : Exit → Act → World → Prop} (hr : Rel E σ a w) (hd : dOk E o.dst) :
    (∀ s v, stepO P o σ = .val s v → s → (Rel E (σ.put o.dst v) (a.put o.dst v.den) w → next (a.put o.dst v.den) w) → o.wp P a w next Q) ∧
    (∀ t cs m, stepO P o σ = .new t cs m → (∀ a' w', Rel E ((σ.add w.heap.size t cs).put o.dst (mkS m σ.next w.heap.size)) a' w' → next a' w') → o.wp P a w next Q) ∧
    (∀ s id off cs, stepO P o σ = .put s id off cs → s → (∀ a' w', Rel E ((σ.set id off cs).put o.dst (.c (.v undef))) a' w' → next a' w') → o.wp P a w next Q) := by
  refine ⟨fun s v h hs hn => ?_, fun t cs m h hn => ?_, fun s id off cs h hs hn => ?_⟩
  · exact wp_of_value (stepO_val h hs hr.see) (hn (hr.put _ _ (dOk_lt hd)))
  · refine wp_of_value (stepO_new h hr.see) (hn _ _ ?_)
    rw [← mkS_den m σ.next]
    exact (hr.add t cs).put _ _ (dOk_lt hd)
  · obtain ⟨b, hb, hl, hrun⟩ := stepO_put h hs hr.see
    refine wp_of_skip hrun (hn _ _ ?_)
    exact (hr.set hb hl).put _ (.c (.v undef)) (dOk_lt hd)
theorem Rel.know {σ : St} {a : Act} {w : World} (h : Rel E σ a w) (x : Operand) (b : Bool) (hx : a.eval x = .bool b) : Rel E (σ.know x b) a w := by
  cases x with
  | tmp t =>
    refine ⟨fun u v hu => ?_, h.size, h.defers, h.blks, h.nodup, h.own, h.rows, h.apart, h.rapart, h.views, h.chg, h.snaps, h.mem⟩
    have hu' : (if t = u then some (SV.c (.v (.bool b))) else look σ.tmps u) = some v := hu
    split at hu'
    · rename_i e
      subst e
      cases hu'
      have : a.tmps.getD t undef = .bool b := hx
      rcases Nat.lt_or_ge t a.tmps.size with hl | hl
      · rw [Array.getD_eq_getD_getElem?, Array.getElem?_eq_getElem hl] at this
        rw [Array.getElem?_eq_getElem hl]
        exact congrArg some this
      · rw [Array.getD_eq_getD_getElem?, Array.getElem?_eq_none hl] at this
        simp [undef] at this
    · exact h.tmps u v hu'
  | const v => exact h
  | global g => exact h
  | func f => exact h
theorem wanted_of {ops : Array Oper} {σ : St} {a : Act} {w : World} (h : Rel E σ a w) {o : Oper} {j : Nat} {want b : Bool} (hg : o.guard = some (j, want)) (hv : gVal ops σ j = some b) :
    Region.wanted o (yielded ops a.tmps) = (b == want) := by
  unfold gVal gTmp gV2 at hv
  cases hd : (ops[j]?).bind (·.dst) with
  | none => rw [hd] at hv; cases hv
  | some t =>
    rw [hd] at hv
    simp only [Option.bind_some] at hv
    split at hv
    · rename_i b' hl
      cases hv
      have := h.tmps t _ hl
      simp only [Region.wanted, hg, yielded, hd, Option.bind_some, this, SV.den, SC.den]
      cases b <;> cases want <;> rfl
    · cases hv
theorem Wo_sound (hrec : ∀ c σ, rec_ c σ → Inv σ c → Ok E σ (sem P k c)) {ops : Array Oper} {rest : List Oper} {o : Oper} {σ : St} (h : Wo P E rec_ k ops rest o σ (stepO P o σ))
    {a : Act} {w : World} (hr : Rel E σ a w) (hw : Region.wanted o (yielded ops a.tmps) = true) : wpList P ops (k.den P) (o :: rest) a w := by
  cases hout : stepO P o σ with
  | no => rw [hout] at h; exact h a w hr
  | val s v =>
    rw [hout] at h
    obtain ⟨hd, hs, hn⟩ := h
    unfold wpList
    rw [if_pos hw]
    exact .inl ((step_sound hr hd).1 s v hout hs fun hr' => hrec _ _ hn trivial _ _ hr')
  | new t cs m =>
    rw [hout] at h
    obtain ⟨hd, hn⟩ := h
    unfold wpList
    rw [if_pos hw]
    exact .inl ((step_sound hr hd).2.1 t cs m hout fun a' w' hr' => hrec _ _ (hn _) trivial _ _ hr')
  | put s id off cs =>
    rw [hout] at h
    obtain ⟨hd, hs, hn⟩ := h
    unfold wpList
    rw [if_pos hw]
    exact .inl ((step_sound hr hd).2.2 s id off cs hout hs fun a' w' hr' => hrec _ _ hn trivial _ _ hr')
theorem WoL_sound (hrec : ∀ c σ, rec_ c σ → Inv σ c → Ok E σ (sem P k c)) {ops : Array Oper} {l : List Oper} {σ : St} (h : WoL P E rec_ k ops σ l) : Ok E σ (wpList P ops (k.den P) l) := by
  intro a w hr
  cases l with
  | nil => exact hrec _ _ h trivial a w hr
  | cons o rest =>
    replace h : WopG P E rec_ k ops rest o σ o.guard := h
    cases hg : o.guard with
    | none =>
      rw [hg] at h
      exact Wo_sound hrec h hr (by simp [Region.wanted, hg])
    | some jw =>
      obtain ⟨j, want⟩ := jw
      rw [hg] at h
      replace h : Wg P E rec_ k ops rest o σ want (gVal ops σ j) := h
      cases hv : gVal ops σ j with
      | none => rw [hv] at h; exact h a w hr
      | some b =>
        rw [hv] at h
        have hw := wanted_of hr hg hv
        cases hb : b == want with
        | true => exact Wo_sound hrec (h.1 hb) hr (by rw [hw, hb])
        | false =>
          obtain ⟨hd, hn⟩ := h.2 hb
          unfold wpList
          rw [if_neg (by rw [hw, hb]; simp)]
          exact hrec _ _ hn trivial _ _ (hr.put _ (.c (.v undef)) (dOk_lt hd))
theorem Sof_of {σ : St} {B : List Bl} {V : List Vw} {a : Act} {w : World} (hr : Rel E σ a w) (hB : ∀ b ∈ B, b ∈ σ.blks) (hV : ∀ v ∈ V, v ∈ σ.views) : Sof B V w :=
  ⟨fun b hb => hr.blks b (hB b hb), fun v hv => (hr.views v (hV v hv)).2.2⟩
theorem put_blks (σ : St) (d : Option Tmp) (v : SV) : (σ.put d v).blks = σ.blks ∧ (σ.put d v).views = σ.views := by cases d <;> exact ⟨rfl, rfl⟩
theorem putBl_keep {id off : Nat} {cs : List SC} : ∀ {l : List Bl} {b : Bl}, b ∈ l → b.id ≠ id → b ∈ putBl l id off cs
  | x :: r, b, h, hne => by
    unfold putBl
    split
    · rename_i e
      rcases List.mem_cons.1 h with rfl | h
      · exact absurd e hne
      · exact List.mem_cons_of_mem _ h
    · rcases List.mem_cons.1 h with rfl | h
      · exact List.mem_cons_self
      · exact List.mem_cons_of_mem _ (putBl_keep h hne)
theorem WtO_sound (hk : k.ok) (hrec : ∀ c σ, rec_ c σ → Inv σ c → Ok E σ (sem P k c)) {d : Dr} {i : Nat} {p : Plan} {σ : St} (h : WtO P E rec_ d i p σ d.ops[i]?)
    (hI : Inv σ (.any d.ops d.B d.V (d.f + 1) d.listed (.take i p))) : Ok E σ (wpAnyH P .any d.ops (k.den P) (Sof d.B d.V) (d.f + 1) d.listed) := by
  intro a w hr
  obtain ⟨hpl, hpa, hB, hV⟩ := hI
  simp only [planOk, Bool.and_eq_true] at hpl
  obtain ⟨⟨⟨hns, hfr⟩, hrd⟩, hpl⟩ := hpl
  cases ho : d.ops[i]? with
  | none => rw [ho] at h; exact h.elim
  | some o =>
    rw [ho] at h
    have hS := Sof_of hr hB hV
    have hQ := fun v => fun c a w q => (Cont.ok_den (P := P) hk) c a o.dst v w q
    have hsee : ∀ w, Sof d.B d.V w → See { σ with blks := d.B, views := d.V } a w := fun w hS => ⟨hr.tmps, hS.1, hS.2⟩
    have hnext : ∀ v : SV, Inv (σ.put o.dst v) (d.next i p) := fun v => ⟨hpl, hpa, by rw [(put_blks σ o.dst v).1]; exact hB, by rw [(put_blks σ o.dst v).2]; exact hV⟩
    have hval : ∀ s v, stepO P o { σ with blks := d.B, views := d.V } = .val s v → Region.wanted o (yielded d.ops a.tmps) = true → dOk E o.dst → s → rec_ (d.next i p) (σ.put o.dst v) →
        wpAnyH P .any d.ops (k.den P) (Sof d.B d.V) (d.f + 1) d.listed a w := fun s v hst hw hd hs hn =>
      wpAnyH_take ho hns hfr hrd (hQ v.den) (.inl ⟨hw, fun w' hS' => stepO_val hst hs (hsee w' hS')⟩) hS (hrec _ _ hn (hnext v) _ _ (hr.put _ _ (dOk_lt hd)))
    have hWt : Wt P E rec_ d i p o σ (stepO P o { σ with blks := d.B, views := d.V }) → Region.wanted o (yielded d.ops a.tmps) = true → wpAnyH P .any d.ops (k.den P) (Sof d.B d.V) (d.f + 1) d.listed a w := by
      intro h hw
      cases hst : stepO P o { σ with blks := d.B, views := d.V } with
      | val s v =>
        rw [hst] at h
        exact hval s v hst hw h.1 h.2.1 h.2.2
      | no =>
        rw [hst] at h
        obtain ⟨v, hd, hrun, hn⟩ := h
        exact wpAnyH_take ho hns hfr hrd (hQ v.den) (.inl ⟨hw, fun w' hS' => hrun a w' (hsee w' hS')⟩) hS (hrec _ _ hn (hnext v) _ _ (hr.put _ _ (dOk_lt hd)))
      | _ => rw [hst] at h; exact h.elim
    replace h : WtG P E rec_ d i p o σ o.guard := h
    cases hg : o.guard with
    | none =>
      rw [hg] at h
      exact hWt h (by simp [Region.wanted, hg])
    | some jw =>
      obtain ⟨j, want⟩ := jw
      rw [hg] at h
      replace h : Wh P E rec_ d i p o σ want (gVal d.ops σ j) := h
      cases hv : gVal d.ops σ j with
      | none => rw [hv] at h; exact h.elim
      | some b =>
        rw [hv] at h
        have hw := wanted_of hr hg hv
        cases hb : b == want with
        | true => exact hWt (h.1 hb) (by rw [hw, hb])
        | false =>
          obtain ⟨hd, hn⟩ := h.2 hb
          exact wpAnyH_take ho hns hfr hrd (hQ undef) (.inr ⟨by rw [hw, hb], rfl⟩) hS (hrec _ _ hn (hnext (.c (.v undef))) _ _ (hr.put _ (.c (.v undef)) (dOk_lt hd)))
theorem WxO_sound (hrec : ∀ c σ, rec_ c σ → Inv σ c → Ok E σ (sem P k c)) {d : Dr} {i : Nat} {p : Plan} {σ : St} (h : WxO P E rec_ k d i p σ d.ops[i]?)
    (hpl : planOk d.ops (d.listed.setIfInBounds i true) p = true) (hpa : planAlt d.ops (d.listed.setIfInBounds i true) p = true) (hB : ∀ b ∈ d.B, b ∈ σ.blks) (hV : ∀ v ∈ d.V, v ∈ σ.views) :
    Ok E σ (fun a w => wpOp P d.ops (k.den P) i (fun a' w' => Sof d.B d.V w' ∧ wpAnyH P .any d.ops (k.den P) (Sof d.B d.V) d.f (d.listed.setIfInBounds i true) a' w') a w) := by
  intro a w hr
  cases ho : d.ops[i]? with
  | none => rw [ho] at h; exact h.elim
  | some o =>
    rw [ho] at h
    have hfin : ∀ σ', (∀ b ∈ d.B, b ∈ σ'.blks) → (∀ v ∈ d.V, v ∈ σ'.views) → rec_ (d.next i p) σ' → ∀ a' w', Rel E σ' a' w' → Sof d.B d.V w' ∧ wpAnyH P .any d.ops (k.den P) (Sof d.B d.V) d.f (d.listed.setIfInBounds i true) a' w' :=
      fun σ' hB' hV' hn a' w' hr' => ⟨Sof_of hr' hB' hV', hrec _ _ hn ⟨hpl, hpa, hB', hV'⟩ a' w' hr'⟩
    have hWx : Wx P E rec_ k d i p o σ (stepO P o σ) → Region.wanted o (yielded d.ops a.tmps) = true → wpOp P d.ops (k.den P) i (fun a' w' => Sof d.B d.V w' ∧ wpAnyH P .any d.ops (k.den P) (Sof d.B d.V) d.f (d.listed.setIfInBounds i true) a' w') a w := by
      intro h hw
      cases hst : stepO P o σ with
      | no => rw [hst] at h; exact h ⟨hpl, hpa, hB, hV⟩ a w hr
      | val s v =>
        rw [hst] at h
        obtain ⟨hd, hs, hn⟩ := h
        unfold wpOp
        simp only [ho, hw, if_true]
        exact .inl ((step_sound hr hd).1 s v hst hs fun hr' => hfin _ (by rw [(put_blks σ o.dst v).1]; exact hB) (by rw [(put_blks σ o.dst v).2]; exact hV) hn _ _ hr')
      | new t cs m =>
        rw [hst] at h
        obtain ⟨hd, hn⟩ := h
        unfold wpOp
        simp only [ho, hw, if_true]
        refine .inl ((step_sound hr hd).2.1 t cs m hst fun a' w' hr' => hfin _ (fun b hb => ?_) (fun v hv => ?_) (hn w.heap.size) a' w' hr')
        · rw [(put_blks _ o.dst _).1]; exact List.mem_cons_of_mem _ (hB b hb)
        · rw [(put_blks _ o.dst _).2]; exact hV v hv
      | put s id off cs =>
        rw [hst] at h
        obtain ⟨hd, hne, hs, hn⟩ := h
        unfold wpOp
        simp only [ho, hw, if_true]
        refine .inl ((step_sound hr hd).2.2 s id off cs hst hs fun a' w' hr' => hfin _ (fun b hb => ?_) (fun v hv => ?_) hn a' w' hr')
        · rw [(put_blks _ o.dst _).1]; exact putBl_keep (hB b hb) (hne b hb)
        · rw [(put_blks _ o.dst _).2]; exact hV v hv
    replace h : WxG P E rec_ k d i p o σ o.guard := h
    cases hg : o.guard with
    | none =>
      rw [hg] at h
      exact hWx h (by simp [Region.wanted, hg])
    | some jw =>
      obtain ⟨j, want⟩ := jw
      rw [hg] at h
      replace h : Wy P E rec_ k d i p o σ want (gVal d.ops σ j) := h
      cases hv : gVal d.ops σ j with
      | none => rw [hv] at h; exact h ⟨hpl, hpa, hB, hV⟩ a w hr
      | some b =>
        rw [hv] at h
        have hw := wanted_of hr hg hv
        cases hb : b == want with
        | true => exact hWx (h.1 hb) (by rw [hw, hb])
        | false =>
          obtain ⟨hd, hn⟩ := h.2 hb
          unfold wpOp
          simp only [ho, hw, hb]
          exact hfin _ (by rw [(put_blks σ o.dst _).1]; exact hB) (by rw [(put_blks σ o.dst _).2]; exact hV) hn _ _ (hr.put _ (.c (.v undef)) (dOk_lt hd))
theorem Wc_sound (hrec : ∀ c σ, rec_ c σ → Inv σ c → Ok E σ (sem P k c)) {c : Operand} {x y : Code} {σ : St} (h : Wc P E rec_ k c x y σ (ev σ c)) : Ok E σ (sem P k (.code (.cond c x y))) := by
  intro a w hr
  unfold Wc at h
  split at h
  · rename_i t hc
    have he : a.eval c = .bool t := ev_den hr.see hc
    refine wp_cond_split he (fun ht => ?_) (fun ht => ?_)
    · exact hrec _ _ (h.1 ht) trivial a w (hr.know c true (by rw [he, ht]))
    · exact hrec _ _ (h.2 ht) trivial a w (hr.know c false (by rw [he, ht]))
  · exact h a w hr
end
theorem W_sound {P : Program} {E : Env} : ∀ (n : Nat) (k : Cont) (c : Cmd) (σ : St), k.ok → W P E n k c σ → Inv σ c → Ok E σ (sem P k c)
  | 0, k, c, σ, _, h, hI => h hI
  | n + 1, k, c, σ, hk, h, hI => by
    have hrec : ∀ c σ, W P E n k c σ → Inv σ c → Ok E σ (sem P k c) := fun c σ => W_sound n k c σ hk
    cases c with
    | code c =>
      cases c with
      | skip => exact fun a w hr => wp_skip (hrec .norm σ h trivial a w hr)
      | seq x y => exact fun a w hr => wp_seq (W_sound n (.seq y k) (.code x) σ hk h trivial a w hr)
      | region id ops draw =>
        cases draw with
        | false => exact fun a w hr => wp_region_list (hrec (.ops ops ops.toList) σ h trivial a w hr)
        | true => exact h
      | cond c x y => exact Wc_sound hrec h
      | block id c => exact fun a w hr => wp_block (W_sound n (.block id k) (.code c) σ hk h trivial a w hr)
      | exit id => exact fun a w hr => wp_exit (hrec (.exit id) σ h trivial a w hr)
      | ret => exact fun a w hr => wp_ret (hrec .ret σ h trivial a w hr)
      | _ => exact h
    | norm =>
      cases k with
      | base Q => exact h
      | seq y k => exact W_sound n k (.code y) σ hk h trivial
      | block id k => exact W_sound n k .norm σ hk h trivial
      | inv J k => exact h
    | exit id =>
      cases k with
      | base Q => exact h
      | seq y k => exact W_sound n k (.exit id) σ hk h trivial
      | block id' k =>
        intro a w hr
        show Exit.inBlock id' (k.den P) (.exit id) a w
        unfold W at h
        by_cases e : id = id'
        · rw [if_pos e] at h
          simp only [Exit.inBlock, e, if_true]
          exact W_sound n k .norm σ hk h trivial a w hr
        · rw [if_neg e] at h
          simp only [Exit.inBlock, e, if_false]
          exact W_sound n k (.exit id) σ hk h trivial a w hr
      | inv J k => exact W_sound n k (.exit id) σ hk h trivial
    | ret =>
      cases k with
      | base Q => exact h
      | seq y k => exact W_sound n k .ret σ hk h trivial
      | block id k => exact W_sound n k .ret σ hk h trivial
      | inv J k => exact W_sound n k .ret σ hk h trivial
    | ops ops l => 
      have h' : WoL P E (W P E n k) k ops σ l := by cases k <;> exact h
      exact WoL_sound hrec h'
    | any ops B V f listed pl =>
      cases pl with
      | done =>
        have h' : W P E n k .norm σ := by cases k <;> exact h
        intro a w hr
        have hrd : Region.ready .any ops listed = [] := by simpa [planOk] using hI.1
        exact wpAnyH_done hrd (hrec _ _ h' trivial a w hr) f
      | take i p =>
        cases f with
        | zero => exact (show False by cases k <;> exact h).elim
        | succ f =>
          have h' : WtO P E (W P E n k) ⟨ops, B, V, f, listed⟩ i p σ ops[i]? := by cases k <;> exact h
          exact WtO_sound (d := ⟨ops, B, V, f, listed⟩) hk hrec h' hI
      | alt i p r =>
        cases f with
        | zero => exact (show False by cases k <;> exact h).elim
        | succ f =>
          have h' : W P E n k (.alts ops B V f listed (.alt i p r)) σ := by cases k <;> exact h
          obtain ⟨hpl, hpa, hB, hV⟩ := hI
          simp only [planAlt, Bool.and_eq_true, beq_iff_eq] at hpa
          have hI2 : Inv σ (.alts ops B V f listed (.alt i p r)) := ⟨hpl, by simp only [planAlt.planRest, Bool.and_eq_true]; exact ⟨hpa.1.2, hpa.2⟩, hB, hV⟩
          intro a w hr
          exact wpAnyH_all hpa.1.1 (by simp) (hrec _ _ h' hI2 a w hr)
      | last => exact (show False by cases k <;> exact h).elim
    | alts ops B V f listed pl =>
      cases pl with
      | alt i p r =>
        have h' : WxO P E (W P E n k) k ⟨ops, B, V, f, listed⟩ i p σ ops[i]? ∧ W P E n k (.alts ops B V f listed r) σ := by cases k <;> exact h
        obtain ⟨hpl, hpa, hB, hV⟩ := hI
        simp only [planOk, Bool.and_eq_true] at hpl
        simp only [planAlt.planRest, Bool.and_eq_true] at hpa
        intro a w hr j hj
        rcases List.mem_cons.1 hj with rfl | hj
        · exact WxO_sound (d := ⟨ops, B, V, f, listed⟩) hrec h'.1 hpl.1.2 hpa.1 hB hV a w hr
        · exact hrec _ _ h'.2 ⟨hpl.2, hpa.2, hB, hV⟩ a w hr j hj
      | _ => exact fun a w hr j hj => by cases hj
end Go.Proofs.Ytomfladifefomaa
-- Sr: The walk's beginning, its end, and calls. Names no program. Conditions: as each law states them.
namespace Go.Proofs.Ytomfladifefomaa
open Go.RowKit

def initT : Nat → List Value → List (Nat × SV)
  | _, [] => []
  | i, v :: r => (i, .c (.v v)) :: initT (i + 1) r
theorem look_initT : ∀ (l : List Value) (i t : Nat) (v : SV), look (initT i l) t = some v → ∃ x, l[t - i]? = some x ∧ i ≤ t ∧ v = .c (.v x)
  | [], i, t, v, h => by cases h
  | x :: r, i, t, v, h => by
    unfold initT look at h
    split at h
    · rename_i e
      cases h
      subst e
      exact ⟨x, by simp, Nat.le_refl _, rfl⟩
    · rename_i e
      obtain ⟨y, hy, hle, rfl⟩ := look_initT r (i + 1) t v h
      refine ⟨y, ?_, by omega, rfl⟩
      rw [show t - i = (t - (i + 1)) + 1 by omega]
      simpa using hy
def start (G : GW) (args : List Value) : St := ⟨initT 0 args, [], [], [], [G], 0⟩
theorem QOk_body (P : Program) (fn : Func) (R : Ending → World → Prop) : QOk (bodyPost P fn R) := fun c a d v w h => by
  obtain ⟨h1, h2⟩ := h
  exact ⟨by cases d <;> exact h1, h2⟩
/-- the beginning: a call that writes no block of its caller's -/
theorem enter {P : Program} {f : FuncId} {fn : Func} {c : Code} {args : Array Value} {G : GW} {R : Ending → World → Prop} {n : Nat} (N : Nat) (hG : G.Wf) (hf : P.funcs[f]? = some fn) (hb : fn.body = some c) (hn : fn.ntmps = n)
    (hl : args.size ≤ n) (h : W P ⟨G.w, Non, G.M, n⟩ N (.base (bodyPost P fn R)) (.code c) (start G args.toList)) : Calls P f args G.w R := by
  refine calls_of_wp hf hb ?_
  refine W_sound N (.base (bodyPost P fn R)) (.code c) _ (QOk_body P fn R) h trivial _ _ ?_
  refine ⟨fun t v hv => ?_, (by simp [hn]; omega), rfl, (fun b hb => by cases hb), List.Pairwise.nil, (fun b hb => by cases hb), (fun r hr => by cases hr), (fun r hr => by cases hr), List.Pairwise.nil, (fun v hv => by cases hv), Chg.refl _ _, ?_, hG⟩
  · obtain ⟨x, hx, _, rfl⟩ := look_initT _ _ _ _ hv
    rw [Nat.sub_zero] at hx
    have hx' : args[t]? = some x := by simpa using hx
    rw [Array.getElem?_append_left (by exact (Array.getElem?_eq_some_iff.1 hx').1)]
    exact hx'
  · intro s hs
    have : s = G := by simpa [start] using hs
    subst this
    refine ⟨Nat.le_refl _, fun k _ hm => ⟨rfl, fun q => ?_⟩⟩
    rcases q with q | ⟨b, hb, _⟩ | ⟨r, hr, _⟩
    · exact hm q
    · cases hb
    · cases hr

/-- what a call returns: a value with what holds of it, and nothing that was there has turned -/
def Ret (G : GW) (T : Value → GW → Prop) (e : Ending) (w' : World) : Prop := ∃ v, e = .returned v ∧ T v ⟨G.M, w'⟩ ∧ Chg Non G.w w'

def valR : Out → Option (Prop × SV)
  | .val s v => some (s, v)
  | _ => none
def tmpR : Option SV → Option (Prop × SV)
  | some v => some (True, v)
  | none => none
def cellB (P : Program) (t : TypeId) (g off : Nat) : Option Bl → Option (Prop × SV)
  | some b => valR (loadCs P t b.cs off (b.g = g))
  | none => none
def cellR (P : Program) (t : TypeId) (B : List Bl) : Option SV → Option (Prop × SV)
  | some (.c (.p id g off)) => cellB P t g off (getBl B id)
  | _ => none
def resO (P : Program) (σ : St) : ResultVar → Option (Prop × SV)
  | .tmp t => tmpR (look σ.tmps t)
  | .cell a t => cellR P t σ.blks (look σ.tmps a)
def resL (P : Program) (σ : St) : List ResultVar → Option (Prop × List SV)
  | [] => some (True, [])
  | r :: l => match resO P σ r, resL P σ l with
    | some (s, v), some (s', vs) => some (s ∧ s', v :: vs)
    | _, _ => none
def resV : List SV → Value
  | [v] => v.den
  | vs => .tuple (vs.map SV.den).toArray
section
variable {P : Program} {E : Env} {σ : St} {a : Act} {w : World}
theorem run_res (hr : Rel E σ a w) : ∀ (l : List ResultVar) (s : Prop) (vs : List SV), resL P σ l = some (s, vs) → s →
    (l.mapM fun | ResultVar.tmp t => (pure (a.tmps.getD t undef) : Sem Value) | .cell x t => do loadVar t (← asAddr (a.tmps.getD x undef))).run P w = .ok (vs.map SV.den) w
  | [], s, vs, h, hs => by cases h; rfl
  | r :: l, s, vs, h, hs => by
    unfold resL at h
    split at h
    · rename_i s1 v s2 vs2 h1 h2
      cases h
      have ih := run_res hr l s2 vs2 h2 hs.2
      rw [List.mapM_cons]
      cases r with
      | tmp t =>
        replace h1 : tmpR (look σ.tmps t) = some (s1, v) := h1
        unfold tmpR at h1
        split at h1
        · rename_i u hu
          cases h1
          have := hr.tmps t _ hu
          have e : a.tmps.getD t undef = v.den := by rw [Array.getD_eq_getD_getElem?, this]; rfl
          simp only [Sem.run_bind, Sem.run_pure, Result.andThen_ok, ih, e, List.map_cons]
        · cases h1
      | cell x t =>
        replace h1 : cellR P t σ.blks (look σ.tmps x) = some (s1, v) := h1
        unfold cellR at h1
        split at h1
        · rename_i id g off hx
          unfold cellB at h1
          split at h1
          · rename_i b hb
            unfold valR at h1
            split at h1
            · rename_i s' u hu
              cases h1
              have := hr.tmps x _ hx
              have e : a.tmps.getD x undef = .pointer (some ⟨g, off, none⟩) := by rw [Array.getD_eq_getD_getElem?, this]; rfl
              obtain ⟨h3, rfl⟩ := run_loadCs (P := P) (w := w) (g := b.g) (q := 0) (blk_cells (hr.blks b (getBl_mem hb))) hu
              rw [Nat.zero_add, show b.g = g from hs.1] at h3
              simp only [Instr.loadAt, Instr.sureAddr, Sem.run_bind, Sem.run_pure, Result.andThen_ok] at h3
              have e2 : (asAddr (a.tmps.getD x undef)).run P w = .ok ⟨g, off, none⟩ w := by rw [e]; rfl
              simp only [Sem.run_bind, Sem.run_pure, Result.andThen_ok, ih, e2, h3, List.map_cons]
            · cases h1
          · cases h1
        · cases h1
    · cases h
theorem results_run (hr : Rel E σ a w) {fn : Func} {rs : Array ResultVar} (hrs : fn.results = rs) {s : Prop} {vs : List SV} (h : resL P σ rs.toList = some (s, vs)) (hs : s) : (results fn a.tmps).run P w = .ok (resV vs) w := by
  have h1 := run_res hr rs.toList s vs h hs
  unfold results
  rw [hrs]
  have h2 : (rs.mapM fun | ResultVar.tmp t => (pure (a.tmps.getD t undef) : Sem Value) | .cell x t => do loadVar t (← asAddr (a.tmps.getD x undef))).run P w = .ok (vs.map SV.den).toArray w := by
    rw [Array.mapM_eq_mapM_toList]
    simp only [map_eq_pure_bind, Sem.run_bind, h1, Result.andThen_ok, Sem.run_pure]
  rw [Sem.run_bind]
  erw [h2]
  cases vs with
  | nil => rfl
  | cons v r => cases r with
    | nil => rfl
    | cons u r => simp [resV]
theorem ret_ok {fn : Func} {rs : Array ResultVar} (hrs : fn.results = rs) {s : Prop} {vs : List SV} {R : Ending → World → Prop} (h : resL P σ rs.toList = some (s, vs)) (hs : s) (hR : ∀ a w, Rel E σ a w → R (.returned (resV vs)) w) :
    Ok E σ (bodyPost P fn R .ret) := fun a w hr => ⟨hr.defers, _, results_run hr hrs h hs, hR a w hr⟩
theorem end_ok {fn : Func} {rs : Array ResultVar} (hrs : fn.results = rs) {s : Prop} {vs : List SV} {R : Ending → World → Prop} (h : resL P σ rs.toList = some (s, vs)) (hs : s) (hR : ∀ a w, Rel E σ a w → R (.returned (resV vs)) w) :
    Ok E σ (bodyPost P fn R .normal) := fun a w hr => ⟨hr.defers, _, results_run hr hrs h hs, hR a w hr⟩
/-- at the end: whatever was seen on the way is seen as ever -/
theorem Rel.fin (h : Rel E σ a w) {s : GW} (hs : s ∈ σ.snaps) : s.Le ⟨E.M, w⟩ :=
  ⟨(h.snaps s hs).size, fun k hk hm => ⟨((h.snaps s hs).keep k hk hm).1, fun q => ((h.snaps s hs).keep k hk hm).2 (.inl q)⟩⟩
def isFn (P : Program) (f : FuncId) : Bool := match P.funcs[f]? with
  | some fn => !(fn.name == "runtime.NumGoroutine") && fn.body.isSome
  | none => false
theorem run_enter {f : FuncId} (h : isFn P f = true) (args : Array Value) : (callFunc f args).run P w = .ok (.enter f args) w := by
  unfold isFn at h
  split at h
  · rename_i fn hf
    simp only [Bool.and_eq_true, Bool.not_eq_true'] at h
    have h1 : fn.body.isNone = false := by cases hb : fn.body <;> simp [hb] at h ⊢
    simp only [callFunc, Sem.run_bind, run_program, Result.andThen_ok, hf, h.1, h1, Bool.false_eq_true, if_false, Sem.run_pure]
  · cases h
theorem run_call {o : Oper} {c : Call} {f : FuncId} {vs : List SV} (ho : o.op = .call c) (hcal : c.callee = .value (.func f)) (hev : evs σ c.args.toList = some vs) (hf : isFn P f = true) (hr : See σ a w) :
    (execOp a.eval o).run P w = .ok (.enter f (vs.map SV.den).toArray) w := by
  have h1 := evs_args hr hev
  unfold execOp
  simp only [ho, resolve, hcal, h1, Act.eval, Deferred.ofValue, Sem.run_bind, Sem.run_pure, Result.andThen_ok, invoke, Array.empty_append, Array.append_empty, run_enter hf]
/-- a new state behind a call that writes nothing of what is there -/
theorem Rel.called (h : Rel E σ a w) {w' : World} (hc : Chg Non w w') : Rel E { σ with snaps := ⟨σ.M E, w'⟩ :: σ.snaps } a w' := by
  have hb : ∀ k, k < w.heap.size → w'.heap[k]? = w.heap[k]? := fun k hk => hc.block k hk id
  refine ⟨h.tmps, h.size, h.defers, fun b hb' => (hb _ (h.blks b hb').lt).trans (h.blks b hb'), h.nodup, h.own, fun r hr => ownsRow_block (h.rows r hr) fun g hg => hb g (ownsRow_lt (h.rows r hr) hg).2, h.apart, h.rapart, fun v hv => ?_, ?_, fun s hs => ?_, h.mem⟩
  · obtain ⟨h1, h2, h3⟩ := h.views v hv
    exact ⟨Nat.lt_of_lt_of_le h1 hc.size, h2, range_block h3 (hb _ h1)⟩
  · exact h.chg.trans ⟨hc.os, hc.tape, hc.output, hc.size, fun k hk _ => hb k hk⟩
  · rcases List.mem_cons.1 hs with rfl | hs
    · exact GW.Le.refl _
    · exact (h.snaps s hs).trans ⟨hc.size, fun k hk hm => ⟨hb k hk, hm⟩⟩
def St.seen (σ : St) (G : GW) : St := { σ with snaps := G :: σ.snaps }
def gdOk (ops : Array Oper) (σ : St) (o : Oper) : Prop := o.guard = none ∨ ∃ j want, o.guard = some (j, want) ∧ gVal ops σ j = some want
theorem gdOk_wanted {ops : Array Oper} {o : Oper} (h : gdOk ops σ o) (hr : Rel E σ a w) : Region.wanted o (yielded ops a.tmps) = true := by
  rcases h with h | ⟨j, want, h, hv⟩
  · simp [Region.wanted, h]
  · rw [wanted_of hr h hv]; simp
/-- a call, by its contract -/
theorem call_ok {k : Cont} {N : Nat} {ops : Array Oper} {rest : List Oper} {o : Oper} {c : Call} {f : FuncId} {vs : List SV} (T : Value → GW → Prop) (hk : k.ok) (hg : gdOk ops σ o) (ho : o.op = .call c) (hcal : c.callee = .value (.func f)) (hf : isFn P f = true)
    (hev : evs σ c.args.toList = some vs) (hd : dOk E o.dst)
    (hct : ∀ G : GW, (∀ s ∈ σ.snaps, s.Le G) → Calls P f (vs.map SV.den).toArray G.w (Ret G T))
    (h : ∀ v G, T v G → W P E N k (.ops ops rest) ((σ.seen G).put o.dst (.c (.v v)))) : Ok E σ (wpList P ops (k.den P) (o :: rest)) := by
  intro a w hr
  unfold wpList
  rw [if_pos (gdOk_wanted hg hr)]
  left
  unfold Oper.wp
  rw [run_call ho hcal hev hf hr.see]
  refine Calls.mono (hct ⟨σ.M E, w⟩ hr.snaps) fun e w' he => ?_
  obtain ⟨v, rfl, hT, hc⟩ := he
  exact W_sound N k _ _ hk (h v _ hT) trivial _ _ ((hr.called hc).put o.dst (.c (.v v)) (dOk_lt hd))
theorem callA_ok {k : Cont} {N : Nat} {ops : Array Oper} {B : List Bl} {V : List Vw} {fu i : Nat} {listed : Array Bool} {p : Plan} {o : Oper} {c : Call} {f : FuncId} {vs : List SV} (T : Value → GW → Prop) (hk : k.ok) (hi : ops[i]? = some o) (hg : gdOk ops σ o) (ho : o.op = .call c) (hcal : c.callee = .value (.func f)) (hf : isFn P f = true)
    (hev : evs σ c.args.toList = some vs) (hd : dOk E o.dst)
    (hct : ∀ G : GW, (∀ s ∈ σ.snaps, s.Le G) → Calls P f (vs.map SV.den).toArray G.w (Ret G T))
    (h : ∀ v G, T v G → W P E N k (.any ops B V fu (listed.setIfInBounds i true) p) ((σ.seen G).put o.dst (.c (.v v)))) : AnyStop P E k ops B V fu listed i p o σ := by
  intro hI a w hr
  obtain ⟨hpl, hpa, hB, hV⟩ := hI
  unfold wpOp
  simp only [hi, gdOk_wanted hg hr, if_true]
  left
  unfold Oper.wp
  rw [run_call ho hcal hev hf hr.see]
  refine Calls.mono (hct ⟨σ.M E, w⟩ hr.snaps) fun e w' he => ?_
  obtain ⟨v, rfl, hT, hc⟩ := he
  have hr' := (hr.called hc).put o.dst (.c (.v v)) (dOk_lt hd)
  have hB' : ∀ b ∈ B, b ∈ (((σ.seen ⟨σ.M E, w'⟩)).put o.dst (.c (.v v))).blks := by rw [(put_blks _ o.dst _).1]; exact hB
  have hV' : ∀ v' ∈ V, v' ∈ (((σ.seen ⟨σ.M E, w'⟩)).put o.dst (.c (.v v))).views := by rw [(put_blks _ o.dst _).2]; exact hV
  exact ⟨Sof_of hr' hB' hV', W_sound N k _ _ hk (h v _ hT) ⟨hpl, hpa, hB', hV'⟩ _ _ hr'⟩
/-- a region that draws its order, gone through by a plan -/
theorem draw_ok {k : Cont} {N id : Nat} {ops : Array Oper} (pl : Plan) (out : List Nat) (hk : k.ok) (hm : P.follows .mixedOrders = true) (hpl : planOk ops (Array.replicate ops.size false) pl = true) (hpa : planAlt ops (Array.replicate ops.size false) pl = true)
    (h : W P E N k (.any ops (σ.blks.filter fun b => !out.contains b.id) σ.views ops.size (Array.replicate ops.size false) pl) σ) : Ok E σ (sem P k (.code (.region id ops true))) := fun _ _ hr =>
  wp_region_held (S := Sof (σ.blks.filter fun b => !out.contains b.id) σ.views) hm
    (W_sound N k _ _ hk h ⟨hpl, hpa, fun _ hb => (List.mem_filter.1 hb).1, fun _ hv => hv⟩ _ _ hr.drew)
end
end Go.Proofs.Ytomfladifefomaa
-- Ss: The walk's steps as rules of the simp set go_sem. Names no program. Conditions: as each law states them.
namespace Go.Proofs.Ytomfladifefomaa
open Go.RowKit
/-- the branches of what is not known yet are not walked -/
@[congr] theorem Wb_congr {t t' : Bool} {x y : Prop} (h : t = t') : Wb t x y = Wb t' x y := by rw [h]
@[congr] theorem Ok_congr {E : Env} {σ σ' : St} {Φ : Act → World → Prop} (h : σ = σ') : Ok E σ Φ = Ok E σ' Φ := by rw [h]
def NoId (id : Nat) : List Bl → Prop
  | [] => True
  | b :: r => b.id ≠ id ∧ NoId id r
theorem noId_iff (id : Nat) (l : List Bl) : NoId id l = ∀ b ∈ l, b.id ≠ id := by
  induction l with
  | nil => simp [NoId]
  | cons x r ih => simp [NoId, ih]
@[go_sem] theorem noId_nil (id : Nat) : NoId id [] = True := rfl
@[go_sem] theorem noId_cons (id i g t : Nat) (cs : List SC) (r : List Bl) : NoId id (⟨i, g, t, cs⟩ :: r) = (i ≠ id ∧ NoId id r) := rfl
section
variable (P : Program) (E : Env) (n : Nat) (k : Cont) (σ : St)
@[go_sem] theorem W_skip : W P E (n + 1) k (.code .skip) σ = W P E n k .norm σ := rfl
@[go_sem] theorem W_seq (x y : Code) : W P E (n + 1) k (.code (.seq x y)) σ = W P E n (.seq y k) (.code x) σ := rfl
@[go_sem] theorem W_region (id : Nat) (ops : Array Oper) : W P E (n + 1) k (.code (.region id ops false)) σ = W P E n k (.ops ops ops.toList) σ := rfl
@[go_sem] theorem W_cond (c : Operand) (x y : Code) : W P E (n + 1) k (.code (.cond c x y)) σ = Wc P E (W P E n k) k c x y σ (ev σ c) := rfl
@[go_sem] theorem W_block (id : Nat) (c : Code) : W P E (n + 1) k (.code (.block id c)) σ = W P E n (.block id k) (.code c) σ := rfl
@[go_sem] theorem W_exitc (id : Nat) : W P E (n + 1) k (.code (.exit id)) σ = W P E n k (.exit id) σ := rfl
@[go_sem] theorem W_retc : W P E (n + 1) k (.code .ret) σ = W P E n k .ret σ := rfl
@[go_sem] theorem W_draw (id : Nat) (ops : Array Oper) : W P E (n + 1) k (.code (.region id ops true)) σ = Ok E σ (sem P k (.code (.region id ops true))) := rfl
@[go_sem] theorem W_loop (c : Code) : W P E (n + 1) k (.code (.loop c)) σ = Ok E σ (sem P k (.code (.loop c))) := rfl
@[go_sem] theorem W_norm_base (Q : Exit → Act → World → Prop) : W P E (n + 1) (.base Q) .norm σ = Ok E σ (Q .normal) := rfl
@[go_sem] theorem W_norm_seq (y : Code) : W P E (n + 1) (.seq y k) .norm σ = W P E n k (.code y) σ := rfl
@[go_sem] theorem W_norm_block (id : Nat) : W P E (n + 1) (.block id k) .norm σ = W P E n k .norm σ := rfl
@[go_sem] theorem W_norm_inv (J : Act → World → Prop) : W P E (n + 1) (.inv J k) .norm σ = Ok E σ J := rfl
@[go_sem] theorem W_exit_inv (id : Nat) (J : Act → World → Prop) : W P E (n + 1) (.inv J k) (.exit id) σ = W P E n k (.exit id) σ := rfl
@[go_sem] theorem W_ret_inv (J : Act → World → Prop) : W P E (n + 1) (.inv J k) .ret σ = W P E n k .ret σ := rfl
@[go_sem] theorem W_exit_base (id : Nat) (Q : Exit → Act → World → Prop) : W P E (n + 1) (.base Q) (.exit id) σ = Ok E σ (Q (.exit id)) := rfl
@[go_sem] theorem W_exit_seq (id : Nat) (y : Code) : W P E (n + 1) (.seq y k) (.exit id) σ = W P E n k (.exit id) σ := rfl
@[go_sem] theorem W_exit_block (id id' : Nat) : W P E (n + 1) (.block id' k) (.exit id) σ = if id = id' then W P E n k .norm σ else W P E n k (.exit id) σ := rfl
@[go_sem] theorem W_ret_base (Q : Exit → Act → World → Prop) : W P E (n + 1) (.base Q) .ret σ = Ok E σ (Q .ret) := rfl
@[go_sem] theorem W_ret_seq (y : Code) : W P E (n + 1) (.seq y k) .ret σ = W P E n k .ret σ := rfl
@[go_sem] theorem W_ret_block (id : Nat) : W P E (n + 1) (.block id k) .ret σ = W P E n k .ret σ := rfl
@[go_sem] theorem W_ops (ops : Array Oper) (l : List Oper) : W P E (n + 1) k (.ops ops l) σ = WoL P E (W P E n k) k ops σ l := by cases k <;> rfl
@[go_sem] theorem W_done (ops : Array Oper) (B : List Bl) (V : List Vw) (f : Nat) (listed : Array Bool) : W P E (n + 1) k (.any ops B V f listed .done) σ = W P E n k .norm σ := by cases k <;> rfl
@[go_sem] theorem W_take (ops : Array Oper) (B : List Bl) (V : List Vw) (f : Nat) (listed : Array Bool) (i : Nat) (p : Plan) : W P E (n + 1) k (.any ops B V (f + 1) listed (.take i p)) σ = WtO P E (W P E n k) ⟨ops, B, V, f, listed⟩ i p σ ops[i]? := by cases k <;> rfl
@[go_sem] theorem W_alt (ops : Array Oper) (B : List Bl) (V : List Vw) (f : Nat) (listed : Array Bool) (i : Nat) (p r : Plan) : W P E (n + 1) k (.any ops B V (f + 1) listed (.alt i p r)) σ = W P E n k (.alts ops B V f listed (.alt i p r)) σ := by cases k <;> rfl
@[go_sem] theorem W_alts (ops : Array Oper) (B : List Bl) (V : List Vw) (f : Nat) (listed : Array Bool) (i : Nat) (p r : Plan) : W P E (n + 1) k (.alts ops B V f listed (.alt i p r)) σ = (WxO P E (W P E n k) k ⟨ops, B, V, f, listed⟩ i p σ ops[i]? ∧ W P E n k (.alts ops B V f listed r) σ) := by cases k <;> rfl
@[go_sem] theorem W_last (ops : Array Oper) (B : List Bl) (V : List Vw) (f : Nat) (listed : Array Bool) : W P E (n + 1) k (.alts ops B V f listed .last) σ = True := by cases k <;> rfl
variable (rec_ : Cmd → St → Prop) (ops : Array Oper) (rest : List Oper) (o : Oper)
@[go_sem] theorem Wc_bool (c : Operand) (x y : Code) (t : Bool) : Wc P E rec_ k c x y σ (some (.c (.v (.bool t)))) = Wb t (rec_ (.code x) (σ.know c true)) (rec_ (.code y) (σ.know c false)) := rfl
@[go_sem] theorem Wb_true (x y : Prop) : Wb true x y = x := by simp [Wb]
@[go_sem] theorem Wb_false (x y : Prop) : Wb false x y = y := by simp [Wb]
@[go_sem] theorem Wo_val (s : Prop) (v : SV) : Wo P E rec_ k ops rest o σ (.val s v) = (dOk E o.dst ∧ s ∧ rec_ (.ops ops rest) (σ.put o.dst v)) := rfl
@[go_sem] theorem Wo_new (t : TypeId) (cs : List SC) (m : Option Nat) : Wo P E rec_ k ops rest o σ (.new t cs m) = (dOk E o.dst ∧ ∀ g, rec_ (.ops ops rest) ((σ.add g t cs).put o.dst (mkS m σ.next g))) := rfl
@[go_sem] theorem Wo_put (s : Prop) (id off : Nat) (cs : List SC) : Wo P E rec_ k ops rest o σ (.put s id off cs) = (dOk E o.dst ∧ s ∧ rec_ (.ops ops rest) ((σ.set id off cs).put o.dst (.c (.v undef)))) := rfl
@[go_sem] theorem Wo_no : Wo P E rec_ k ops rest o σ .no = Ok E σ (wpList P ops (k.den P) (o :: rest)) := rfl
@[go_sem] theorem Wg_some (want b : Bool) : Wg P E rec_ k ops rest o σ want (some b) = Wb (b == want) (Wo P E rec_ k ops rest o σ (stepO P o σ)) (dOk E o.dst ∧ rec_ (.ops ops rest) (σ.put o.dst (.c (.v undef)))) := rfl
@[go_sem] theorem WoL_nil : WoL P E rec_ k ops σ [] = rec_ .norm σ := rfl
@[go_sem] theorem WoL_none (d : Option Tmp) (op : Op) (t : TypeId) (p : String) (af : Array Edge) : WoL P E rec_ k ops σ (⟨d, op, t, p, af, none⟩ :: rest) = Wo P E rec_ k ops rest ⟨d, op, t, p, af, none⟩ σ (stepO P ⟨d, op, t, p, af, none⟩ σ) := rfl
@[go_sem] theorem WoL_some (d : Option Tmp) (op : Op) (t : TypeId) (p : String) (af : Array Edge) (j : Nat) (want : Bool) : WoL P E rec_ k ops σ (⟨d, op, t, p, af, some (j, want)⟩ :: rest) = Wg P E rec_ k ops rest ⟨d, op, t, p, af, some (j, want)⟩ σ want (gVal ops σ j) := rfl
variable (dr : Dr) (i : Nat) (p : Plan)
@[go_sem] theorem WtO_none (d : Option Tmp) (op : Op) (t : TypeId) (ps : String) (af : Array Edge) : WtO P E rec_ dr i p σ (some ⟨d, op, t, ps, af, none⟩) = Wt P E rec_ dr i p ⟨d, op, t, ps, af, none⟩ σ (stepO P ⟨d, op, t, ps, af, none⟩ { σ with blks := dr.B, views := dr.V }) := rfl
@[go_sem] theorem WtO_some (d : Option Tmp) (op : Op) (t : TypeId) (ps : String) (af : Array Edge) (j : Nat) (want : Bool) : WtO P E rec_ dr i p σ (some ⟨d, op, t, ps, af, some (j, want)⟩) = Wh P E rec_ dr i p ⟨d, op, t, ps, af, some (j, want)⟩ σ want (gVal dr.ops σ j) := rfl
@[go_sem] theorem Wt_no : Wt P E rec_ dr i p o σ .no = TakeStop P E rec_ dr i p o σ := rfl
@[go_sem] theorem Wt_val (s : Prop) (v : SV) : Wt P E rec_ dr i p o σ (.val s v) = (dOk E o.dst ∧ s ∧ rec_ (dr.next i p) (σ.put o.dst v)) := rfl
@[go_sem] theorem Wh_some (want b : Bool) : Wh P E rec_ dr i p o σ want (some b) = Wb (b == want) (Wt P E rec_ dr i p o σ (stepO P o { σ with blks := dr.B, views := dr.V })) (dOk E o.dst ∧ rec_ (dr.next i p) (σ.put o.dst (.c (.v undef)))) := rfl
@[go_sem] theorem WxO_none (d : Option Tmp) (op : Op) (t : TypeId) (ps : String) (af : Array Edge) : WxO P E rec_ k dr i p σ (some ⟨d, op, t, ps, af, none⟩) = Wx P E rec_ k dr i p ⟨d, op, t, ps, af, none⟩ σ (stepO P ⟨d, op, t, ps, af, none⟩ σ) := rfl
@[go_sem] theorem WxO_some (d : Option Tmp) (op : Op) (t : TypeId) (ps : String) (af : Array Edge) (j : Nat) (want : Bool) : WxO P E rec_ k dr i p σ (some ⟨d, op, t, ps, af, some (j, want)⟩) = Wy P E rec_ k dr i p ⟨d, op, t, ps, af, some (j, want)⟩ σ want (gVal dr.ops σ j) := rfl
@[go_sem] theorem Wx_val (s : Prop) (v : SV) : Wx P E rec_ k dr i p o σ (.val s v) = (dOk E o.dst ∧ s ∧ rec_ (dr.next i p) (σ.put o.dst v)) := rfl
@[go_sem] theorem Wx_new (t : TypeId) (cs : List SC) (m : Option Nat) : Wx P E rec_ k dr i p o σ (.new t cs m) = (dOk E o.dst ∧ ∀ g, rec_ (dr.next i p) ((σ.add g t cs).put o.dst (mkS m σ.next g))) := rfl
@[go_sem] theorem Wx_put (s : Prop) (id off : Nat) (cs : List SC) : Wx P E rec_ k dr i p o σ (.put s id off cs) = (dOk E o.dst ∧ NoId id dr.B ∧ s ∧ rec_ (dr.next i p) ((σ.set id off cs).put o.dst (.c (.v undef)))) := by
  show (_ ∧ _ ∧ _ ∧ _) = _
  rw [noId_iff]
@[go_sem] theorem Wx_no : Wx P E rec_ k dr i p o σ .no = AnyStop P E k dr.ops dr.B dr.V dr.f dr.listed i p o σ := rfl
@[go_sem] theorem Wy_some (want b : Bool) : Wy P E rec_ k dr i p o σ want (some b) = Wb (b == want) (Wx P E rec_ k dr i p o σ (stepO P o σ)) (dOk E o.dst ∧ rec_ (dr.next i p) (σ.put o.dst (.c (.v undef)))) := rfl
@[go_sem] theorem Dr_next (B : List Bl) (V : List Vw) (f : Nat) (l : Array Bool) : (Dr.mk ops B V f l).next i p = .any ops B V f (l.setIfInBounds i true) p := rfl
@[go_sem] theorem dOk_some (t : Nat) : dOk E (some t) = (t < E.n) := rfl
@[go_sem] theorem dOk_none : dOk E none = True := rfl
end
/-! ### the state -/
section
variable (T : List (Nat × SV)) (B : List Bl) (R : List Rw) (V : List Vw) (S : List GW) (n : Nat)
@[go_sem] theorem put_some (d : Nat) (v : SV) : (St.mk T B R V S n).put (some d) v = ⟨(d, v) :: T, B, R, V, S, n⟩ := rfl
@[go_sem] theorem put_none (v : SV) : (St.mk T B R V S n).put none v = ⟨T, B, R, V, S, n⟩ := rfl
@[go_sem] theorem add_mk (g : Nat) (t : TypeId) (cs : List SC) : (St.mk T B R V S n).add g t cs = ⟨T, ⟨n, g, t, cs⟩ :: B, R, V, S, n + 1⟩ := rfl
@[go_sem] theorem set_mk (id off : Nat) (cs : List SC) : (St.mk T B R V S n).set id off cs = ⟨T, putBl B id off cs, R, V, S, n⟩ := rfl
@[go_sem] theorem seen_mk (G : GW) : (St.mk T B R V S n).seen G = ⟨T, B, R, V, G :: S, n⟩ := rfl
@[go_sem] theorem know_tmp (t : Nat) (b : Bool) : (St.mk T B R V S n).know (.tmp t) b = ⟨(t, .c (.v (.bool b))) :: T, B, R, V, S, n⟩ := rfl
@[go_sem] theorem know_const (v : Value) (b : Bool) : (St.mk T B R V S n).know (.const v) b = ⟨T, B, R, V, S, n⟩ := rfl
@[go_sem] theorem ev_tmp (t : Nat) : ev (St.mk T B R V S n) (.tmp t) = look T t := rfl
@[go_sem] theorem ev_const (σ : St) (v : Value) : ev σ (.const v) = some (.c (.v v)) := rfl
@[go_sem] theorem ev_func (σ : St) (f : Nat) : ev σ (.func f) = some (.c (.f f [])) := rfl
@[go_sem] theorem look_cons (t u : Nat) (v : SV) (l : List (Nat × SV)) : look ((t, v) :: l) u = if t = u then some v else look l u := rfl
@[go_sem] theorem start_mk (G : GW) (args : List Value) : start G args = ⟨initT 0 args, [], [], [], [G], 0⟩ := rfl
@[go_sem] theorem initT_cons (i : Nat) (v : Value) (r : List Value) : initT i (v :: r) = (i, .c (.v v)) :: initT (i + 1) r := rfl
@[go_sem] theorem initT_nil (i : Nat) : initT i [] = [] := rfl
@[go_sem] theorem getBl_cons (i g : Nat) (t : TypeId) (cs : List SC) (r : List Bl) (id : Nat) : getBl (⟨i, g, t, cs⟩ :: r) id = if i = id then some ⟨i, g, t, cs⟩ else getBl r id := rfl
@[go_sem] theorem putBl_cons (i g : Nat) (t : TypeId) (cs : List SC) (r : List Bl) (id off : Nat) (c : List SC) : putBl (⟨i, g, t, cs⟩ :: r) id off c = if i = id then ⟨i, g, t, putCs cs off c⟩ :: r else ⟨i, g, t, cs⟩ :: putBl r id off c := rfl
@[go_sem] theorem putCs_nil (o : Nat) (c : List SC) : putCs [] o c = [] := by cases o <;> rfl
@[go_sem] theorem putCs_zero (x c : SC) (r cs : List SC) : putCs (x :: r) 0 (c :: cs) = c :: putCs r 0 cs := rfl
@[go_sem] theorem putCs_zero_nil (x : SC) (r : List SC) : putCs (x :: r) 0 [] = x :: r := rfl
@[go_sem] theorem putCs_succ (x : SC) (r cs : List SC) (o : Nat) : putCs (x :: r) (o + 1) cs = x :: putCs r o cs := rfl
@[go_sem] theorem getVw_cons (i g o : Nat) (cs : List Value) (r : List Vw) (id : Nat) : getVw (⟨i, g, o, cs⟩ :: r) id = if i = id then some ⟨i, g, o, cs⟩ else getVw r id := rfl
@[go_sem] theorem mkS_none (id g : Nat) : mkS none id g = .c (.p id g 0) := rfl
@[go_sem] theorem mkS_some (m id g : Nat) : mkS (some m) id g = .c (.s id g 0 m m) := rfl
@[go_sem] theorem gVal_def (ops : Array Oper) (σ : St) (j : Nat) : gVal ops σ j = gV2 ((gTmp ops j).bind (look σ.tmps)) := rfl
end
@[go_sem] theorem gV2_bool (b : Bool) : gV2 (some (.c (.v (.bool b)))) = some b := rfl
end Go.Proofs.Ytomfladifefomaa
-- St: What an operation makes, as rules of the simp set go_sem. Names no program. Conditions: as each law states them.
namespace Go.Proofs.Ytomfladifefomaa
open Go.RowKit
def oVal : Option SV → Out
  | some v => .val True v
  | none => .no
def oLoad (P : Program) (t : TypeId) (σ : St) : Option SV → Out
  | some (.c (.p id g off)) => match getBl σ.blks id with
    | some b => loadCs P t b.cs off (b.g = g)
    | none => .no
  | some (.c (.q id g q off)) => match getVw σ.views id with
    | some v => loadCs P t (v.cs.map .v) off (v.g = g ∧ v.o = q)
    | none => .no
  | _ => .no
def oLoadB (P : Program) (t : TypeId) (g off : Nat) : Option Bl → Out
  | some b => loadCs P t b.cs off (b.g = g)
  | none => .no
def oLoadV (P : Program) (t : TypeId) (g q off : Nat) : Option Vw → Out
  | some v => loadCs P t (v.cs.map .v) off (v.g = g ∧ v.o = q)
  | none => .no
def loadC2 (cs : List SC) (off : Nat) (s : Prop) : Option Nat → Option Bool → Out
  | some n, some true => if off + n ≤ cs.length then .val s (.a ((cs.drop off).take n)) else .no
  | some _, some false => match cs[off]? with
    | some c => .val s (.c c)
    | none => .no
  | _, _ => .no
def oCell (s : Prop) : Option SC → Out
  | some c => .val s (.c c)
  | none => .no
def oStore (P : Program) (t : TypeId) (σ : St) : Option SV → Option SV → Out
  | some (.c (.p id g off)), some v => match getBl σ.blks id, tSize P t with
    | some b, some n => if v.cells.length = n ∧ off + n ≤ b.cs.length then .put (b.g = g ∧ ones v.cells) id off v.cells else .no
    | _, _ => .no
  | _, _ => .no
def oStoreB (g id off : Nat) (cs : List SC) : Option Bl → Option Nat → Out
  | some b, some n => if cs.length = n ∧ off + n ≤ b.cs.length then .put (b.g = g ∧ ones cs) id off cs else .no
  | _, _ => .no
def oAlloc (t : TypeId) : Option (List Value) → Out
  | some z => .new t (z.map .v) none
  | none => .no
def oBox (t : TypeId) : Option SV → Out
  | some v => .new t v.cells none
  | none => .no
def oFAddr (P : Program) : Option SV → Option (Nat × TypeId) → Out
  | some (.c (.p id g off)), some (o, ft) => match tSize P ft with
    | some n => if n ≠ 0 then .val True (.c (.p id g (off + o))) else .no
    | none => .no
  | some (.c (.q id g q off)), some (o, ft) => match tSize P ft with
    | some n => if n ≠ 0 then .val True (.c (.q id g q (off + o))) else .no
    | none => .no
  | _, _ => .no
def oNz (v : SV) : Option Nat → Out
  | some n => if n ≠ 0 then .val True v else .no
  | none => .no
def oField (P : Program) : Option SV → Option (Nat × TypeId) → Out
  | some v, some (o, ft) => match v with
    | .a l => loadCs P ft l o True
    | .c (.v (.agg cs)) => loadCs P ft (cs.toList.map .v) o True
    | _ => .no
  | _, _ => .no
def oExtract (i : Nat) : Option SV → Out
  | some (.c (.v (.tuple vs))) => match vs[i]? with
    | some v => .val True (.c (.v v))
    | none => .no
  | _ => .no
def oV : Option Value → Out
  | some v => .val True (.c (.v v))
  | none => .no
def oBinR : Option (Prop × Value) → Out
  | some (s, v) => .val s (.c (.v v))
  | none => .no
def oAgg : Option (List SC) → Out
  | some cs => .val True (.a cs)
  | none => .no
def oNil : Option SV → Out
  | some (.c (.p id g off)) => .val True (.c (.p id g off))
  | some (.c (.q id g o r)) => .val True (.c (.q id g o r))
  | _ => .no
def oLenS (n : Nat) : Option TypeId → Out
  | some _ => .val True (.c (.v (.int .i64 n)))
  | none => .no
def oLenT (n : Nat) : Option Bool → Out
  | some true => .val True (.c (.v (.int .i64 n)))
  | _ => .no
section
variable (P : Program) (d : Option Tmp) (ty : TypeId) (ps : String) (af : Array Edge) (gd : Option (Nat × Bool)) (σ : St)
@[go_sem] theorem st_move (x : Operand) : stepO P ⟨d, .move x, ty, ps, af, gd⟩ σ = oVal (ev σ x) := rfl
@[go_sem] theorem st_assign (x : Operand) : stepO P ⟨d, .assign x, ty, ps, af, gd⟩ σ = oVal (ev σ x) := rfl
@[go_sem] theorem st_pick (c x y : Operand) : stepO P ⟨d, .pick c x y, ty, ps, af, gd⟩ σ = oPick (ev σ c) (ev σ x) (ev σ y) := rfl
@[go_sem] theorem st_load (t : TypeId) (x : Operand) : stepO P ⟨d, .load t x, ty, ps, af, gd⟩ σ = oLoad P t σ (ev σ x) := by unfold stepO oLoad; rfl
@[go_sem] theorem st_store (t : TypeId) (x y : Operand) : stepO P ⟨d, .store t x y, ty, ps, af, gd⟩ σ = oStore P t σ (ev σ x) (ev σ y) := by unfold stepO oStore; rfl
@[go_sem] theorem st_alloc (t : TypeId) : stepO P ⟨d, .alloc t, ty, ps, af, gd⟩ σ = oAlloc t (tZero P t) := by unfold stepO oAlloc; rfl
@[go_sem] theorem st_box (t : TypeId) (x : Operand) : stepO P ⟨d, .box t x, ty, ps, af, gd⟩ σ = oBox t (ev σ x) := by unfold stepO oBox; rfl
@[go_sem] theorem st_fieldAddr (s : TypeId) (x : Operand) (f : Nat) : stepO P ⟨d, .fieldAddr s x f, ty, ps, af, gd⟩ σ = oFAddr P (ev σ x) (tField P s f) := by unfold stepO oFAddr; rfl
@[go_sem] theorem st_field (s : TypeId) (x : Operand) (f : Nat) : stepO P ⟨d, .field s x f, ty, ps, af, gd⟩ σ = oField P (ev σ x) (tField P s f) := by unfold stepO oField; rfl
@[go_sem] theorem st_extract (x : Operand) (i : Nat) : stepO P ⟨d, .extract x i, ty, ps, af, gd⟩ σ = oExtract i (ev σ x) := by unfold stepO oExtract; rfl
@[go_sem] theorem st_binOp (op : BinOp) (t t' : TypeId) (x y : Operand) : stepO P ⟨d, .binOp op t x y t', ty, ps, af, gd⟩ σ = oBin2 op (ev σ x) (ev σ y) := rfl
@[go_sem] theorem st_unOp (op : UnOp) (t : TypeId) (x : Operand) : stepO P ⟨d, .unOp op t x, ty, ps, af, gd⟩ σ = oUn op (ev σ x) := rfl
@[go_sem] theorem st_convert (s t : TypeId) (x : Operand) : stepO P ⟨d, .convert s t x, ty, ps, af, gd⟩ σ = oConv (ev σ x) (tInt P s) (tInt P t) := rfl
@[go_sem] theorem st_build (t : TypeId) (parts : Array (Nat × Operand)) : stepO P ⟨d, .build t parts, ty, ps, af, gd⟩ σ = oBuild (tZero P t) (tFields P t) (partsOf σ parts.toList) := rfl
@[go_sem] theorem st_nilCheck (x : Operand) : stepO P ⟨d, .nilCheck x, ty, ps, af, gd⟩ σ = oNil (ev σ x) := by unfold stepO oNil; rfl
@[go_sem] theorem st_makeFunc (f : FuncId) (first cap : Array Operand) : stepO P ⟨d, .makeFunc (.func f) first cap, ty, ps, af, gd⟩ σ = oFn f first.toList ((evs σ cap.toList).bind capsOf) := rfl
@[go_sem] theorem st_len (args : Array Operand) (ts : Array TypeId) : stepO P ⟨d, .call ⟨.builtin .len, args, ts⟩, ty, ps, af, gd⟩ σ = oLen P ts (evs σ args.toList) := rfl
@[go_sem] theorem st_min (args : Array Operand) (ts : Array TypeId) : stepO P ⟨d, .call ⟨.builtin .min, args, ts⟩, ty, ps, af, gd⟩ σ = oMin (evs σ args.toList) := rfl
@[go_sem] theorem st_max (args : Array Operand) (ts : Array TypeId) : stepO P ⟨d, .call ⟨.builtin .max, args, ts⟩, ty, ps, af, gd⟩ σ = oMax (evs σ args.toList) := rfl
@[go_sem] theorem st_callf (f : Operand) (args : Array Operand) (ts : Array TypeId) : stepO P ⟨d, .call ⟨.value f, args, ts⟩, ty, ps, af, gd⟩ σ = .no := rfl
@[go_sem] theorem st_append (args : Array Operand) (ts : Array TypeId) : stepO P ⟨d, .call ⟨.builtin .append, args, ts⟩, ty, ps, af, gd⟩ σ = .no := rfl
@[go_sem] theorem st_copy (args : Array Operand) (ts : Array TypeId) : stepO P ⟨d, .call ⟨.builtin .copy, args, ts⟩, ty, ps, af, gd⟩ σ = .no := rfl
@[go_sem] theorem st_indexAddr (t : TypeId) (x i : Operand) : stepO P ⟨d, .indexAddr t x i, ty, ps, af, gd⟩ σ = .no := rfl
@[go_sem] theorem st_slice (t : TypeId) (x : Operand) (l h m : Option Operand) : stepO P ⟨d, .slice t x l h m, ty, ps, af, gd⟩ σ = oCut P t σ l h m (ev σ x) := rfl
@[go_sem] theorem st_makeSlice (t : TypeId) (l c : Operand) : stepO P ⟨d, .makeSlice t l c, ty, ps, af, gd⟩ σ = .no := rfl
@[go_sem] theorem st_buildSlice (t : TypeId) (n : Nat) (parts : Array (Nat × Operand)) : stepO P ⟨d, .buildSlice t n parts, ty, ps, af, gd⟩ σ = oLit ((tSlice P t).bind (tSize P)) (tSlice P t) ((tSlice P t).bind (tZero P)) n (partsOf σ parts.toList) := rfl
end
/-! ### the helpers on what is known -/
section
variable (P : Program) (σ : St) (s : Prop)
@[go_sem] theorem oVal_some (v : SV) : oVal (some v) = .val True v := rfl
@[go_sem] theorem oPick_bools (t p q : Bool) : oPick (some (.c (.v (.bool t)))) (some (.c (.v (.bool p)))) (some (.c (.v (.bool q)))) = .val True (.c (.v (.bool (cond t p q)))) := rfl
@[go_sem] theorem oPick_true (q : Value) (p : Bool) (h : q = undef) : oPick (some (.c (.v (.bool true)))) (some (.c (.v (.bool p)))) (some (.c (.v q))) = .val True (.c (.v (.bool p))) := by subst h; rfl
@[go_sem] theorem oPick_false (p : Value) (q : Bool) (h : p = undef) : oPick (some (.c (.v (.bool false)))) (some (.c (.v p))) (some (.c (.v (.bool q)))) = .val True (.c (.v (.bool q))) := by subst h; rfl
@[go_sem] theorem oLoad_p (t id g off : Nat) : oLoad P t σ (some (.c (.p id g off))) = oLoadB P t g off (getBl σ.blks id) := by unfold oLoad oLoadB; rfl
@[go_sem] theorem oLoad_q (t id g q off : Nat) : oLoad P t σ (some (.c (.q id g q off))) = oLoadV P t g q off (getVw σ.views id) := by unfold oLoad oLoadV; rfl
@[go_sem] theorem oLoad_v (t : Nat) (x : Value) : oLoad P t σ (some (.c (.v x))) = .no := rfl
@[go_sem] theorem oLoadB_some (t g off i g' t' : Nat) (cs : List SC) : oLoadB P t g off (some ⟨i, g', t', cs⟩) = loadC2 cs off (g' = g) (tSize P t) (tRow P t) := by unfold oLoadB loadC2 loadCs; rfl
@[go_sem] theorem oLoadV_some (t g q off i g' o' : Nat) (cs : List Value) : oLoadV P t g q off (some ⟨i, g', o', cs⟩) = loadC2 (cs.map .v) off (g' = g ∧ o' = q) (tSize P t) (tRow P t) := by unfold oLoadV loadC2 loadCs; rfl
@[go_sem] theorem loadC2_row (cs : List SC) (off n : Nat) : loadC2 cs off s (some n) (some true) = if off + n ≤ cs.length then .val s (.a ((cs.drop off).take n)) else .no := rfl
@[go_sem] theorem loadC2_one (cs : List SC) (off n : Nat) : loadC2 cs off s (some n) (some false) = oCell s cs[off]? := by unfold loadC2 oCell; rfl
@[go_sem] theorem oCell_some (c : SC) : oCell s (some c) = .val s (.c c) := rfl
@[go_sem] theorem oStore_p (t id g off : Nat) (v : SV) : oStore P t σ (some (.c (.p id g off))) (some v) = oStoreB g id off v.cells (getBl σ.blks id) (tSize P t) := by unfold oStore oStoreB; rfl
@[go_sem] theorem oStore_v (t : Nat) (x : Value) (v : Option SV) : oStore P t σ (some (.c (.v x))) v = .no := rfl
@[go_sem] theorem oStoreB_some (g id off i g' t' n : Nat) (cs cs' : List SC) : oStoreB g id off cs (some ⟨i, g', t', cs'⟩) (some n) = if cs.length = n ∧ off + n ≤ cs'.length then .put (g' = g ∧ ones cs) id off cs else .no := rfl
@[go_sem] theorem oAlloc_some (t : Nat) (z : List Value) : oAlloc t (some z) = .new t (z.map .v) none := rfl
@[go_sem] theorem oBox_some (t : Nat) (v : SV) : oBox t (some v) = .new t v.cells none := rfl
@[go_sem] theorem oFAddr_p (id g off o ft : Nat) : oFAddr P (some (.c (.p id g off))) (some (o, ft)) = oNz (.c (.p id g (off + o))) (tSize P ft) := by unfold oFAddr oNz; rfl
@[go_sem] theorem oFAddr_q (id g q off o ft : Nat) : oFAddr P (some (.c (.q id g q off))) (some (o, ft)) = oNz (.c (.q id g q (off + o))) (tSize P ft) := by unfold oFAddr oNz; rfl
@[go_sem] theorem oFAddr_v (x : Value) (o : Option (Nat × TypeId)) : oFAddr P (some (.c (.v x))) o = .no := by unfold oFAddr; cases o <;> rfl
@[go_sem] theorem oNz_succ (v : SV) (n : Nat) : oNz v (some (n + 1)) = .val True v := by simp [oNz]
@[go_sem] theorem oField_a (l : List SC) (o ft : Nat) : oField P (some (.a l)) (some (o, ft)) = loadC2 l o True (tSize P ft) (tRow P ft) := by unfold oField loadC2 loadCs; rfl
@[go_sem] theorem oField_v (cs : Array Value) (o ft : Nat) : oField P (some (.c (.v (.agg cs)))) (some (o, ft)) = loadC2 (cs.toList.map .v) o True (tSize P ft) (tRow P ft) := by unfold oField loadC2 loadCs; rfl
@[go_sem] theorem oExtract_t (i : Nat) (vs : Array Value) : oExtract i (some (.c (.v (.tuple vs)))) = oV vs[i]? := by unfold oExtract oV; rfl
@[go_sem] theorem oV_some (v : Value) : oV (some v) = .val True (.c (.v v)) := rfl
@[go_sem] theorem oBin_ints (op : BinOp) (k : IntKind) (a b : Int) : oBin2 op (some (.c (.v (.int k a)))) (some (.c (.v (.int k b)))) = oBinR (binI op k a b) := by
  simp only [oBin2, if_true]
  cases binI op k a b <;> rfl
@[go_sem] theorem oBin_strs (op : BinOp) (a b : ByteArray) : oBin2 op (some (.c (.v (.string a)))) (some (.c (.v (.string b)))) = oBinR (binS op a b) := by unfold oBin2 oBinR; rfl
@[go_sem] theorem oBinR_some (v : Value) : oBinR (some (s, v)) = .val s (.c (.v v)) := rfl
@[go_sem] theorem oUn_not (b : Bool) : oUn .not (some (.c (.v (.bool b)))) = .val True (.c (.v (.bool !b))) := rfl
@[go_sem] theorem oUn_neg (k : IntKind) (n : Int) : oUn .neg (some (.c (.v (.int k n)))) = .val (inR k (0 - n)) (.c (.v (.int k (0 - n)))) := rfl
@[go_sem] theorem oConv_u8 (k k1 : IntKind) (n : Int) : oConv (some (.c (.v (.int k n)))) (some k1) (some .u8) = .val True (.c (.v (.int .u8 (n % 256)))) := rfl
@[go_sem] theorem oConv_i64 (k k1 : IntKind) (n : Int) : oConv (some (.c (.v (.int k n)))) (some k1) (some .i64) = .val (inR .i64 n) (.c (.v (.int .i64 n))) := rfl
@[go_sem] theorem oConv_str (x : ByteArray) (k1 k2 : Option IntKind) : oConv (some (.c (.v (.string x)))) k1 k2 = .no := rfl
@[go_sem] theorem oConv_sl (a : Option Addr) (n c : Nat) (k1 k2 : Option IntKind) : oConv (some (.c (.v (.slice a n c)))) k1 k2 = .no := rfl
@[go_sem] theorem oBuild_some (z : List Value) (fs : List (Nat × Nat)) (l : List (Nat × List SC)) : oBuild (some z) (some fs) (some l) = oAgg (fillF fs (z.map .v) l) := by unfold oBuild oAgg; rfl
@[go_sem] theorem oAgg_some (cs : List SC) : oAgg (some cs) = .val True (.a cs) := rfl
@[go_sem] theorem oNil_p (id g off : Nat) : oNil (some (.c (.p id g off))) = .val True (.c (.p id g off)) := rfl
@[go_sem] theorem oNil_q (id g o r : Nat) : oNil (some (.c (.q id g o r))) = .val True (.c (.q id g o r)) := rfl
@[go_sem] theorem oFn_some (f : FuncId) (l : List (Nat × Nat × Nat)) : oFn f [] (some l) = .val True (.c (.f f l)) := rfl
@[go_sem] theorem oLen_sl (ts : Array TypeId) (a : Option Addr) (n c : Nat) : oLen P ts (some [.c (.v (.slice a n c))]) = oLenS n ((ts[0]?).bind (tSlice P)) := by unfold oLen oLenS; rfl
@[go_sem] theorem oLen_str (ts : Array TypeId) (x : ByteArray) : oLen P ts (some [.c (.v (.string x))]) = oLenT x.size ((ts[0]?).map (tStr P)) := by unfold oLen oLenT; rfl
@[go_sem] theorem oLenS_some (n t : Nat) : oLenS n (some t) = .val True (.c (.v (.int .i64 n))) := rfl
@[go_sem] theorem oLenT_true (n : Nat) : oLenT n (some true) = .val True (.c (.v (.int .i64 n))) := rfl
@[go_sem] theorem oMin_two (a b : Int) : oMin (some [.c (.v (.int .i64 a)), .c (.v (.int .i64 b))]) = .val True (.c (.v (.int .i64 (min a b)))) := rfl
@[go_sem] theorem oMax_two (a b : Int) : oMax (some [.c (.v (.int .i64 a)), .c (.v (.int .i64 b))]) = .val True (.c (.v (.int .i64 (max a b)))) := rfl
@[go_sem] theorem evs_nil : evs σ [] = some [] := rfl
def consO : Option SV → Option (List SV) → Option (List SV)
  | some v, some l => some (v :: l)
  | _, _ => none
@[go_sem] theorem evs_cons (x : Operand) (r : List Operand) : evs σ (x :: r) = consO (ev σ x) (evs σ r) := by unfold consO; rw [evs]; rfl
@[go_sem] theorem consO_some (v : SV) (l : List SV) : consO (some v) (some l) = some (v :: l) := rfl
@[go_sem] theorem capsOf_nil : capsOf [] = some [] := rfl
@[go_sem] theorem capsOf_cons (id g o : Nat) (r : List SV) : capsOf (.c (.p id g o) :: r) = (capsOf r).map ((id, g, o) :: ·) := rfl
def consP (i : Nat) : Option SV → Option (List (Nat × List SC)) → Option (List (Nat × List SC))
  | some v, some l => some ((i, v.cells) :: l)
  | _, _ => none
@[go_sem] theorem partsOf_nil : partsOf σ [] = some [] := rfl
@[go_sem] theorem partsOf_cons (i : Nat) (x : Operand) (r : List (Nat × Operand)) : partsOf σ ((i, x) :: r) = consP i (ev σ x) (partsOf σ r) := by unfold consP; rw [partsOf]; rfl
@[go_sem] theorem consP_some (i : Nat) (v : SV) (l : List (Nat × List SC)) : consP i (some v) (some l) = some ((i, v.cells) :: l) := rfl
@[go_sem] theorem fillF_nil (fs : List (Nat × Nat)) (z : List SC) : fillF fs z [] = some z := rfl
def fill1 (fs : List (Nat × Nat)) (z cs : List SC) (rest : List (Nat × List SC)) : Option (Nat × Nat) → Option (List SC)
  | some (off, n) => if cs.length = n ∧ off + n ≤ z.length then fillF fs (putCs z off cs) rest else none
  | none => none
@[go_sem] theorem fillF_cons (fs : List (Nat × Nat)) (z cs : List SC) (i : Nat) (rest : List (Nat × List SC)) : fillF fs z ((i, cs) :: rest) = fill1 fs z cs rest fs[i]? := by unfold fill1; rw [fillF]; rfl
@[go_sem] theorem fill1_some (fs : List (Nat × Nat)) (z cs : List SC) (rest : List (Nat × List SC)) (off n : Nat) : fill1 fs z cs rest (some (off, n)) = if cs.length = n ∧ off + n ≤ z.length then fillF fs (putCs z off cs) rest else none := rfl
@[go_sem] theorem cells_v (x : Value) : (SV.c (.v x)).cells = valCells x := rfl
@[go_sem] theorem cells_p (id g o : Nat) : (SV.c (.p id g o)).cells = [.p id g o] := rfl
@[go_sem] theorem cells_s (id g o l c : Nat) : (SV.c (.s id g o l c)).cells = [.s id g o l c] := rfl
@[go_sem] theorem cells_f (f : FuncId) (l : List (Nat × Nat × Nat)) : (SV.c (.f f l)).cells = [.f f l] := rfl
@[go_sem] theorem cells_q (id g o r : Nat) : (SV.c (.q id g o r)).cells = [.q id g o r] := rfl
@[go_sem] theorem cells_a (l : List SC) : (SV.a l).cells = l := rfl
@[go_sem] theorem valCells_agg (cs : Array Value) : valCells (.agg cs) = cs.toList.map .v := rfl
@[go_sem] theorem valCells_int (k : IntKind) (n : Int) : valCells (.int k n) = [.v (.int k n)] := rfl
@[go_sem] theorem valCells_bool (b : Bool) : valCells (.bool b) = [.v (.bool b)] := rfl
@[go_sem] theorem valCells_string (x : ByteArray) : valCells (.string x) = [.v (.string x)] := rfl
@[go_sem] theorem valCells_slice (a : Option Addr) (n c : Nat) : valCells (.slice a n c) = [.v (.slice a n c)] := rfl
@[go_sem] theorem valCells_func (f : Fn) (a b : Array Value) : valCells (.func f a b) = [.v (.func f a b)] := rfl
@[go_sem] theorem valCells_nilFunc : valCells .nilFunc = [.v .nilFunc] := rfl
@[go_sem] theorem valCells_map (r : Option Nat) : valCells (.map r) = [.v (.map r)] := rfl
@[go_sem] theorem valCells_pointer (r : Option Addr) : valCells (.pointer r) = [.v (.pointer r)] := rfl
@[go_sem] theorem ones_nil : ones [] = True := rfl
@[go_sem] theorem ones_v (x : Value) (r : List SC) : ones (.v x :: r) = (x.oneCell' = true ∧ ones r) := rfl
@[go_sem] theorem ones_p (id g o : Nat) (r : List SC) : ones (.p id g o :: r) = ones r := by simp [ones, SC.one]
@[go_sem] theorem ones_s (id g o l c : Nat) (r : List SC) : ones (.s id g o l c :: r) = ones r := by simp [ones, SC.one]
@[go_sem] theorem ones_f (f : FuncId) (l : List (Nat × Nat × Nat)) (r : List SC) : ones (.f f l :: r) = ones r := by simp [ones, SC.one]
@[go_sem] theorem one_int (k : IntKind) (n : Int) : (Value.int k n).oneCell' = true := rfl
@[go_sem] theorem one_bool (b : Bool) : (Value.bool b).oneCell' = true := rfl
@[go_sem] theorem one_string (x : ByteArray) : (Value.string x).oneCell' = true := rfl
@[go_sem] theorem one_slice (a : Option Addr) (n c : Nat) : (Value.slice a n c).oneCell' = true := rfl
@[go_sem] theorem one_map (r : Option Nat) : (Value.map r).oneCell' = true := rfl
@[go_sem] theorem one_pointer (r : Option Addr) : (Value.pointer r).oneCell' = true := rfl
@[go_sem] theorem one_nilFunc : Value.nilFunc.oneCell' = true := rfl
@[go_sem] theorem one_func (f : Fn) (a b : Array Value) : (Value.func f a b).oneCell' = true := rfl
variable (k : IntKind) (a b : Int)
@[go_sem] theorem binI_add : binI .add k a b = some (inR k (a + b), .int k (a + b)) := rfl
@[go_sem] theorem binI_sub : binI .sub k a b = some (inR k (a - b), .int k (a - b)) := rfl
@[go_sem] theorem binI_mul : binI .mul k a b = some (inR k (a * b), .int k (a * b)) := rfl
@[go_sem] theorem binI_quo : binI .quo k a b = some (1 ≤ b ∧ inR k a ∧ k = .i64, .int k (a.tdiv b)) := rfl
@[go_sem] theorem binI_rem : binI .rem k a b = some (0 ≤ a ∧ 1 ≤ b, .int k (a % b)) := rfl
@[go_sem] theorem binI_eql : binI .eql k a b = some (True, .bool (decide (a = b))) := rfl
@[go_sem] theorem binI_neq : binI .neq k a b = some (True, .bool (!decide (a = b))) := rfl
@[go_sem] theorem binI_lss : binI .lss k a b = some (True, .bool (decide (a < b))) := rfl
@[go_sem] theorem binI_leq : binI .leq k a b = some (True, .bool (decide (a ≤ b))) := rfl
@[go_sem] theorem binI_gtr : binI .gtr k a b = some (True, .bool (decide (b < a))) := rfl
@[go_sem] theorem binI_geq : binI .geq k a b = some (True, .bool (decide (b ≤ a))) := rfl
@[go_sem] theorem inR_i64 : inR .i64 a = (-9223372036854775808 ≤ a ∧ a ≤ 9223372036854775807) := rfl
@[go_sem] theorem inR_u8 : inR .u8 a = (0 ≤ a ∧ a ≤ 255) := rfl
end
def oInt : Option SV → Option Int
  | some (.c (.v (.int _ n))) => some n
  | _ => none
def oLit2 (e : TypeId) (n : Nat) : Option (List SC) → Out
  | some cs => .new e cs (some n)
  | none => .no
section
variable (P : Program) (σ : St)
@[go_sem] theorem oCut_str (t : TypeId) (s : ByteArray) (lo hi : Option Operand) : oCut P t σ lo hi none (some (.c (.v (.string s)))) = oCut2 s (tStr P t) (ivOf σ lo 0) (ivOf σ hi s.size) := rfl
@[go_sem] theorem oCut_sl (t : TypeId) (a : Option Addr) (n c : Nat) (lo hi mx : Option Operand) : oCut P t σ lo hi mx (some (.c (.v (.slice a n c)))) = .no := rfl
@[go_sem] theorem oCut_own (t id g o n c : Nat) (lo hi mx : Option Operand) : oCut P t σ lo hi mx (some (.c (.s id g o n c))) = .no := rfl
@[go_sem] theorem oCut2_true (s : ByteArray) (l h : Int) : oCut2 s true (some l) (some h) = .val (0 ≤ l ∧ l ≤ h ∧ h ≤ s.size) (.c (.v (.string (s.extract l.toNat h.toNat)))) := rfl
@[go_sem] theorem ivOf_none (d : Int) : ivOf σ none d = some d := rfl
@[go_sem] theorem ivOf_some (x : Operand) (d : Int) : ivOf σ (some x) d = oInt (ev σ x) := by unfold ivOf oInt; rfl
@[go_sem] theorem oInt_int (k : IntKind) (n : Int) : oInt (some (.c (.v (.int k n)))) = some n := rfl
@[go_sem] theorem oLit_some (k e n : Nat) (z : List Value) (l : List (Nat × List SC)) : oLit (some k) (some e) (some z) n (some l) = if l.length = n ∧ n * k ≤ 16777216 ∧ z.length = k then oLit2 e n (catP k 0 l) else .no := by unfold oLit oLit2; rfl
@[go_sem] theorem oLit2_some (e n : Nat) (cs : List SC) : oLit2 e n (some cs) = .new e cs (some n) := rfl
@[go_sem] theorem catP_nil (k i : Nat) : catP k i [] = some [] := rfl
@[go_sem] theorem catP_cons (k i j : Nat) (cs : List SC) (r : List (Nat × List SC)) : catP k i ((j, cs) :: r) = if i = j ∧ cs.length = k then (catP k (i + 1) r).map (cs ++ ·) else none := rfl
variable (a b : ByteArray)
@[go_sem] theorem binS_add : binS .add a b = some ((a.size : Int) + b.size ≤ 9223372036854775807, .string (a ++ b)) := rfl
@[go_sem] theorem binS_eql : binS .eql a b = some (True, .bool (a.toList == b.toList)) := rfl
@[go_sem] theorem binS_neq : binS .neq a b = some (True, .bool (!(a.toList == b.toList))) := rfl
@[go_sem] theorem binS_lss : binS .lss a b = some (True, .bool (Op.bytesLess a.toList b.toList)) := rfl
@[go_sem] theorem binS_gtr : binS .gtr a b = some (True, .bool (!(Op.bytesLess a.toList b.toList || a.toList == b.toList))) := rfl
@[go_sem] theorem binS_leq : binS .leq a b = some (True, .bool (Op.bytesLess a.toList b.toList || a.toList == b.toList)) := rfl
@[go_sem] theorem binS_geq : binS .geq a b = some (True, .bool (!Op.bytesLess a.toList b.toList)) := rfl
@[go_sem] theorem oConv_own (id g o n c : Nat) (k1 k2 : Option IntKind) : oConv (some (.c (.s id g o n c))) k1 k2 = .no := rfl
end
@[go_sem] theorem sx_app_nil {α : Type} (l : List α) : [] ++ l = l := rfl
@[go_sem] theorem sx_app_cons {α : Type} (x : α) (l m : List α) : (x :: l) ++ m = x :: (l ++ m) := rfl
/-! ### small rules of lists, options, ifs -/
section
variable {α β : Type}
@[go_sem] theorem sx_ite_true (x y : α) : (if True then x else y) = x := if_pos trivial
@[go_sem] theorem sx_ite_false (x y : α) : (if False then x else y) = y := if_neg id
@[go_sem] theorem sx_ite_prop_true (x y : Prop) : (if True then x else y) = x := if_pos trivial
@[go_sem] theorem sx_ite_prop_false (x y : Prop) : (if False then x else y) = y := if_neg id
@[go_sem] theorem sx_true_and (p : Prop) : (True ∧ p) = p := true_and p
@[go_sem] theorem sx_and_true (p : Prop) : (p ∧ True) = p := and_true p
@[go_sem] theorem sx_eq (x : α) : (x = x) = True := eq_self x
@[go_sem] theorem sx_map_nil (f : α → β) : List.map f [] = [] := rfl
@[go_sem] theorem sx_map_cons (f : α → β) (x : α) (l : List α) : List.map f (x :: l) = f x :: List.map f l := rfl
@[go_sem] theorem sx_len_nil : ([] : List α).length = 0 := rfl
@[go_sem] theorem sx_len_cons (x : α) (l : List α) : (x :: l).length = l.length + 1 := rfl
@[go_sem] theorem sx_drop_zero (l : List α) : List.drop 0 l = l := rfl
@[go_sem] theorem sx_drop_succ (n : Nat) (x : α) (l : List α) : List.drop (n + 1) (x :: l) = List.drop n l := rfl
@[go_sem] theorem sx_take_zero (l : List α) : List.take 0 l = [] := rfl
@[go_sem] theorem sx_take_succ (n : Nat) (x : α) (l : List α) : List.take (n + 1) (x :: l) = x :: List.take n l := rfl
@[go_sem] theorem sx_at_zero (x : α) (l : List α) : (x :: l)[0]? = some x := rfl
@[go_sem] theorem sx_at_succ (n : Nat) (x : α) (l : List α) : (x :: l)[n + 1]? = l[n]? := rfl
@[go_sem] theorem sx_arr_at (l : List α) (n : Nat) : (List.toArray l)[n]? = l[n]? := by simp
@[go_sem] theorem sx_toList (l : List α) : (List.toArray l).toList = l := rfl
@[go_sem] theorem sx_arr_size (l : List α) : (List.toArray l).size = l.length := by simp
@[go_sem] theorem sx_omap_some (f : α → β) (x : α) : Option.map f (some x) = some (f x) := rfl
@[go_sem] theorem sx_obind_some (f : α → Option β) (x : α) : Option.bind (some x) f = f x := rfl
@[go_sem] theorem sx_all_nil (p : α → Prop) : (∀ x ∈ ([] : List α), p x) = True := by simp
@[go_sem] theorem sx_all_cons (p : α → Prop) (y : α) (l : List α) : (∀ x ∈ y :: l, p x) = (p y ∧ ∀ x ∈ l, p x) := by simp
@[go_sem] theorem sx_mem_cons (x y : α) (l : List α) : (x ∈ y :: l) = (x = y ∨ x ∈ l) := by simp
@[go_sem] theorem sx_mem_nil (x : α) : (x ∈ ([] : List α)) = False := by simp
@[go_sem] theorem sx_true_or (p : Prop) : (True ∨ p) = True := true_or p
@[go_sem] theorem sx_or_true (p : Prop) : (p ∨ True) = True := or_true p
@[go_sem] theorem sx_sub_nil (l : List α) : List.Sublist [] l = True := by simp
@[go_sem] theorem sx_sub_cons (x : α) (l m : List α) : List.Sublist (x :: l) (x :: m) = List.Sublist l m := by simp
@[go_sem] theorem sx_filter_nil (p : α → Bool) : List.filter p [] = [] := rfl
@[go_sem] theorem sx_filter_cons (p : α → Bool) (x : α) (l : List α) : List.filter p (x :: l) = cond (p x) (x :: List.filter p l) (List.filter p l) := by
  rw [List.filter_cons]; cases p x <;> rfl
@[go_sem] theorem sx_contains_nil (x : Nat) : List.contains ([] : List Nat) x = false := rfl
@[go_sem] theorem sx_contains_cons (x y : Nat) (l : List Nat) : List.contains (y :: l) x = (x == y || List.contains l x) := rfl
@[go_sem] theorem sx_true_bor (b : Bool) : (true || b) = true := rfl
@[go_sem] theorem sx_false_bor (b : Bool) : (false || b) = b := rfl
@[go_sem] theorem sx_cond_true {γ : Type} (x y : γ) : cond true x y = x := rfl
@[go_sem] theorem sx_cond_false {γ : Type} (x y : γ) : cond false x y = y := rfl
theorem Wb_mk {t : Bool} {x y : Prop} (h1 : t = true → x) (h2 : t = false → y) : Wb t x y := ⟨h1, h2⟩
@[go_sem] theorem gTmp_def (ops : Array Oper) (j : Nat) : gTmp ops j = (ops[j]?).bind (·.dst) := rfl
end
end Go.Proofs.Ytomfladifefomaa
