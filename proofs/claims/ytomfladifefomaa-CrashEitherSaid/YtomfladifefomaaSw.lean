/- The walk as a function: from a code and a state that is known to what must be shown; and that it suffices. Names no program. Conditions: as each law states them. -/
import Derived.Test.YtomfladifefomaaSa
import Derived.OrdersHeld
namespace Go.Proofs.Ytomfladifefomaa
open Go.RowKit

inductive Cont where
  | base (Q : Exit → Act → World → Prop)
  | seq (y : Code) (k : Cont)
  | block (id : Nat) (k : Cont)
  | inv (J : Act → World → Prop) (k : Cont)
def Cont.den (P : Program) : Cont → Exit → Act → World → Prop
  | .base Q => Q
  | .seq y k => Exit.then (y.wp P (k.den P)) (k.den P)
  | .block id k => Exit.inBlock id (k.den P)
  | .inv J k => Exit.then J (k.den P)
/-- what a panic leaves does not hang on the slots -/
def QOk (Q : Exit → Act → World → Prop) : Prop := ∀ c a d v w, Q (.panic c) (Act.put a d v) w → Q (.panic c) a w
def Cont.ok : Cont → Prop
  | .base Q => QOk Q
  | .seq _ k => k.ok
  | .block _ k => k.ok
  | .inv _ k => k.ok
theorem Cont.ok_den {P : Program} {k : Cont} (h : k.ok) : QOk (k.den P) := by
  induction k with
  | base Q => exact h
  | seq y k ih => exact fun c a d v w q => ih h c a d v w q
  | block id k ih => exact fun c a d v w q => ih h c a d v w q
  | inv J k ih => exact fun c a d v w q => ih h c a d v w q
/-- in which order a region that draws is gone through: one that may be taken first; else each that may come up -/
inductive Plan where
  | done
  | take (i : Nat) (p : Plan)
  | alt (i : Nat) (p rest : Plan)
  | last
def Plan.heads : Plan → List Nat
  | .alt i _ r => i :: r.heads
  | _ => []
def planOk (ops : Array Oper) : Array Bool → Plan → Bool
  | listed, .done => (Region.ready .any ops listed).isEmpty
  | listed, .take i p => Region.noSelect ops && Region.free .any ops listed i && (Region.ready .any ops listed).contains i && planOk ops (listed.setIfInBounds i true) p
  | listed, .alt i p r => decide (i < ops.size) && planOk ops (listed.setIfInBounds i true) p && planOk ops listed r
  | _, .last => true
/-- the first choice lists all that may come up -/
def planAlt (ops : Array Oper) : Array Bool → Plan → Bool
  | listed, .take i p => planAlt ops (listed.setIfInBounds i true) p
  | listed, .alt i p r => (Region.ready .any ops listed == i :: r.heads) && planAlt ops (listed.setIfInBounds i true) p && planRest ops listed r
  | _, _ => true
where planRest (ops : Array Oper) : Array Bool → Plan → Bool
  | listed, .alt i p r => planAlt ops (listed.setIfInBounds i true) p && planRest ops listed r
  | _, _ => true
def Sof (B : List Bl) (V : List Vw) (w : World) : Prop := (∀ b ∈ B, Blk w b.g b.t (dens b.cs)) ∧ ∀ v ∈ V, w.rangeAt v.g v.o v.cs
inductive Cmd where
  | code (c : Code)
  | norm
  | exit (id : Nat)
  | ret
  | ops (ops : Array Oper) (l : List Oper)
  | any (ops : Array Oper) (B : List Bl) (V : List Vw) (f : Nat) (listed : Array Bool) (pl : Plan)
  | alts (ops : Array Oper) (B : List Bl) (V : List Vw) (f : Nat) (listed : Array Bool) (pl : Plan)
def sem (P : Program) (k : Cont) : Cmd → Act → World → Prop
  | .code c => fun a w => c.wp P (k.den P) a w
  | .norm => k.den P .normal
  | .exit id => k.den P (.exit id)
  | .ret => k.den P .ret
  | .ops ops l => wpList P ops (k.den P) l
  | .any ops B V f listed _ => wpAnyH P .any ops (k.den P) (Sof B V) f listed
  | .alts ops B V f listed pl => fun a w => ∀ i ∈ pl.heads, wpOp P ops (k.den P) i (fun a' w' => Sof B V w' ∧ wpAnyH P .any ops (k.den P) (Sof B V) f (listed.setIfInBounds i true) a' w') a w
def Inv (σ : St) : Cmd → Prop
  | .any ops B V _ listed pl => planOk ops listed pl = true ∧ planAlt ops listed pl = true ∧ (∀ b ∈ B, b ∈ σ.blks) ∧ ∀ v ∈ V, v ∈ σ.views
  | .alts ops B V _ listed pl => planOk ops listed pl = true ∧ planAlt.planRest ops listed pl = true ∧ (∀ b ∈ B, b ∈ σ.blks) ∧ ∀ v ∈ V, v ∈ σ.views
  | _ => True
def dOk (E : Env) : Option Tmp → Prop
  | none => True
  | some t => t < E.n
def gTmp (ops : Array Oper) (j : Nat) : Option Tmp := (ops[j]?).bind (·.dst)
def gV2 : Option SV → Option Bool
  | some (.c (.v (.bool b))) => some b
  | _ => none
def gVal (ops : Array Oper) (σ : St) (j : Nat) : Option Bool := gV2 ((gTmp ops j).bind (look σ.tmps))
def St.know (σ : St) (x : Operand) (b : Bool) : St := match x with
  | .tmp t => { σ with tmps := (t, .c (.v (.bool b))) :: σ.tmps }
  | _ => σ
def AnyStop (P : Program) (E : Env) (k : Cont) (ops : Array Oper) (B : List Bl) (V : List Vw) (f : Nat) (listed : Array Bool) (i : Nat) (p : Plan) (_o : Oper) (σ : St) : Prop :=
  Inv σ (.any ops B V f (listed.setIfInBounds i true) p) → Ok E σ (fun a w => wpOp P ops (k.den P) i (fun a' w' => Sof B V w' ∧ wpAnyH P .any ops (k.den P) (Sof B V) f (listed.setIfInBounds i true) a' w') a w)
/-- a branch that hangs on a bool that is not known: the walk stands till one says which -/
def Wb (t : Bool) (x y : Prop) : Prop := (t = true → x) ∧ (t = false → y)

/-- a test -/
def Wc (P : Program) (E : Env) (rec_ : Cmd → St → Prop) (k : Cont) (c : Operand) (x y : Code) (σ : St) : Option SV → Prop
  | some (.c (.v (.bool t))) => Wb t (rec_ (.code x) (σ.know c true)) (rec_ (.code y) (σ.know c false))
  | _ => Ok E σ (sem P k (.code (.cond c x y)))
/-- an operation of a region in its order -/
def Wo (P : Program) (E : Env) (rec_ : Cmd → St → Prop) (k : Cont) (ops : Array Oper) (rest : List Oper) (o : Oper) (σ : St) : Out → Prop
  | .val s v => dOk E o.dst ∧ s ∧ rec_ (.ops ops rest) (σ.put o.dst v)
  | .new t cs m => dOk E o.dst ∧ ∀ g, rec_ (.ops ops rest) ((σ.add g t cs).put o.dst (mkS m σ.next g))
  | .put s id off cs => dOk E o.dst ∧ s ∧ rec_ (.ops ops rest) ((σ.set id off cs).put o.dst (.c (.v undef)))
  | .no => Ok E σ (wpList P ops (k.den P) (o :: rest))
/-- one that is guarded -/
def Wg (P : Program) (E : Env) (rec_ : Cmd → St → Prop) (k : Cont) (ops : Array Oper) (rest : List Oper) (o : Oper) (σ : St) (want : Bool) : Option Bool → Prop
  | some b => Wb (b == want) (Wo P E rec_ k ops rest o σ (stepO P o σ)) (dOk E o.dst ∧ rec_ (.ops ops rest) (σ.put o.dst (.c (.v undef))))
  | none => Ok E σ (wpList P ops (k.den P) (o :: rest))
/-- what goes on in a region that draws, behind number i -/
structure Dr where
  ops : Array Oper
  B : List Bl
  V : List Vw
  f : Nat
  listed : Array Bool
def Dr.next (d : Dr) (i : Nat) (p : Plan) : Cmd := .any d.ops d.B d.V d.f (d.listed.setIfInBounds i true) p
/-- one that is taken first -/
def Wt (E : Env) (rec_ : Cmd → St → Prop) (d : Dr) (i : Nat) (p : Plan) (o : Oper) (σ : St) : Out → Prop
  | .val s v => dOk E o.dst ∧ s ∧ rec_ (d.next i p) (σ.put o.dst v)
  | _ => False
def Wh (P : Program) (E : Env) (rec_ : Cmd → St → Prop) (d : Dr) (i : Nat) (p : Plan) (o : Oper) (σ : St) (want : Bool) : Option Bool → Prop
  | some b => Wb (b == want) (Wt E rec_ d i p o σ (stepO P o { σ with blks := d.B, views := d.V })) (dOk E o.dst ∧ rec_ (d.next i p) (σ.put o.dst (.c (.v undef))))
  | none => False
/-- one of those that may come up -/
def Wx (P : Program) (E : Env) (rec_ : Cmd → St → Prop) (k : Cont) (d : Dr) (i : Nat) (p : Plan) (o : Oper) (σ : St) : Out → Prop
  | .val s v => dOk E o.dst ∧ s ∧ rec_ (d.next i p) (σ.put o.dst v)
  | .new t cs m => dOk E o.dst ∧ ∀ g, rec_ (d.next i p) ((σ.add g t cs).put o.dst (mkS m σ.next g))
  | .put s id off cs => dOk E o.dst ∧ (∀ b ∈ d.B, b.id ≠ id) ∧ s ∧ rec_ (d.next i p) ((σ.set id off cs).put o.dst (.c (.v undef)))
  | .no => AnyStop P E k d.ops d.B d.V d.f d.listed i p o σ
def Wy (P : Program) (E : Env) (rec_ : Cmd → St → Prop) (k : Cont) (d : Dr) (i : Nat) (p : Plan) (o : Oper) (σ : St) (want : Bool) : Option Bool → Prop
  | some b => Wb (b == want) (Wx P E rec_ k d i p o σ (stepO P o σ)) (dOk E o.dst ∧ rec_ (d.next i p) (σ.put o.dst (.c (.v undef))))
  | none => AnyStop P E k d.ops d.B d.V d.f d.listed i p o σ
def WopG (P : Program) (E : Env) (rec_ : Cmd → St → Prop) (k : Cont) (ops : Array Oper) (rest : List Oper) (o : Oper) (σ : St) : Option (Nat × Bool) → Prop
  | none => Wo P E rec_ k ops rest o σ (stepO P o σ)
  | some (j, want) => Wg P E rec_ k ops rest o σ want (gVal ops σ j)
def WtG (P : Program) (E : Env) (rec_ : Cmd → St → Prop) (d : Dr) (i : Nat) (p : Plan) (o : Oper) (σ : St) : Option (Nat × Bool) → Prop
  | none => Wt E rec_ d i p o σ (stepO P o { σ with blks := d.B, views := d.V })
  | some (j, want) => Wh P E rec_ d i p o σ want (gVal d.ops σ j)
def WxG (P : Program) (E : Env) (rec_ : Cmd → St → Prop) (k : Cont) (d : Dr) (i : Nat) (p : Plan) (o : Oper) (σ : St) : Option (Nat × Bool) → Prop
  | none => Wx P E rec_ k d i p o σ (stepO P o σ)
  | some (j, want) => Wy P E rec_ k d i p o σ want (gVal d.ops σ j)
def WtO (P : Program) (E : Env) (rec_ : Cmd → St → Prop) (d : Dr) (i : Nat) (p : Plan) (σ : St) : Option Oper → Prop
  | some o => WtG P E rec_ d i p o σ o.guard
  | none => False
def WxO (P : Program) (E : Env) (rec_ : Cmd → St → Prop) (k : Cont) (d : Dr) (i : Nat) (p : Plan) (σ : St) : Option Oper → Prop
  | some o => WxG P E rec_ k d i p o σ o.guard
  | none => False
def WoL (P : Program) (E : Env) (rec_ : Cmd → St → Prop) (k : Cont) (ops : Array Oper) (σ : St) : List Oper → Prop
  | [] => rec_ .norm σ
  | o :: rest => WopG P E rec_ k ops rest o σ o.guard
def W (P : Program) (E : Env) : Nat → Cont → Cmd → St → Prop
  | 0, k, c, σ => Inv σ c → Ok E σ (sem P k c)
  | n + 1, k, .code .skip, σ => W P E n k .norm σ
  | n + 1, k, .code (.seq x y), σ => W P E n (.seq y k) (.code x) σ
  | n + 1, k, .code (.region _ ops false), σ => W P E n k (.ops ops ops.toList) σ
  | n + 1, k, .code (.cond c x y), σ => Wc P E (W P E n k) k c x y σ (ev σ c)
  | n + 1, k, .code (.block id c), σ => W P E n (.block id k) (.code c) σ
  | n + 1, k, .code (.exit id), σ => W P E n k (.exit id) σ
  | n + 1, k, .code .ret, σ => W P E n k .ret σ
  | _ + 1, k, .code c, σ => Ok E σ (sem P k (.code c))
  | _ + 1, .base Q, .norm, σ => Ok E σ (Q .normal)
  | n + 1, .seq y k, .norm, σ => W P E n k (.code y) σ
  | n + 1, .block _ k, .norm, σ => W P E n k .norm σ
  | _ + 1, .inv J _, .norm, σ => Ok E σ J
  | _ + 1, .base Q, .exit id, σ => Ok E σ (Q (.exit id))
  | n + 1, .seq _ k, .exit id, σ => W P E n k (.exit id) σ
  | n + 1, .block id' k, .exit id, σ => if id = id' then W P E n k .norm σ else W P E n k (.exit id) σ
  | n + 1, .inv _ k, .exit id, σ => W P E n k (.exit id) σ
  | _ + 1, .base Q, .ret, σ => Ok E σ (Q .ret)
  | n + 1, .seq _ k, .ret, σ => W P E n k .ret σ
  | n + 1, .block _ k, .ret, σ => W P E n k .ret σ
  | n + 1, .inv _ k, .ret, σ => W P E n k .ret σ
  | n + 1, k, .ops ops l, σ => WoL P E (W P E n k) k ops σ l
  | n + 1, k, .any _ _ _ _ _ .done, σ => W P E n k .norm σ
  | n + 1, k, .any ops B V (f + 1) listed (.take i p), σ => WtO P E (W P E n k) ⟨ops, B, V, f, listed⟩ i p σ ops[i]?
  | n + 1, k, .any ops B V (f + 1) listed (.alt i p r), σ => W P E n k (.alts ops B V f listed (.alt i p r)) σ
  | _ + 1, _, .any .., _ => False
  | n + 1, k, .alts ops B V f listed (.alt i p r), σ => WxO P E (W P E n k) k ⟨ops, B, V, f, listed⟩ i p σ ops[i]? ∧ W P E n k (.alts ops B V f listed r) σ
  | _ + 1, _, .alts .., _ => True

section
variable {P : Program} {E : Env} {rec_ : Cmd → St → Prop} {k : Cont}
theorem dOk_lt {d : Option Tmp} (h : dOk E d) : ∀ t, d = some t → t < E.n := fun t e => by subst e; exact h
theorem wp_of_value {o : Oper} {a : Act} {w w' : World} {v : Value} {next : Act → World → Prop} {Q : Exit → Act → World → Prop} (h : (execOp a.eval o).run P w = .ok (.value v) w') (hn : next (a.put o.dst v) w') : o.wp P a w next Q := by
  unfold Oper.wp; rw [h]; exact hn
theorem wp_of_skip {o : Oper} {a : Act} {w w' : World} {next : Act → World → Prop} {Q : Exit → Act → World → Prop} (h : (execOp a.eval o).run P w = .ok .skip w') (hn : next (a.put o.dst undef) w') : o.wp P a w next Q := by
  unfold Oper.wp; rw [h]; exact hn
/-- an operation that is carried out, whatever comes behind it -/
theorem step_sound {o : Oper} {σ : St} {a : Act} {w : World} {next : Act → World → Prop} {Q : Exit → Act → World → Prop} (hr : Rel E σ a w) (hd : dOk E o.dst) :
    (∀ s v, stepO P o σ = .val s v → s → (Rel E (σ.put o.dst v) (a.put o.dst v.den) w → next (a.put o.dst v.den) w) → o.wp P a w next Q) ∧
    (∀ t cs m, stepO P o σ = .new t cs m → (∀ a' w', Rel E ((σ.add w.heap.size t cs).put o.dst (mkS m σ.next w.heap.size)) a' w' → next a' w') → o.wp P a w next Q) ∧
    (∀ s id off cs, stepO P o σ = .put s id off cs → s → (∀ a' w', Rel E ((σ.set id off cs).put o.dst (.c (.v undef))) a' w' → next a' w') → o.wp P a w next Q) := by
  refine ⟨fun s v h hs hn => ?_, fun t cs m h hn => ?_, fun s id off cs h hs hn => ?_⟩
  · exact wp_of_value (stepO_val h hs hr.see) (hn (hr.put _ _ (dOk_lt hd)))
  · refine wp_of_value (stepO_new h hr.see) (hn _ _ ?_)
    rw [← mkS_den m σ.next]
    exact (hr.add t cs).put _ _ (dOk_lt hd)
  · obtain ⟨b, hb, hl, hrun⟩ := stepO_put h hs hr.see
    refine wp_of_skip hrun (hn _ _ ?_)
    exact (hr.set hb hl).put _ (.c (.v undef)) (dOk_lt hd)
theorem Rel.know {σ : St} {a : Act} {w : World} (h : Rel E σ a w) (x : Operand) (b : Bool) (hx : a.eval x = .bool b) : Rel E (σ.know x b) a w := by
  cases x with
  | tmp t =>
    refine ⟨fun u v hu => ?_, h.size, h.defers, h.blks, h.nodup, h.own, h.rows, h.apart, h.rapart, h.views, h.chg, h.snaps, h.mem⟩
    have hu' : (if t = u then some (SV.c (.v (.bool b))) else look σ.tmps u) = some v := hu
    split at hu'
    · rename_i e
      subst e
      cases hu'
      have : a.tmps.getD t undef = .bool b := hx
      rcases Nat.lt_or_ge t a.tmps.size with hl | hl
      · rw [Array.getD_eq_getD_getElem?, Array.getElem?_eq_getElem hl] at this
        rw [Array.getElem?_eq_getElem hl]
        exact congrArg some this
      · rw [Array.getD_eq_getD_getElem?, Array.getElem?_eq_none hl] at this
        simp [undef] at this
    · exact h.tmps u v hu'
  | const v => exact h
  | global g => exact h
  | func f => exact h
theorem wanted_of {ops : Array Oper} {σ : St} {a : Act} {w : World} (h : Rel E σ a w) {o : Oper} {j : Nat} {want b : Bool} (hg : o.guard = some (j, want)) (hv : gVal ops σ j = some b) :
    Region.wanted o (yielded ops a.tmps) = (b == want) := by
  unfold gVal gTmp gV2 at hv
  cases hd : (ops[j]?).bind (·.dst) with
  | none => rw [hd] at hv; cases hv
  | some t =>
    rw [hd] at hv
    simp only [Option.bind_some] at hv
    split at hv
    · rename_i b' hl
      cases hv
      have := h.tmps t _ hl
      simp only [Region.wanted, hg, yielded, hd, Option.bind_some, this, SV.den, SC.den]
      cases b <;> cases want <;> rfl
    · cases hv
theorem Wo_sound (hrec : ∀ c σ, rec_ c σ → Inv σ c → Ok E σ (sem P k c)) {ops : Array Oper} {rest : List Oper} {o : Oper} {σ : St} (h : Wo P E rec_ k ops rest o σ (stepO P o σ))
    {a : Act} {w : World} (hr : Rel E σ a w) (hw : Region.wanted o (yielded ops a.tmps) = true) : wpList P ops (k.den P) (o :: rest) a w := by
  cases hout : stepO P o σ with
  | no => rw [hout] at h; exact h a w hr
  | val s v =>
    rw [hout] at h
    obtain ⟨hd, hs, hn⟩ := h
    unfold wpList
    rw [if_pos hw]
    exact .inl ((step_sound hr hd).1 s v hout hs fun hr' => hrec _ _ hn trivial _ _ hr')
  | new t cs m =>
    rw [hout] at h
    obtain ⟨hd, hn⟩ := h
    unfold wpList
    rw [if_pos hw]
    exact .inl ((step_sound hr hd).2.1 t cs m hout fun a' w' hr' => hrec _ _ (hn _) trivial _ _ hr')
  | put s id off cs =>
    rw [hout] at h
    obtain ⟨hd, hs, hn⟩ := h
    unfold wpList
    rw [if_pos hw]
    exact .inl ((step_sound hr hd).2.2 s id off cs hout hs fun a' w' hr' => hrec _ _ hn trivial _ _ hr')
theorem WoL_sound (hrec : ∀ c σ, rec_ c σ → Inv σ c → Ok E σ (sem P k c)) {ops : Array Oper} {l : List Oper} {σ : St} (h : WoL P E rec_ k ops σ l) : Ok E σ (wpList P ops (k.den P) l) := by
  intro a w hr
  cases l with
  | nil => exact hrec _ _ h trivial a w hr
  | cons o rest =>
    replace h : WopG P E rec_ k ops rest o σ o.guard := h
    cases hg : o.guard with
    | none =>
      rw [hg] at h
      exact Wo_sound hrec h hr (by simp [Region.wanted, hg])
    | some jw =>
      obtain ⟨j, want⟩ := jw
      rw [hg] at h
      replace h : Wg P E rec_ k ops rest o σ want (gVal ops σ j) := h
      cases hv : gVal ops σ j with
      | none => rw [hv] at h; exact h a w hr
      | some b =>
        rw [hv] at h
        have hw := wanted_of hr hg hv
        cases hb : b == want with
        | true => exact Wo_sound hrec (h.1 hb) hr (by rw [hw, hb])
        | false =>
          obtain ⟨hd, hn⟩ := h.2 hb
          unfold wpList
          rw [if_neg (by rw [hw, hb]; simp)]
          exact hrec _ _ hn trivial _ _ (hr.put _ (.c (.v undef)) (dOk_lt hd))
theorem Sof_of {σ : St} {B : List Bl} {V : List Vw} {a : Act} {w : World} (hr : Rel E σ a w) (hB : ∀ b ∈ B, b ∈ σ.blks) (hV : ∀ v ∈ V, v ∈ σ.views) : Sof B V w :=
  ⟨fun b hb => hr.blks b (hB b hb), fun v hv => (hr.views v (hV v hv)).2.2⟩
theorem put_blks (σ : St) (d : Option Tmp) (v : SV) : (σ.put d v).blks = σ.blks ∧ (σ.put d v).views = σ.views := by cases d <;> exact ⟨rfl, rfl⟩
theorem putBl_keep {id off : Nat} {cs : List SC} : ∀ {l : List Bl} {b : Bl}, b ∈ l → b.id ≠ id → b ∈ putBl l id off cs
  | x :: r, b, h, hne => by
    unfold putBl
    split
    · rename_i e
      rcases List.mem_cons.1 h with rfl | h
      · exact absurd e hne
      · exact List.mem_cons_of_mem _ h
    · rcases List.mem_cons.1 h with rfl | h
      · exact List.mem_cons_self
      · exact List.mem_cons_of_mem _ (putBl_keep h hne)
theorem WtO_sound (hk : k.ok) (hrec : ∀ c σ, rec_ c σ → Inv σ c → Ok E σ (sem P k c)) {d : Dr} {i : Nat} {p : Plan} {σ : St} (h : WtO P E rec_ d i p σ d.ops[i]?)
    (hI : Inv σ (.any d.ops d.B d.V (d.f + 1) d.listed (.take i p))) : Ok E σ (wpAnyH P .any d.ops (k.den P) (Sof d.B d.V) (d.f + 1) d.listed) := by
  intro a w hr
  obtain ⟨hpl, hpa, hB, hV⟩ := hI
  simp only [planOk, Bool.and_eq_true] at hpl
  obtain ⟨⟨⟨hns, hfr⟩, hrd⟩, hpl⟩ := hpl
  cases ho : d.ops[i]? with
  | none => rw [ho] at h; exact h.elim
  | some o =>
    rw [ho] at h
    have hS := Sof_of hr hB hV
    have hQ := fun v => fun c a w q => (Cont.ok_den (P := P) hk) c a o.dst v w q
    have hsee : ∀ w, Sof d.B d.V w → See { σ with blks := d.B, views := d.V } a w := fun w hS => ⟨hr.tmps, hS.1, hS.2⟩
    have hnext : ∀ v : SV, Inv (σ.put o.dst v) (d.next i p) := fun v => ⟨hpl, hpa, by rw [(put_blks σ o.dst v).1]; exact hB, by rw [(put_blks σ o.dst v).2]; exact hV⟩
    have hval : ∀ s v, stepO P o { σ with blks := d.B, views := d.V } = .val s v → Region.wanted o (yielded d.ops a.tmps) = true → dOk E o.dst → s → rec_ (d.next i p) (σ.put o.dst v) →
        wpAnyH P .any d.ops (k.den P) (Sof d.B d.V) (d.f + 1) d.listed a w := fun s v hst hw hd hs hn =>
      wpAnyH_take ho hns hfr hrd (hQ v.den) (.inl ⟨hw, fun w' hS' => stepO_val hst hs (hsee w' hS')⟩) hS (hrec _ _ hn (hnext v) _ _ (hr.put _ _ (dOk_lt hd)))
    have hWt : Wt E rec_ d i p o σ (stepO P o { σ with blks := d.B, views := d.V }) → Region.wanted o (yielded d.ops a.tmps) = true → wpAnyH P .any d.ops (k.den P) (Sof d.B d.V) (d.f + 1) d.listed a w := by
      intro h hw
      cases hst : stepO P o { σ with blks := d.B, views := d.V } with
      | val s v =>
        rw [hst] at h
        exact hval s v hst hw h.1 h.2.1 h.2.2
      | _ => rw [hst] at h; exact h.elim
    replace h : WtG P E rec_ d i p o σ o.guard := h
    cases hg : o.guard with
    | none =>
      rw [hg] at h
      exact hWt h (by simp [Region.wanted, hg])
    | some jw =>
      obtain ⟨j, want⟩ := jw
      rw [hg] at h
      replace h : Wh P E rec_ d i p o σ want (gVal d.ops σ j) := h
      cases hv : gVal d.ops σ j with
      | none => rw [hv] at h; exact h.elim
      | some b =>
        rw [hv] at h
        have hw := wanted_of hr hg hv
        cases hb : b == want with
        | true => exact hWt (h.1 hb) (by rw [hw, hb])
        | false =>
          obtain ⟨hd, hn⟩ := h.2 hb
          exact wpAnyH_take ho hns hfr hrd (hQ undef) (.inr ⟨by rw [hw, hb], rfl⟩) hS (hrec _ _ hn (hnext (.c (.v undef))) _ _ (hr.put _ (.c (.v undef)) (dOk_lt hd)))
theorem WxO_sound (hrec : ∀ c σ, rec_ c σ → Inv σ c → Ok E σ (sem P k c)) {d : Dr} {i : Nat} {p : Plan} {σ : St} (h : WxO P E rec_ k d i p σ d.ops[i]?)
    (hpl : planOk d.ops (d.listed.setIfInBounds i true) p = true) (hpa : planAlt d.ops (d.listed.setIfInBounds i true) p = true) (hB : ∀ b ∈ d.B, b ∈ σ.blks) (hV : ∀ v ∈ d.V, v ∈ σ.views) :
    Ok E σ (fun a w => wpOp P d.ops (k.den P) i (fun a' w' => Sof d.B d.V w' ∧ wpAnyH P .any d.ops (k.den P) (Sof d.B d.V) d.f (d.listed.setIfInBounds i true) a' w') a w) := by
  intro a w hr
  cases ho : d.ops[i]? with
  | none => rw [ho] at h; exact h.elim
  | some o =>
    rw [ho] at h
    have hfin : ∀ σ', (∀ b ∈ d.B, b ∈ σ'.blks) → (∀ v ∈ d.V, v ∈ σ'.views) → rec_ (d.next i p) σ' → ∀ a' w', Rel E σ' a' w' → Sof d.B d.V w' ∧ wpAnyH P .any d.ops (k.den P) (Sof d.B d.V) d.f (d.listed.setIfInBounds i true) a' w' :=
      fun σ' hB' hV' hn a' w' hr' => ⟨Sof_of hr' hB' hV', hrec _ _ hn ⟨hpl, hpa, hB', hV'⟩ a' w' hr'⟩
    have hWx : Wx P E rec_ k d i p o σ (stepO P o σ) → Region.wanted o (yielded d.ops a.tmps) = true → wpOp P d.ops (k.den P) i (fun a' w' => Sof d.B d.V w' ∧ wpAnyH P .any d.ops (k.den P) (Sof d.B d.V) d.f (d.listed.setIfInBounds i true) a' w') a w := by
      intro h hw
      cases hst : stepO P o σ with
      | no => rw [hst] at h; exact h ⟨hpl, hpa, hB, hV⟩ a w hr
      | val s v =>
        rw [hst] at h
        obtain ⟨hd, hs, hn⟩ := h
        unfold wpOp
        simp only [ho, hw, if_true]
        exact .inl ((step_sound hr hd).1 s v hst hs fun hr' => hfin _ (by rw [(put_blks σ o.dst v).1]; exact hB) (by rw [(put_blks σ o.dst v).2]; exact hV) hn _ _ hr')
      | new t cs m =>
        rw [hst] at h
        obtain ⟨hd, hn⟩ := h
        unfold wpOp
        simp only [ho, hw, if_true]
        refine .inl ((step_sound hr hd).2.1 t cs m hst fun a' w' hr' => hfin _ (fun b hb => ?_) (fun v hv => ?_) (hn w.heap.size) a' w' hr')
        · rw [(put_blks _ o.dst _).1]; exact List.mem_cons_of_mem _ (hB b hb)
        · rw [(put_blks _ o.dst _).2]; exact hV v hv
      | put s id off cs =>
        rw [hst] at h
        obtain ⟨hd, hne, hs, hn⟩ := h
        unfold wpOp
        simp only [ho, hw, if_true]
        refine .inl ((step_sound hr hd).2.2 s id off cs hst hs fun a' w' hr' => hfin _ (fun b hb => ?_) (fun v hv => ?_) hn a' w' hr')
        · rw [(put_blks _ o.dst _).1]; exact putBl_keep (hB b hb) (hne b hb)
        · rw [(put_blks _ o.dst _).2]; exact hV v hv
    replace h : WxG P E rec_ k d i p o σ o.guard := h
    cases hg : o.guard with
    | none =>
      rw [hg] at h
      exact hWx h (by simp [Region.wanted, hg])
    | some jw =>
      obtain ⟨j, want⟩ := jw
      rw [hg] at h
      replace h : Wy P E rec_ k d i p o σ want (gVal d.ops σ j) := h
      cases hv : gVal d.ops σ j with
      | none => rw [hv] at h; exact h ⟨hpl, hpa, hB, hV⟩ a w hr
      | some b =>
        rw [hv] at h
        have hw := wanted_of hr hg hv
        cases hb : b == want with
        | true => exact hWx (h.1 hb) (by rw [hw, hb])
        | false =>
          obtain ⟨hd, hn⟩ := h.2 hb
          unfold wpOp
          simp only [ho, hw, hb]
          exact hfin _ (by rw [(put_blks σ o.dst _).1]; exact hB) (by rw [(put_blks σ o.dst _).2]; exact hV) hn _ _ (hr.put _ (.c (.v undef)) (dOk_lt hd))
theorem Wc_sound (hrec : ∀ c σ, rec_ c σ → Inv σ c → Ok E σ (sem P k c)) {c : Operand} {x y : Code} {σ : St} (h : Wc P E rec_ k c x y σ (ev σ c)) : Ok E σ (sem P k (.code (.cond c x y))) := by
  intro a w hr
  unfold Wc at h
  split at h
  · rename_i t hc
    have he : a.eval c = .bool t := ev_den hr.see hc
    refine wp_cond_split he (fun ht => ?_) (fun ht => ?_)
    · exact hrec _ _ (h.1 ht) trivial a w (hr.know c true (by rw [he, ht]))
    · exact hrec _ _ (h.2 ht) trivial a w (hr.know c false (by rw [he, ht]))
  · exact h a w hr
end
theorem W_sound {P : Program} {E : Env} : ∀ (n : Nat) (k : Cont) (c : Cmd) (σ : St), k.ok → W P E n k c σ → Inv σ c → Ok E σ (sem P k c)
  | 0, k, c, σ, _, h, hI => h hI
  | n + 1, k, c, σ, hk, h, hI => by
    have hrec : ∀ c σ, W P E n k c σ → Inv σ c → Ok E σ (sem P k c) := fun c σ => W_sound n k c σ hk
    cases c with
    | code c =>
      cases c with
      | skip => exact fun a w hr => wp_skip (hrec .norm σ h trivial a w hr)
      | seq x y => exact fun a w hr => wp_seq (W_sound n (.seq y k) (.code x) σ hk h trivial a w hr)
      | region id ops draw =>
        cases draw with
        | false => exact fun a w hr => wp_region_list (hrec (.ops ops ops.toList) σ h trivial a w hr)
        | true => exact h
      | cond c x y => exact Wc_sound hrec h
      | block id c => exact fun a w hr => wp_block (W_sound n (.block id k) (.code c) σ hk h trivial a w hr)
      | exit id => exact fun a w hr => wp_exit (hrec (.exit id) σ h trivial a w hr)
      | ret => exact fun a w hr => wp_ret (hrec .ret σ h trivial a w hr)
      | _ => exact h
    | norm =>
      cases k with
      | base Q => exact h
      | seq y k => exact W_sound n k (.code y) σ hk h trivial
      | block id k => exact W_sound n k .norm σ hk h trivial
      | inv J k => exact h
    | exit id =>
      cases k with
      | base Q => exact h
      | seq y k => exact W_sound n k (.exit id) σ hk h trivial
      | block id' k =>
        intro a w hr
        show Exit.inBlock id' (k.den P) (.exit id) a w
        unfold W at h
        by_cases e : id = id'
        · rw [if_pos e] at h
          simp only [Exit.inBlock, e, if_true]
          exact W_sound n k .norm σ hk h trivial a w hr
        · rw [if_neg e] at h
          simp only [Exit.inBlock, e, if_false]
          exact W_sound n k (.exit id) σ hk h trivial a w hr
      | inv J k => exact W_sound n k (.exit id) σ hk h trivial
    | ret =>
      cases k with
      | base Q => exact h
      | seq y k => exact W_sound n k .ret σ hk h trivial
      | block id k => exact W_sound n k .ret σ hk h trivial
      | inv J k => exact W_sound n k .ret σ hk h trivial
    | ops ops l => 
      have h' : WoL P E (W P E n k) k ops σ l := by cases k <;> exact h
      exact WoL_sound hrec h'
    | any ops B V f listed pl =>
      cases pl with
      | done =>
        have h' : W P E n k .norm σ := by cases k <;> exact h
        intro a w hr
        have hrd : Region.ready .any ops listed = [] := by simpa [planOk] using hI.1
        exact wpAnyH_done hrd (hrec _ _ h' trivial a w hr) f
      | take i p =>
        cases f with
        | zero => exact (show False by cases k <;> exact h).elim
        | succ f =>
          have h' : WtO P E (W P E n k) ⟨ops, B, V, f, listed⟩ i p σ ops[i]? := by cases k <;> exact h
          exact WtO_sound (d := ⟨ops, B, V, f, listed⟩) hk hrec h' hI
      | alt i p r =>
        cases f with
        | zero => exact (show False by cases k <;> exact h).elim
        | succ f =>
          have h' : W P E n k (.alts ops B V f listed (.alt i p r)) σ := by cases k <;> exact h
          obtain ⟨hpl, hpa, hB, hV⟩ := hI
          simp only [planAlt, Bool.and_eq_true, beq_iff_eq] at hpa
          have hI2 : Inv σ (.alts ops B V f listed (.alt i p r)) := ⟨hpl, by simp only [planAlt.planRest, Bool.and_eq_true]; exact ⟨hpa.1.2, hpa.2⟩, hB, hV⟩
          intro a w hr
          exact wpAnyH_all hpa.1.1 (by simp) (hrec _ _ h' hI2 a w hr)
      | last => exact (show False by cases k <;> exact h).elim
    | alts ops B V f listed pl =>
      cases pl with
      | alt i p r =>
        have h' : WxO P E (W P E n k) k ⟨ops, B, V, f, listed⟩ i p σ ops[i]? ∧ W P E n k (.alts ops B V f listed r) σ := by cases k <;> exact h
        obtain ⟨hpl, hpa, hB, hV⟩ := hI
        simp only [planOk, Bool.and_eq_true] at hpl
        simp only [planAlt.planRest, Bool.and_eq_true] at hpa
        intro a w hr j hj
        rcases List.mem_cons.1 hj with rfl | hj
        · exact WxO_sound (d := ⟨ops, B, V, f, listed⟩) hrec h'.1 hpl.1.2 hpa.1 hB hV a w hr
        · exact hrec _ _ h'.2 ⟨hpl.2, hpa.2, hB, hV⟩ a w hr j hj
      | _ => exact fun a w hr j hj => by cases hj
end Go.Proofs.Ytomfladifefomaa
