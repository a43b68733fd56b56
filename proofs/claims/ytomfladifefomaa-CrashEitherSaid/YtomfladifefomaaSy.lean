/- What an operation of the model makes of a state that is known: a value, a new block, a store. Names no program. Conditions: as each law states them. -/
import Derived.Test.YtomfladifefomaaSx
import Derived.IntWalk
namespace Go.Proofs.Ytomfladifefomaa
open Go.RowKit

/-! ### what is asked of the program's types -/
def tSize (P : Program) (t : TypeId) : Option Nat := (P.info? t).map (·.size)
def tRow (P : Program) (t : TypeId) : Option Bool := (P.underlying t).map (·.isRow)
def tZero (P : Program) (t : TypeId) : Option (List Value) := ((P.info? t).bind (·.zero)).map (·.cells.toList)
def tField (P : Program) (s : TypeId) (f : Nat) : Option (Nat × TypeId) := match P.underlying s with
  | some (.struct fs) => (fs[f]?).map fun f => (f.offset, f.type)
  | _ => none
def tFields (P : Program) (s : TypeId) : Option (List (Nat × Nat)) := match P.underlying s with
  | some (.struct fs) => fs.toList.mapM fun f => (tSize P f.type).map fun n => (f.offset, n)
  | _ => none
def tInt (P : Program) (t : TypeId) : Option IntKind := match P.underlying t with
  | some (.int k) => some k
  | _ => none
def tSlice (P : Program) (t : TypeId) : Option TypeId := match P.underlying t with
  | some (.slice e) => some e
  | _ => none
def tStr (P : Program) (t : TypeId) : Bool := match P.underlying t with
  | some .string => true
  | _ => false

def inR (k : IntKind) (x : Int) : Prop := match k with
  | .i64 => -9223372036854775808 ≤ x ∧ x ≤ 9223372036854775807
  | .u8 => 0 ≤ x ∧ x ≤ 255
  | _ => False
theorem wrap_inR {k : IntKind} {x : Int} (h : inR k x) : k.wrap x = x := by
  cases k <;> first | exact IntWalk.i64_in x h | exact IntWalk.u8_in x h | exact h.elim

inductive Out where
  | val (s : Prop) (v : SV)
  | new (t : TypeId) (cs : List SC) (n : Option Nat)
  | put (s : Prop) (id off : Nat) (cs : List SC)
  | no

def ev (σ : St) : Operand → Option SV
  | .tmp t => look σ.tmps t
  | .const v => some (.c (.v v))
  | .func f => some (.c (.f f []))
  | .global _ => none
theorem ev_den {σ : St} {a : Act} {w : World} (h : See σ a w) {x : Operand} {v : SV} (hx : ev σ x = some v) : a.eval x = v.den := by
  cases x with
  | tmp t =>
    have := h.tmps t v hx
    simp [Act.eval, this]
  | const v => cases hx; rfl
  | func f => cases hx; rfl
  | global g => cases hx

def binI (op : BinOp) (k : IntKind) (a b : Int) : Option (Prop × Value) := match op with
  | .add => some (inR k (a + b), .int k (a + b))
  | .sub => some (inR k (a - b), .int k (a - b))
  | .mul => some (inR k (a * b), .int k (a * b))
  | .quo => some (1 ≤ b ∧ inR k a ∧ k = .i64, .int k (a.tdiv b))
  | .rem => some (0 ≤ a ∧ 1 ≤ b, .int k (a % b))
  | .eql => some (True, .bool (decide (a = b)))
  | .neq => some (True, .bool (!decide (a = b)))
  | .lss => some (True, .bool (decide (a < b)))
  | .leq => some (True, .bool (decide (a ≤ b)))
  | .gtr => some (True, .bool (decide (b < a)))
  | .geq => some (True, .bool (decide (b ≤ a)))
  | _ => none
theorem binI_run {P : Program} {op : BinOp} {k : IntKind} {a b : Int} {s : Prop} {v : Value} (h : binI op k a b = some (s, v)) (hs : s) (t : TypeId) (w : World) :
    (binOp op t (.int k a) (.int k b)).run P w = .ok v w := by
  cases op <;> simp only [binI, Option.some.injEq, Prod.mk.injEq, reduceCtorEq] at h <;> obtain ⟨rfl, rfl⟩ := h
  case add => simp [binOp, Op.intArith, wrap_inR hs]
  case sub => simp [binOp, Op.intArith, wrap_inR hs]
  case mul => simp [binOp, Op.intArith, wrap_inR hs]
  case quo =>
    have : b ≠ 0 := by have := hs.1; omega
    obtain ⟨h1, h2, rfl⟩ := hs
    have e := IntWalk.i64_quo' a b ⟨h2.1, h2.2, h1⟩
    simp [binOp, Op.intDiv, this, e]
  case rem =>
    have : b ≠ 0 := by omega
    have e : a.tmod b = a % b := Int.tmod_eq_emod_of_nonneg hs.1
    simp [binOp, Op.intDiv, this, e]
  case eql => simp [binOp, Op.intCmp]; rfl
  case neq => simp [binOp, Op.intCmp]; rfl
  all_goals simp [binOp, Op.intCmp]

def fillF (fs : List (Nat × Nat)) : List SC → List (Nat × List SC) → Option (List SC)
  | z, [] => some z
  | z, (i, cs) :: rest => match fs[i]? with
    | some (off, n) => if cs.length = n ∧ off + n ≤ z.length then fillF fs (putCs z off cs) rest else none
    | none => none
/-- the parts of a literal, each with its cells -/
def partsOf (σ : St) : List (Nat × Operand) → Option (List (Nat × List SC))
  | [] => some []
  | (i, x) :: r => match ev σ x, partsOf σ r with
    | some v, some l => some ((i, v.cells) :: l)
    | _, _ => none
def foldMin : List SV → Option Int
  | [.c (.v (.int .i64 a))] => some a
  | .c (.v (.int .i64 a)) :: r => (foldMin r).map (min a ·)
  | _ => none
def evs (σ : St) : List Operand → Option (List SV)
  | [] => some []
  | x :: r => match ev σ x, evs σ r with
    | some v, some l => some (v :: l)
    | _, _ => none
/-- the pointers that a closure captures -/
def capsOf : List SV → Option (List (Nat × Nat × Nat))
  | [] => some []
  | .c (.p id g o) :: r => (capsOf r).map ((id, g, o) :: ·)
  | _ => none

def getVw : List Vw → Nat → Option Vw
  | [], _ => none
  | v :: r, id => if v.id = id then some v else getVw r id
theorem getVw_mem : ∀ {l : List Vw} {id : Nat} {v : Vw}, getVw l id = some v → v ∈ l
  | [], _, _, h => by cases h
  | x :: r, id, v, h => by
    unfold getVw at h
    split at h
    · cases h; exact List.mem_cons_self
    · exact List.mem_cons_of_mem _ (getVw_mem h)

def loadCs (P : Program) (t : TypeId) (cs : List SC) (off : Nat) (s : Prop) : Out := match tSize P t, tRow P t with
  | some n, some true => if off + n ≤ cs.length then .val s (.a ((cs.drop off).take n)) else .no
  | some _, some false => match cs[off]? with
    | some c => .val s (.c c)
    | none => .no
  | _, _ => .no
def oPick : Option SV → Option SV → Option SV → Out
  | some (.c (.v (.bool t))), vx, vy => match vx, vy with
    | some (.c (.v (.bool p))), some (.c (.v (.bool q))) => .val True (.c (.v (.bool (cond t p q))))
    | some vx, some vy => match t with
      | true => .val True vx
      | false => .val True vy
    | _, _ => .no
  | _, _, _ => .no
def oUn (op : UnOp) : Option SV → Out := fun v => match op, v with
  | .not, some (.c (.v (.bool b))) => .val True (.c (.v (.bool !b)))
  | .neg, some (.c (.v (.int k n))) => .val (inR k (0 - n)) (.c (.v (.int k (0 - n))))
  | _, _ => .no
def oConv : Option SV → Option IntKind → Option IntKind → Out
  | some (.c (.v (.int _ n))), k1, k2 => match k1, k2 with
    | some _, some .u8 => .val True (.c (.v (.int .u8 (n % 256))))
    | some _, some k => .val (inR k n) (.c (.v (.int k n)))
    | _, _ => .no
  | _, _, _ => .no
def oBuild : Option (List Value) → Option (List (Nat × Nat)) → Option (List (Nat × List SC)) → Out
  | some z, some fs, some l => match fillF fs (z.map .v) l with
    | some cs => .val True (.a cs)
    | none => .no
  | _, _, _ => .no
def oFn (f : FuncId) : List Operand → Option (List (Nat × Nat × Nat)) → Out
  | [], some l => .val True (.c (.f f l))
  | _, _ => .no
def oLen (P : Program) (ts : Array TypeId) : Option (List SV) → Out
  | some [.c (.v (.slice _ n _))] => match (ts[0]?).bind (tSlice P) with
    | some _ => .val True (.c (.v (.int .i64 n)))
    | none => .no
  | some [.c (.v (.string s))] => match (ts[0]?).map (tStr P) with
    | some true => .val True (.c (.v (.int .i64 s.size)))
    | _ => .no
  | _ => .no
def oMin : Option (List SV) → Out
  | some [.c (.v (.int .i64 a)), .c (.v (.int .i64 b))] => .val True (.c (.v (.int .i64 (min a b))))
  | _ => .no
def oMax : Option (List SV) → Out
  | some [.c (.v (.int .i64 a)), .c (.v (.int .i64 b))] => .val True (.c (.v (.int .i64 (max a b))))
  | _ => .no
def ivOf (σ : St) : Option Operand → Int → Option Int
  | none, d => some d
  | some x, _ => match ev σ x with
    | some (.c (.v (.int _ n))) => some n
    | _ => none
def oCut2 (s : ByteArray) (b : Bool) : Option Int → Option Int → Out
  | some l, some h => match b with
    | true => .val (0 ≤ l ∧ l ≤ h ∧ h ≤ s.size) (.c (.v (.string (s.extract l.toNat h.toNat))))
    | false => .no
  | _, _ => .no
def oCut (P : Program) (t : TypeId) (σ : St) (lo hi mx : Option Operand) : Option SV → Out
  | some (.c (.v (.string s))) => match mx with
    | none => oCut2 s (tStr P t) (ivOf σ lo 0) (ivOf σ hi s.size)
    | some _ => .no
  | _ => .no
/-- the parts of a literal slice, in their order, all of them -/
def catP (k : Nat) : Nat → List (Nat × List SC) → Option (List SC)
  | _, [] => some []
  | i, (j, cs) :: r => if i = j ∧ cs.length = k then (catP k (i + 1) r).map (cs ++ ·) else none
def oLit (k : Option Nat) (e : Option TypeId) (z : Option (List Value)) (n : Nat) (l : Option (List (Nat × List SC))) : Out := match k, e, z, l with
  | some k, some e, some z, some l => if l.length = n ∧ n * k ≤ 16777216 ∧ z.length = k then match catP k 0 l with
    | some cs => .new e cs (some n)
    | none => .no else .no
  | _, _, _, _ => .no
def binS (op : BinOp) (a b : ByteArray) : Option (Prop × Value) := match op with
  | .add => some ((a.size : Int) + b.size ≤ 9223372036854775807, .string (a ++ b))
  | .eql => some (True, .bool (a.toList == b.toList))
  | .neq => some (True, .bool (!(a.toList == b.toList)))
  | .lss => some (True, .bool (Op.bytesLess a.toList b.toList))
  | .gtr => some (True, .bool (!(Op.bytesLess a.toList b.toList || a.toList == b.toList)))
  | .leq => some (True, .bool (Op.bytesLess a.toList b.toList || a.toList == b.toList))
  | .geq => some (True, .bool (!Op.bytesLess a.toList b.toList))
  | _ => none
def oBin2 (op : BinOp) : Option SV → Option SV → Out
  | some (.c (.v (.int k a))), some (.c (.v (.int k' b))) => if k = k' then match binI op k a b with
    | some (s, v) => .val s (.c (.v v))
    | none => .no else .no
  | some (.c (.v (.string a))), some (.c (.v (.string b))) => match binS op a b with
    | some (s, v) => .val s (.c (.v v))
    | none => .no
  | _, _ => .no
def stepO (P : Program) (o : Oper) (σ : St) : Out := match o.op with
  | .move x | .assign x => match ev σ x with
    | some v => .val True v
    | none => .no
  | .pick c x y => oPick (ev σ c) (ev σ x) (ev σ y)
  | .load t x => match ev σ x with
    | some (.c (.p id g off)) => match getBl σ.blks id with
      | some b => loadCs P t b.cs off (b.g = g)
      | none => .no
    | some (.c (.q id g q off)) => match getVw σ.views id with
      | some v => loadCs P t (v.cs.map .v) off (v.g = g ∧ v.o = q)
      | none => .no
    | _ => .no
  | .store t x y => match ev σ x, ev σ y with
    | some (.c (.p id g off)), some v => match getBl σ.blks id, tSize P t with
      | some b, some n => if v.cells.length = n ∧ off + n ≤ b.cs.length then .put (b.g = g ∧ ones v.cells) id off v.cells else .no
      | _, _ => .no
    | _, _ => .no
  | .alloc t => match tZero P t with
    | some z => .new t (z.map .v) none
    | none => .no
  | .box t x => match ev σ x with
    | some v => .new t v.cells none
    | none => .no
  | .fieldAddr s x f => match ev σ x, tField P s f with
    | some (.c (.p id g off)), some (o, ft) => match tSize P ft with
      | some n => if n ≠ 0 then .val True (.c (.p id g (off + o))) else .no
      | none => .no
    | some (.c (.q id g q off)), some (o, ft) => match tSize P ft with
      | some n => if n ≠ 0 then .val True (.c (.q id g q (off + o))) else .no
      | none => .no
    | _, _ => .no
  | .field s x f => match ev σ x, tField P s f with
    | some v, some (o, ft) => match v with
      | .a l => loadCs P ft l o True
      | .c (.v (.agg cs)) => loadCs P ft (cs.toList.map .v) o True
      | _ => .no
    | _, _ => .no
  | .extract x i => match ev σ x with
    | some (.c (.v (.tuple vs))) => match vs[i]? with
      | some v => .val True (.c (.v v))
      | none => .no
    | _ => .no
  | .binOp op _ x y _ => oBin2 op (ev σ x) (ev σ y)
  | .slice t x lo hi mx => oCut P t σ lo hi mx (ev σ x)
  | .buildSlice t n parts => oLit ((tSlice P t).bind (tSize P)) (tSlice P t) ((tSlice P t).bind (tZero P)) n (partsOf σ parts.toList)
  | .unOp op _ x => oUn op (ev σ x)
  | .convert src dst x => oConv (ev σ x) (tInt P src) (tInt P dst)
  | .build t parts => oBuild (tZero P t) (tFields P t) (partsOf σ parts.toList)
  | .nilCheck x => match ev σ x with
    | some (.c (.p id g off)) => .val True (.c (.p id g off))
    | some (.c (.q id g o r)) => .val True (.c (.q id g o r))
    | _ => .no
  | .makeFunc fn first captured => match fn with
    | .func f => oFn f first.toList ((evs σ captured.toList).bind capsOf)
    | _ => .no
  | .call c => match c.callee with
    | .builtin .len => oLen P c.argTypes (evs σ c.args.toList)
    | .builtin .min => oMin (evs σ c.args.toList)
    | .builtin .max => oMax (evs σ c.args.toList)
    | _ => .no
  | _ => .no
end Go.Proofs.Ytomfladifefomaa
