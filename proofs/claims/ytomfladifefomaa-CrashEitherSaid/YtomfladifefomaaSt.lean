/- What an operation makes, as rules of the simp set go_sem. Names no program. Conditions: as each law states them. -/
import Derived.Test.YtomfladifefomaaSs
namespace Go.Proofs.Ytomfladifefomaa
open Go.RowKit
def oVal : Option SV → Out
  | some v => .val True v
  | none => .no
def oLoad (P : Program) (t : TypeId) (σ : St) : Option SV → Out
  | some (.c (.p id g off)) => match getBl σ.blks id with
    | some b => loadCs P t b.cs off (b.g = g)
    | none => .no
  | some (.c (.q id g q off)) => match getVw σ.views id with
    | some v => loadCs P t (v.cs.map .v) off (v.g = g ∧ v.o = q)
    | none => .no
  | _ => .no
def oLoadB (P : Program) (t : TypeId) (g off : Nat) : Option Bl → Out
  | some b => loadCs P t b.cs off (b.g = g)
  | none => .no
def oLoadV (P : Program) (t : TypeId) (g q off : Nat) : Option Vw → Out
  | some v => loadCs P t (v.cs.map .v) off (v.g = g ∧ v.o = q)
  | none => .no
def loadC2 (cs : List SC) (off : Nat) (s : Prop) : Option Nat → Option Bool → Out
  | some n, some true => if off + n ≤ cs.length then .val s (.a ((cs.drop off).take n)) else .no
  | some _, some false => match cs[off]? with
    | some c => .val s (.c c)
    | none => .no
  | _, _ => .no
def oCell (s : Prop) : Option SC → Out
  | some c => .val s (.c c)
  | none => .no
def oStore (P : Program) (t : TypeId) (σ : St) : Option SV → Option SV → Out
  | some (.c (.p id g off)), some v => match getBl σ.blks id, tSize P t with
    | some b, some n => if v.cells.length = n ∧ off + n ≤ b.cs.length then .put (b.g = g ∧ ones v.cells) id off v.cells else .no
    | _, _ => .no
  | _, _ => .no
def oStoreB (g id off : Nat) (cs : List SC) : Option Bl → Option Nat → Out
  | some b, some n => if cs.length = n ∧ off + n ≤ b.cs.length then .put (b.g = g ∧ ones cs) id off cs else .no
  | _, _ => .no
def oAlloc (t : TypeId) : Option (List Value) → Out
  | some z => .new t (z.map .v) none
  | none => .no
def oBox (t : TypeId) : Option SV → Out
  | some v => .new t v.cells none
  | none => .no
def oFAddr (P : Program) : Option SV → Option (Nat × TypeId) → Out
  | some (.c (.p id g off)), some (o, ft) => match tSize P ft with
    | some n => if n ≠ 0 then .val True (.c (.p id g (off + o))) else .no
    | none => .no
  | some (.c (.q id g q off)), some (o, ft) => match tSize P ft with
    | some n => if n ≠ 0 then .val True (.c (.q id g q (off + o))) else .no
    | none => .no
  | _, _ => .no
def oNz (v : SV) : Option Nat → Out
  | some n => if n ≠ 0 then .val True v else .no
  | none => .no
def oField (P : Program) : Option SV → Option (Nat × TypeId) → Out
  | some v, some (o, ft) => match v with
    | .a l => loadCs P ft l o True
    | .c (.v (.agg cs)) => loadCs P ft (cs.toList.map .v) o True
    | _ => .no
  | _, _ => .no
def oExtract (i : Nat) : Option SV → Out
  | some (.c (.v (.tuple vs))) => match vs[i]? with
    | some v => .val True (.c (.v v))
    | none => .no
  | _ => .no
def oV : Option Value → Out
  | some v => .val True (.c (.v v))
  | none => .no
def oBinR : Option (Prop × Value) → Out
  | some (s, v) => .val s (.c (.v v))
  | none => .no
def oAgg : Option (List SC) → Out
  | some cs => .val True (.a cs)
  | none => .no
def oNil : Option SV → Out
  | some (.c (.p id g off)) => .val True (.c (.p id g off))
  | some (.c (.q id g o r)) => .val True (.c (.q id g o r))
  | _ => .no
def oLenS (n : Nat) : Option TypeId → Out
  | some _ => .val True (.c (.v (.int .i64 n)))
  | none => .no
def oLenT (n : Nat) : Option Bool → Out
  | some true => .val True (.c (.v (.int .i64 n)))
  | _ => .no
section
variable (P : Program) (d : Option Tmp) (ty : TypeId) (ps : String) (af : Array Edge) (gd : Option (Nat × Bool)) (σ : St)
@[go_sem] theorem st_move (x : Operand) : stepO P ⟨d, .move x, ty, ps, af, gd⟩ σ = oVal (ev σ x) := rfl
@[go_sem] theorem st_assign (x : Operand) : stepO P ⟨d, .assign x, ty, ps, af, gd⟩ σ = oVal (ev σ x) := rfl
@[go_sem] theorem st_pick (c x y : Operand) : stepO P ⟨d, .pick c x y, ty, ps, af, gd⟩ σ = oPick (ev σ c) (ev σ x) (ev σ y) := rfl
@[go_sem] theorem st_load (t : TypeId) (x : Operand) : stepO P ⟨d, .load t x, ty, ps, af, gd⟩ σ = oLoad P t σ (ev σ x) := by unfold stepO oLoad; rfl
@[go_sem] theorem st_store (t : TypeId) (x y : Operand) : stepO P ⟨d, .store t x y, ty, ps, af, gd⟩ σ = oStore P t σ (ev σ x) (ev σ y) := by unfold stepO oStore; rfl
@[go_sem] theorem st_alloc (t : TypeId) : stepO P ⟨d, .alloc t, ty, ps, af, gd⟩ σ = oAlloc t (tZero P t) := by unfold stepO oAlloc; rfl
@[go_sem] theorem st_box (t : TypeId) (x : Operand) : stepO P ⟨d, .box t x, ty, ps, af, gd⟩ σ = oBox t (ev σ x) := by unfold stepO oBox; rfl
@[go_sem] theorem st_fieldAddr (s : TypeId) (x : Operand) (f : Nat) : stepO P ⟨d, .fieldAddr s x f, ty, ps, af, gd⟩ σ = oFAddr P (ev σ x) (tField P s f) := by unfold stepO oFAddr; rfl
@[go_sem] theorem st_field (s : TypeId) (x : Operand) (f : Nat) : stepO P ⟨d, .field s x f, ty, ps, af, gd⟩ σ = oField P (ev σ x) (tField P s f) := by unfold stepO oField; rfl
@[go_sem] theorem st_extract (x : Operand) (i : Nat) : stepO P ⟨d, .extract x i, ty, ps, af, gd⟩ σ = oExtract i (ev σ x) := by unfold stepO oExtract; rfl
@[go_sem] theorem st_binOp (op : BinOp) (t t' : TypeId) (x y : Operand) : stepO P ⟨d, .binOp op t x y t', ty, ps, af, gd⟩ σ = oBin2 op (ev σ x) (ev σ y) := rfl
@[go_sem] theorem st_unOp (op : UnOp) (t : TypeId) (x : Operand) : stepO P ⟨d, .unOp op t x, ty, ps, af, gd⟩ σ = oUn op (ev σ x) := rfl
@[go_sem] theorem st_convert (s t : TypeId) (x : Operand) : stepO P ⟨d, .convert s t x, ty, ps, af, gd⟩ σ = oConv (ev σ x) (tInt P s) (tInt P t) := rfl
@[go_sem] theorem st_build (t : TypeId) (parts : Array (Nat × Operand)) : stepO P ⟨d, .build t parts, ty, ps, af, gd⟩ σ = oBuild (tZero P t) (tFields P t) (partsOf σ parts.toList) := rfl
@[go_sem] theorem st_nilCheck (x : Operand) : stepO P ⟨d, .nilCheck x, ty, ps, af, gd⟩ σ = oNil (ev σ x) := by unfold stepO oNil; rfl
@[go_sem] theorem st_makeFunc (f : FuncId) (first cap : Array Operand) : stepO P ⟨d, .makeFunc (.func f) first cap, ty, ps, af, gd⟩ σ = oFn f first.toList ((evs σ cap.toList).bind capsOf) := rfl
@[go_sem] theorem st_len (args : Array Operand) (ts : Array TypeId) : stepO P ⟨d, .call ⟨.builtin .len, args, ts⟩, ty, ps, af, gd⟩ σ = oLen P ts (evs σ args.toList) := rfl
@[go_sem] theorem st_min (args : Array Operand) (ts : Array TypeId) : stepO P ⟨d, .call ⟨.builtin .min, args, ts⟩, ty, ps, af, gd⟩ σ = oMin (evs σ args.toList) := rfl
@[go_sem] theorem st_max (args : Array Operand) (ts : Array TypeId) : stepO P ⟨d, .call ⟨.builtin .max, args, ts⟩, ty, ps, af, gd⟩ σ = oMax (evs σ args.toList) := rfl
@[go_sem] theorem st_callf (f : Operand) (args : Array Operand) (ts : Array TypeId) : stepO P ⟨d, .call ⟨.value f, args, ts⟩, ty, ps, af, gd⟩ σ = .no := rfl
@[go_sem] theorem st_append (args : Array Operand) (ts : Array TypeId) : stepO P ⟨d, .call ⟨.builtin .append, args, ts⟩, ty, ps, af, gd⟩ σ = .no := rfl
@[go_sem] theorem st_copy (args : Array Operand) (ts : Array TypeId) : stepO P ⟨d, .call ⟨.builtin .copy, args, ts⟩, ty, ps, af, gd⟩ σ = .no := rfl
@[go_sem] theorem st_indexAddr (t : TypeId) (x i : Operand) : stepO P ⟨d, .indexAddr t x i, ty, ps, af, gd⟩ σ = .no := rfl
@[go_sem] theorem st_slice (t : TypeId) (x : Operand) (l h m : Option Operand) : stepO P ⟨d, .slice t x l h m, ty, ps, af, gd⟩ σ = oCut P t σ l h m (ev σ x) := rfl
@[go_sem] theorem st_makeSlice (t : TypeId) (l c : Operand) : stepO P ⟨d, .makeSlice t l c, ty, ps, af, gd⟩ σ = .no := rfl
@[go_sem] theorem st_buildSlice (t : TypeId) (n : Nat) (parts : Array (Nat × Operand)) : stepO P ⟨d, .buildSlice t n parts, ty, ps, af, gd⟩ σ = oLit ((tSlice P t).bind (tSize P)) (tSlice P t) ((tSlice P t).bind (tZero P)) n (partsOf σ parts.toList) := rfl
end
/-! ### the helpers on what is known -/
section
variable (P : Program) (σ : St) (s : Prop)
@[go_sem] theorem oVal_some (v : SV) : oVal (some v) = .val True v := rfl
@[go_sem] theorem oPick_bools (t p q : Bool) : oPick (some (.c (.v (.bool t)))) (some (.c (.v (.bool p)))) (some (.c (.v (.bool q)))) = .val True (.c (.v (.bool (cond t p q)))) := rfl
@[go_sem] theorem oPick_true (q : Value) (p : Bool) (h : q = undef) : oPick (some (.c (.v (.bool true)))) (some (.c (.v (.bool p)))) (some (.c (.v q))) = .val True (.c (.v (.bool p))) := by subst h; rfl
@[go_sem] theorem oPick_false (p : Value) (q : Bool) (h : p = undef) : oPick (some (.c (.v (.bool false)))) (some (.c (.v p))) (some (.c (.v (.bool q)))) = .val True (.c (.v (.bool q))) := by subst h; rfl
@[go_sem] theorem oLoad_p (t id g off : Nat) : oLoad P t σ (some (.c (.p id g off))) = oLoadB P t g off (getBl σ.blks id) := by unfold oLoad oLoadB; rfl
@[go_sem] theorem oLoad_q (t id g q off : Nat) : oLoad P t σ (some (.c (.q id g q off))) = oLoadV P t g q off (getVw σ.views id) := by unfold oLoad oLoadV; rfl
@[go_sem] theorem oLoad_v (t : Nat) (x : Value) : oLoad P t σ (some (.c (.v x))) = .no := rfl
@[go_sem] theorem oLoadB_some (t g off i g' t' : Nat) (cs : List SC) : oLoadB P t g off (some ⟨i, g', t', cs⟩) = loadC2 cs off (g' = g) (tSize P t) (tRow P t) := by unfold oLoadB loadC2 loadCs; rfl
@[go_sem] theorem oLoadV_some (t g q off i g' o' : Nat) (cs : List Value) : oLoadV P t g q off (some ⟨i, g', o', cs⟩) = loadC2 (cs.map .v) off (g' = g ∧ o' = q) (tSize P t) (tRow P t) := by unfold oLoadV loadC2 loadCs; rfl
@[go_sem] theorem loadC2_row (cs : List SC) (off n : Nat) : loadC2 cs off s (some n) (some true) = if off + n ≤ cs.length then .val s (.a ((cs.drop off).take n)) else .no := rfl
@[go_sem] theorem loadC2_one (cs : List SC) (off n : Nat) : loadC2 cs off s (some n) (some false) = oCell s cs[off]? := by unfold loadC2 oCell; rfl
@[go_sem] theorem oCell_some (c : SC) : oCell s (some c) = .val s (.c c) := rfl
@[go_sem] theorem oStore_p (t id g off : Nat) (v : SV) : oStore P t σ (some (.c (.p id g off))) (some v) = oStoreB g id off v.cells (getBl σ.blks id) (tSize P t) := by unfold oStore oStoreB; rfl
@[go_sem] theorem oStore_v (t : Nat) (x : Value) (v : Option SV) : oStore P t σ (some (.c (.v x))) v = .no := rfl
@[go_sem] theorem oStoreB_some (g id off i g' t' n : Nat) (cs cs' : List SC) : oStoreB g id off cs (some ⟨i, g', t', cs'⟩) (some n) = if cs.length = n ∧ off + n ≤ cs'.length then .put (g' = g ∧ ones cs) id off cs else .no := rfl
@[go_sem] theorem oAlloc_some (t : Nat) (z : List Value) : oAlloc t (some z) = .new t (z.map .v) none := rfl
@[go_sem] theorem oBox_some (t : Nat) (v : SV) : oBox t (some v) = .new t v.cells none := rfl
@[go_sem] theorem oFAddr_p (id g off o ft : Nat) : oFAddr P (some (.c (.p id g off))) (some (o, ft)) = oNz (.c (.p id g (off + o))) (tSize P ft) := by unfold oFAddr oNz; rfl
@[go_sem] theorem oFAddr_q (id g q off o ft : Nat) : oFAddr P (some (.c (.q id g q off))) (some (o, ft)) = oNz (.c (.q id g q (off + o))) (tSize P ft) := by unfold oFAddr oNz; rfl
@[go_sem] theorem oFAddr_v (x : Value) (o : Option (Nat × TypeId)) : oFAddr P (some (.c (.v x))) o = .no := by unfold oFAddr; cases o <;> rfl
@[go_sem] theorem oNz_succ (v : SV) (n : Nat) : oNz v (some (n + 1)) = .val True v := by simp [oNz]
@[go_sem] theorem oField_a (l : List SC) (o ft : Nat) : oField P (some (.a l)) (some (o, ft)) = loadC2 l o True (tSize P ft) (tRow P ft) := by unfold oField loadC2 loadCs; rfl
@[go_sem] theorem oField_v (cs : Array Value) (o ft : Nat) : oField P (some (.c (.v (.agg cs)))) (some (o, ft)) = loadC2 (cs.toList.map .v) o True (tSize P ft) (tRow P ft) := by unfold oField loadC2 loadCs; rfl
@[go_sem] theorem oExtract_t (i : Nat) (vs : Array Value) : oExtract i (some (.c (.v (.tuple vs)))) = oV vs[i]? := by unfold oExtract oV; rfl
@[go_sem] theorem oV_some (v : Value) : oV (some v) = .val True (.c (.v v)) := rfl
@[go_sem] theorem oBin_ints (op : BinOp) (k : IntKind) (a b : Int) : oBin2 op (some (.c (.v (.int k a)))) (some (.c (.v (.int k b)))) = oBinR (binI op k a b) := by
  simp only [oBin2, if_true]
  cases binI op k a b <;> rfl
@[go_sem] theorem oBin_strs (op : BinOp) (a b : ByteArray) : oBin2 op (some (.c (.v (.string a)))) (some (.c (.v (.string b)))) = oBinR (binS op a b) := by unfold oBin2 oBinR; rfl
@[go_sem] theorem oBinR_some (v : Value) : oBinR (some (s, v)) = .val s (.c (.v v)) := rfl
@[go_sem] theorem oUn_not (b : Bool) : oUn .not (some (.c (.v (.bool b)))) = .val True (.c (.v (.bool !b))) := rfl
@[go_sem] theorem oUn_neg (k : IntKind) (n : Int) : oUn .neg (some (.c (.v (.int k n)))) = .val (inR k (0 - n)) (.c (.v (.int k (0 - n)))) := rfl
@[go_sem] theorem oConv_u8 (k k1 : IntKind) (n : Int) : oConv (some (.c (.v (.int k n)))) (some k1) (some .u8) = .val True (.c (.v (.int .u8 (n % 256)))) := rfl
@[go_sem] theorem oConv_i64 (k k1 : IntKind) (n : Int) : oConv (some (.c (.v (.int k n)))) (some k1) (some .i64) = .val (inR .i64 n) (.c (.v (.int .i64 n))) := rfl
@[go_sem] theorem oConv_str (x : ByteArray) (k1 k2 : Option IntKind) : oConv (some (.c (.v (.string x)))) k1 k2 = .no := rfl
@[go_sem] theorem oConv_sl (a : Option Addr) (n c : Nat) (k1 k2 : Option IntKind) : oConv (some (.c (.v (.slice a n c)))) k1 k2 = .no := rfl
@[go_sem] theorem oBuild_some (z : List Value) (fs : List (Nat × Nat)) (l : List (Nat × List SC)) : oBuild (some z) (some fs) (some l) = oAgg (fillF fs (z.map .v) l) := by unfold oBuild oAgg; rfl
@[go_sem] theorem oAgg_some (cs : List SC) : oAgg (some cs) = .val True (.a cs) := rfl
@[go_sem] theorem oNil_p (id g off : Nat) : oNil (some (.c (.p id g off))) = .val True (.c (.p id g off)) := rfl
@[go_sem] theorem oNil_q (id g o r : Nat) : oNil (some (.c (.q id g o r))) = .val True (.c (.q id g o r)) := rfl
@[go_sem] theorem oFn_some (f : FuncId) (l : List (Nat × Nat × Nat)) : oFn f [] (some l) = .val True (.c (.f f l)) := rfl
@[go_sem] theorem oLen_sl (ts : Array TypeId) (a : Option Addr) (n c : Nat) : oLen P ts (some [.c (.v (.slice a n c))]) = oLenS n ((ts[0]?).bind (tSlice P)) := by unfold oLen oLenS; rfl
@[go_sem] theorem oLen_str (ts : Array TypeId) (x : ByteArray) : oLen P ts (some [.c (.v (.string x))]) = oLenT x.size ((ts[0]?).map (tStr P)) := by unfold oLen oLenT; rfl
@[go_sem] theorem oLenS_some (n t : Nat) : oLenS n (some t) = .val True (.c (.v (.int .i64 n))) := rfl
@[go_sem] theorem oLenT_true (n : Nat) : oLenT n (some true) = .val True (.c (.v (.int .i64 n))) := rfl
@[go_sem] theorem oMin_two (a b : Int) : oMin (some [.c (.v (.int .i64 a)), .c (.v (.int .i64 b))]) = .val True (.c (.v (.int .i64 (min a b)))) := rfl
@[go_sem] theorem oMax_two (a b : Int) : oMax (some [.c (.v (.int .i64 a)), .c (.v (.int .i64 b))]) = .val True (.c (.v (.int .i64 (max a b)))) := rfl
@[go_sem] theorem evs_nil : evs σ [] = some [] := rfl
def consO : Option SV → Option (List SV) → Option (List SV)
  | some v, some l => some (v :: l)
  | _, _ => none
@[go_sem] theorem evs_cons (x : Operand) (r : List Operand) : evs σ (x :: r) = consO (ev σ x) (evs σ r) := by unfold consO; rw [evs]; rfl
@[go_sem] theorem consO_some (v : SV) (l : List SV) : consO (some v) (some l) = some (v :: l) := rfl
@[go_sem] theorem capsOf_nil : capsOf [] = some [] := rfl
@[go_sem] theorem capsOf_cons (id g o : Nat) (r : List SV) : capsOf (.c (.p id g o) :: r) = (capsOf r).map ((id, g, o) :: ·) := rfl
def consP (i : Nat) : Option SV → Option (List (Nat × List SC)) → Option (List (Nat × List SC))
  | some v, some l => some ((i, v.cells) :: l)
  | _, _ => none
@[go_sem] theorem partsOf_nil : partsOf σ [] = some [] := rfl
@[go_sem] theorem partsOf_cons (i : Nat) (x : Operand) (r : List (Nat × Operand)) : partsOf σ ((i, x) :: r) = consP i (ev σ x) (partsOf σ r) := by unfold consP; rw [partsOf]; rfl
@[go_sem] theorem consP_some (i : Nat) (v : SV) (l : List (Nat × List SC)) : consP i (some v) (some l) = some ((i, v.cells) :: l) := rfl
@[go_sem] theorem fillF_nil (fs : List (Nat × Nat)) (z : List SC) : fillF fs z [] = some z := rfl
def fill1 (fs : List (Nat × Nat)) (z cs : List SC) (rest : List (Nat × List SC)) : Option (Nat × Nat) → Option (List SC)
  | some (off, n) => if cs.length = n ∧ off + n ≤ z.length then fillF fs (putCs z off cs) rest else none
  | none => none
@[go_sem] theorem fillF_cons (fs : List (Nat × Nat)) (z cs : List SC) (i : Nat) (rest : List (Nat × List SC)) : fillF fs z ((i, cs) :: rest) = fill1 fs z cs rest fs[i]? := by unfold fill1; rw [fillF]; rfl
@[go_sem] theorem fill1_some (fs : List (Nat × Nat)) (z cs : List SC) (rest : List (Nat × List SC)) (off n : Nat) : fill1 fs z cs rest (some (off, n)) = if cs.length = n ∧ off + n ≤ z.length then fillF fs (putCs z off cs) rest else none := rfl
@[go_sem] theorem cells_v (x : Value) : (SV.c (.v x)).cells = valCells x := rfl
@[go_sem] theorem cells_p (id g o : Nat) : (SV.c (.p id g o)).cells = [.p id g o] := rfl
@[go_sem] theorem cells_s (id g o l c : Nat) : (SV.c (.s id g o l c)).cells = [.s id g o l c] := rfl
@[go_sem] theorem cells_f (f : FuncId) (l : List (Nat × Nat × Nat)) : (SV.c (.f f l)).cells = [.f f l] := rfl
@[go_sem] theorem cells_q (id g o r : Nat) : (SV.c (.q id g o r)).cells = [.q id g o r] := rfl
@[go_sem] theorem cells_a (l : List SC) : (SV.a l).cells = l := rfl
@[go_sem] theorem valCells_agg (cs : Array Value) : valCells (.agg cs) = cs.toList.map .v := rfl
@[go_sem] theorem valCells_int (k : IntKind) (n : Int) : valCells (.int k n) = [.v (.int k n)] := rfl
@[go_sem] theorem valCells_bool (b : Bool) : valCells (.bool b) = [.v (.bool b)] := rfl
@[go_sem] theorem valCells_string (x : ByteArray) : valCells (.string x) = [.v (.string x)] := rfl
@[go_sem] theorem valCells_slice (a : Option Addr) (n c : Nat) : valCells (.slice a n c) = [.v (.slice a n c)] := rfl
@[go_sem] theorem valCells_func (f : Fn) (a b : Array Value) : valCells (.func f a b) = [.v (.func f a b)] := rfl
@[go_sem] theorem valCells_nilFunc : valCells .nilFunc = [.v .nilFunc] := rfl
@[go_sem] theorem valCells_map (r : Option Nat) : valCells (.map r) = [.v (.map r)] := rfl
@[go_sem] theorem valCells_pointer (r : Option Addr) : valCells (.pointer r) = [.v (.pointer r)] := rfl
@[go_sem] theorem ones_nil : ones [] = True := rfl
@[go_sem] theorem ones_v (x : Value) (r : List SC) : ones (.v x :: r) = (x.oneCell' = true ∧ ones r) := rfl
@[go_sem] theorem ones_p (id g o : Nat) (r : List SC) : ones (.p id g o :: r) = ones r := by simp [ones, SC.one]
@[go_sem] theorem ones_s (id g o l c : Nat) (r : List SC) : ones (.s id g o l c :: r) = ones r := by simp [ones, SC.one]
@[go_sem] theorem ones_f (f : FuncId) (l : List (Nat × Nat × Nat)) (r : List SC) : ones (.f f l :: r) = ones r := by simp [ones, SC.one]
@[go_sem] theorem one_int (k : IntKind) (n : Int) : (Value.int k n).oneCell' = true := rfl
@[go_sem] theorem one_bool (b : Bool) : (Value.bool b).oneCell' = true := rfl
@[go_sem] theorem one_string (x : ByteArray) : (Value.string x).oneCell' = true := rfl
@[go_sem] theorem one_slice (a : Option Addr) (n c : Nat) : (Value.slice a n c).oneCell' = true := rfl
@[go_sem] theorem one_map (r : Option Nat) : (Value.map r).oneCell' = true := rfl
@[go_sem] theorem one_pointer (r : Option Addr) : (Value.pointer r).oneCell' = true := rfl
@[go_sem] theorem one_nilFunc : Value.nilFunc.oneCell' = true := rfl
@[go_sem] theorem one_func (f : Fn) (a b : Array Value) : (Value.func f a b).oneCell' = true := rfl
variable (k : IntKind) (a b : Int)
@[go_sem] theorem binI_add : binI .add k a b = some (inR k (a + b), .int k (a + b)) := rfl
@[go_sem] theorem binI_sub : binI .sub k a b = some (inR k (a - b), .int k (a - b)) := rfl
@[go_sem] theorem binI_mul : binI .mul k a b = some (inR k (a * b), .int k (a * b)) := rfl
@[go_sem] theorem binI_quo : binI .quo k a b = some (1 ≤ b ∧ inR k a ∧ k = .i64, .int k (a.tdiv b)) := rfl
@[go_sem] theorem binI_rem : binI .rem k a b = some (0 ≤ a ∧ 1 ≤ b, .int k (a % b)) := rfl
@[go_sem] theorem binI_eql : binI .eql k a b = some (True, .bool (decide (a = b))) := rfl
@[go_sem] theorem binI_neq : binI .neq k a b = some (True, .bool (!decide (a = b))) := rfl
@[go_sem] theorem binI_lss : binI .lss k a b = some (True, .bool (decide (a < b))) := rfl
@[go_sem] theorem binI_leq : binI .leq k a b = some (True, .bool (decide (a ≤ b))) := rfl
@[go_sem] theorem binI_gtr : binI .gtr k a b = some (True, .bool (decide (b < a))) := rfl
@[go_sem] theorem binI_geq : binI .geq k a b = some (True, .bool (decide (b ≤ a))) := rfl
@[go_sem] theorem inR_i64 : inR .i64 a = (-9223372036854775808 ≤ a ∧ a ≤ 9223372036854775807) := rfl
@[go_sem] theorem inR_u8 : inR .u8 a = (0 ≤ a ∧ a ≤ 255) := rfl
end
def oInt : Option SV → Option Int
  | some (.c (.v (.int _ n))) => some n
  | _ => none
def oLit2 (e : TypeId) (n : Nat) : Option (List SC) → Out
  | some cs => .new e cs (some n)
  | none => .no
section
variable (P : Program) (σ : St)
@[go_sem] theorem oCut_str (t : TypeId) (s : ByteArray) (lo hi : Option Operand) : oCut P t σ lo hi none (some (.c (.v (.string s)))) = oCut2 s (tStr P t) (ivOf σ lo 0) (ivOf σ hi s.size) := rfl
@[go_sem] theorem oCut_sl (t : TypeId) (a : Option Addr) (n c : Nat) (lo hi mx : Option Operand) : oCut P t σ lo hi mx (some (.c (.v (.slice a n c)))) = .no := rfl
@[go_sem] theorem oCut_own (t id g o n c : Nat) (lo hi mx : Option Operand) : oCut P t σ lo hi mx (some (.c (.s id g o n c))) = .no := rfl
@[go_sem] theorem oCut2_true (s : ByteArray) (l h : Int) : oCut2 s true (some l) (some h) = .val (0 ≤ l ∧ l ≤ h ∧ h ≤ s.size) (.c (.v (.string (s.extract l.toNat h.toNat)))) := rfl
@[go_sem] theorem ivOf_none (d : Int) : ivOf σ none d = some d := rfl
@[go_sem] theorem ivOf_some (x : Operand) (d : Int) : ivOf σ (some x) d = oInt (ev σ x) := by unfold ivOf oInt; rfl
@[go_sem] theorem oInt_int (k : IntKind) (n : Int) : oInt (some (.c (.v (.int k n)))) = some n := rfl
@[go_sem] theorem oLit_some (k e n : Nat) (z : List Value) (l : List (Nat × List SC)) : oLit (some k) (some e) (some z) n (some l) = if l.length = n ∧ n * k ≤ 16777216 ∧ z.length = k then oLit2 e n (catP k 0 l) else .no := by unfold oLit oLit2; rfl
@[go_sem] theorem oLit2_some (e n : Nat) (cs : List SC) : oLit2 e n (some cs) = .new e cs (some n) := rfl
@[go_sem] theorem catP_nil (k i : Nat) : catP k i [] = some [] := rfl
@[go_sem] theorem catP_cons (k i j : Nat) (cs : List SC) (r : List (Nat × List SC)) : catP k i ((j, cs) :: r) = if i = j ∧ cs.length = k then (catP k (i + 1) r).map (cs ++ ·) else none := rfl
variable (a b : ByteArray)
@[go_sem] theorem binS_add : binS .add a b = some ((a.size : Int) + b.size ≤ 9223372036854775807, .string (a ++ b)) := rfl
@[go_sem] theorem binS_eql : binS .eql a b = some (True, .bool (a.toList == b.toList)) := rfl
@[go_sem] theorem binS_neq : binS .neq a b = some (True, .bool (!(a.toList == b.toList))) := rfl
@[go_sem] theorem binS_lss : binS .lss a b = some (True, .bool (Op.bytesLess a.toList b.toList)) := rfl
@[go_sem] theorem binS_gtr : binS .gtr a b = some (True, .bool (!(Op.bytesLess a.toList b.toList || a.toList == b.toList))) := rfl
@[go_sem] theorem binS_leq : binS .leq a b = some (True, .bool (Op.bytesLess a.toList b.toList || a.toList == b.toList)) := rfl
@[go_sem] theorem binS_geq : binS .geq a b = some (True, .bool (!Op.bytesLess a.toList b.toList)) := rfl
@[go_sem] theorem oConv_own (id g o n c : Nat) (k1 k2 : Option IntKind) : oConv (some (.c (.s id g o n c))) k1 k2 = .no := rfl
end
@[go_sem] theorem sx_app_nil {α : Type} (l : List α) : [] ++ l = l := rfl
@[go_sem] theorem sx_app_cons {α : Type} (x : α) (l m : List α) : (x :: l) ++ m = x :: (l ++ m) := rfl
/-! ### small rules of lists, options, ifs -/
section
variable {α β : Type}
@[go_sem] theorem sx_ite_true (x y : α) : (if True then x else y) = x := if_pos trivial
@[go_sem] theorem sx_ite_false (x y : α) : (if False then x else y) = y := if_neg id
@[go_sem] theorem sx_ite_prop_true (x y : Prop) : (if True then x else y) = x := if_pos trivial
@[go_sem] theorem sx_ite_prop_false (x y : Prop) : (if False then x else y) = y := if_neg id
@[go_sem] theorem sx_true_and (p : Prop) : (True ∧ p) = p := true_and p
@[go_sem] theorem sx_and_true (p : Prop) : (p ∧ True) = p := and_true p
@[go_sem] theorem sx_eq (x : α) : (x = x) = True := eq_self x
@[go_sem] theorem sx_map_nil (f : α → β) : List.map f [] = [] := rfl
@[go_sem] theorem sx_map_cons (f : α → β) (x : α) (l : List α) : List.map f (x :: l) = f x :: List.map f l := rfl
@[go_sem] theorem sx_len_nil : ([] : List α).length = 0 := rfl
@[go_sem] theorem sx_len_cons (x : α) (l : List α) : (x :: l).length = l.length + 1 := rfl
@[go_sem] theorem sx_drop_zero (l : List α) : List.drop 0 l = l := rfl
@[go_sem] theorem sx_drop_succ (n : Nat) (x : α) (l : List α) : List.drop (n + 1) (x :: l) = List.drop n l := rfl
@[go_sem] theorem sx_take_zero (l : List α) : List.take 0 l = [] := rfl
@[go_sem] theorem sx_take_succ (n : Nat) (x : α) (l : List α) : List.take (n + 1) (x :: l) = x :: List.take n l := rfl
@[go_sem] theorem sx_at_zero (x : α) (l : List α) : (x :: l)[0]? = some x := rfl
@[go_sem] theorem sx_at_succ (n : Nat) (x : α) (l : List α) : (x :: l)[n + 1]? = l[n]? := rfl
@[go_sem] theorem sx_arr_at (l : List α) (n : Nat) : (List.toArray l)[n]? = l[n]? := by simp
@[go_sem] theorem sx_toList (l : List α) : (List.toArray l).toList = l := rfl
@[go_sem] theorem sx_arr_size (l : List α) : (List.toArray l).size = l.length := by simp
@[go_sem] theorem sx_omap_some (f : α → β) (x : α) : Option.map f (some x) = some (f x) := rfl
@[go_sem] theorem sx_obind_some (f : α → Option β) (x : α) : Option.bind (some x) f = f x := rfl
@[go_sem] theorem sx_all_nil (p : α → Prop) : (∀ x ∈ ([] : List α), p x) = True := by simp
@[go_sem] theorem sx_all_cons (p : α → Prop) (y : α) (l : List α) : (∀ x ∈ y :: l, p x) = (p y ∧ ∀ x ∈ l, p x) := by simp
@[go_sem] theorem sx_mem_cons (x y : α) (l : List α) : (x ∈ y :: l) = (x = y ∨ x ∈ l) := by simp
@[go_sem] theorem sx_mem_nil (x : α) : (x ∈ ([] : List α)) = False := by simp
@[go_sem] theorem sx_true_or (p : Prop) : (True ∨ p) = True := true_or p
@[go_sem] theorem sx_or_true (p : Prop) : (p ∨ True) = True := or_true p
@[go_sem] theorem sx_sub_nil (l : List α) : List.Sublist [] l = True := by simp
@[go_sem] theorem sx_sub_cons (x : α) (l m : List α) : List.Sublist (x :: l) (x :: m) = List.Sublist l m := by simp
@[go_sem] theorem sx_filter_nil (p : α → Bool) : List.filter p [] = [] := rfl
@[go_sem] theorem sx_filter_cons (p : α → Bool) (x : α) (l : List α) : List.filter p (x :: l) = cond (p x) (x :: List.filter p l) (List.filter p l) := by
  rw [List.filter_cons]; cases p x <;> rfl
@[go_sem] theorem sx_contains_nil (x : Nat) : List.contains ([] : List Nat) x = false := rfl
@[go_sem] theorem sx_contains_cons (x y : Nat) (l : List Nat) : List.contains (y :: l) x = (x == y || List.contains l x) := rfl
@[go_sem] theorem sx_true_bor (b : Bool) : (true || b) = true := rfl
@[go_sem] theorem sx_false_bor (b : Bool) : (false || b) = b := rfl
@[go_sem] theorem sx_cond_true {γ : Type} (x y : γ) : cond true x y = x := rfl
@[go_sem] theorem sx_cond_false {γ : Type} (x y : γ) : cond false x y = y := rfl
theorem Wb_mk {t : Bool} {x y : Prop} (h1 : t = true → x) (h2 : t = false → y) : Wb t x y := ⟨h1, h2⟩
@[go_sem] theorem gTmp_def (ops : Array Oper) (j : Nat) : gTmp ops j = (ops[j]?).bind (·.dst) := rfl
end
end Go.Proofs.Ytomfladifefomaa
