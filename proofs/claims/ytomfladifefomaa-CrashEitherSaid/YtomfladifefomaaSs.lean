/- The walk's steps as rules of the simp set go_sem. Names no program. Conditions: as each law states them. -/
import Derived.Test.YtomfladifefomaaSr
namespace Go.Proofs.Ytomfladifefomaa
open Go.RowKit
/-- the branches of what is not known yet are not walked -/
@[congr] theorem Wb_congr {t t' : Bool} {x y : Prop} (h : t = t') : Wb t x y = Wb t' x y := by rw [h]
@[congr] theorem Ok_congr {E : Env} {σ σ' : St} {Φ : Act → World → Prop} (h : σ = σ') : Ok E σ Φ = Ok E σ' Φ := by rw [h]
def NoId (id : Nat) : List Bl → Prop
  | [] => True
  | b :: r => b.id ≠ id ∧ NoId id r
theorem noId_iff (id : Nat) (l : List Bl) : NoId id l = ∀ b ∈ l, b.id ≠ id := by
  induction l with
  | nil => simp [NoId]
  | cons x r ih => simp [NoId, ih]
@[go_sem] theorem noId_nil (id : Nat) : NoId id [] = True := rfl
@[go_sem] theorem noId_cons (id i g t : Nat) (cs : List SC) (r : List Bl) : NoId id (⟨i, g, t, cs⟩ :: r) = (i ≠ id ∧ NoId id r) := rfl
section
variable (P : Program) (E : Env) (n : Nat) (k : Cont) (σ : St)
@[go_sem] theorem W_skip : W P E (n + 1) k (.code .skip) σ = W P E n k .norm σ := rfl
@[go_sem] theorem W_seq (x y : Code) : W P E (n + 1) k (.code (.seq x y)) σ = W P E n (.seq y k) (.code x) σ := rfl
@[go_sem] theorem W_region (id : Nat) (ops : Array Oper) : W P E (n + 1) k (.code (.region id ops false)) σ = W P E n k (.ops ops ops.toList) σ := rfl
@[go_sem] theorem W_cond (c : Operand) (x y : Code) : W P E (n + 1) k (.code (.cond c x y)) σ = Wc P E (W P E n k) k c x y σ (ev σ c) := rfl
@[go_sem] theorem W_block (id : Nat) (c : Code) : W P E (n + 1) k (.code (.block id c)) σ = W P E n (.block id k) (.code c) σ := rfl
@[go_sem] theorem W_exitc (id : Nat) : W P E (n + 1) k (.code (.exit id)) σ = W P E n k (.exit id) σ := rfl
@[go_sem] theorem W_retc : W P E (n + 1) k (.code .ret) σ = W P E n k .ret σ := rfl
@[go_sem] theorem W_draw (id : Nat) (ops : Array Oper) : W P E (n + 1) k (.code (.region id ops true)) σ = Ok E σ (sem P k (.code (.region id ops true))) := rfl
@[go_sem] theorem W_loop (c : Code) : W P E (n + 1) k (.code (.loop c)) σ = Ok E σ (sem P k (.code (.loop c))) := rfl
@[go_sem] theorem W_norm_base (Q : Exit → Act → World → Prop) : W P E (n + 1) (.base Q) .norm σ = Ok E σ (Q .normal) := rfl
@[go_sem] theorem W_norm_seq (y : Code) : W P E (n + 1) (.seq y k) .norm σ = W P E n k (.code y) σ := rfl
@[go_sem] theorem W_norm_block (id : Nat) : W P E (n + 1) (.block id k) .norm σ = W P E n k .norm σ := rfl
@[go_sem] theorem W_norm_inv (J : Act → World → Prop) : W P E (n + 1) (.inv J k) .norm σ = Ok E σ J := rfl
@[go_sem] theorem W_exit_inv (id : Nat) (J : Act → World → Prop) : W P E (n + 1) (.inv J k) (.exit id) σ = W P E n k (.exit id) σ := rfl
@[go_sem] theorem W_ret_inv (J : Act → World → Prop) : W P E (n + 1) (.inv J k) .ret σ = W P E n k .ret σ := rfl
@[go_sem] theorem W_exit_base (id : Nat) (Q : Exit → Act → World → Prop) : W P E (n + 1) (.base Q) (.exit id) σ = Ok E σ (Q (.exit id)) := rfl
@[go_sem] theorem W_exit_seq (id : Nat) (y : Code) : W P E (n + 1) (.seq y k) (.exit id) σ = W P E n k (.exit id) σ := rfl
@[go_sem] theorem W_exit_block (id id' : Nat) : W P E (n + 1) (.block id' k) (.exit id) σ = if id = id' then W P E n k .norm σ else W P E n k (.exit id) σ := rfl
@[go_sem] theorem W_ret_base (Q : Exit → Act → World → Prop) : W P E (n + 1) (.base Q) .ret σ = Ok E σ (Q .ret) := rfl
@[go_sem] theorem W_ret_seq (y : Code) : W P E (n + 1) (.seq y k) .ret σ = W P E n k .ret σ := rfl
@[go_sem] theorem W_ret_block (id : Nat) : W P E (n + 1) (.block id k) .ret σ = W P E n k .ret σ := rfl
@[go_sem] theorem W_ops (ops : Array Oper) (l : List Oper) : W P E (n + 1) k (.ops ops l) σ = WoL P E (W P E n k) k ops σ l := by cases k <;> rfl
@[go_sem] theorem W_done (ops : Array Oper) (B : List Bl) (V : List Vw) (f : Nat) (listed : Array Bool) : W P E (n + 1) k (.any ops B V f listed .done) σ = W P E n k .norm σ := by cases k <;> rfl
@[go_sem] theorem W_take (ops : Array Oper) (B : List Bl) (V : List Vw) (f : Nat) (listed : Array Bool) (i : Nat) (p : Plan) : W P E (n + 1) k (.any ops B V (f + 1) listed (.take i p)) σ = WtO P E (W P E n k) ⟨ops, B, V, f, listed⟩ i p σ ops[i]? := by cases k <;> rfl
@[go_sem] theorem W_alt (ops : Array Oper) (B : List Bl) (V : List Vw) (f : Nat) (listed : Array Bool) (i : Nat) (p r : Plan) : W P E (n + 1) k (.any ops B V (f + 1) listed (.alt i p r)) σ = W P E n k (.alts ops B V f listed (.alt i p r)) σ := by cases k <;> rfl
@[go_sem] theorem W_alts (ops : Array Oper) (B : List Bl) (V : List Vw) (f : Nat) (listed : Array Bool) (i : Nat) (p r : Plan) : W P E (n + 1) k (.alts ops B V f listed (.alt i p r)) σ = (WxO P E (W P E n k) k ⟨ops, B, V, f, listed⟩ i p σ ops[i]? ∧ W P E n k (.alts ops B V f listed r) σ) := by cases k <;> rfl
@[go_sem] theorem W_last (ops : Array Oper) (B : List Bl) (V : List Vw) (f : Nat) (listed : Array Bool) : W P E (n + 1) k (.alts ops B V f listed .last) σ = True := by cases k <;> rfl
variable (rec_ : Cmd → St → Prop) (ops : Array Oper) (rest : List Oper) (o : Oper)
@[go_sem] theorem Wc_bool (c : Operand) (x y : Code) (t : Bool) : Wc P E rec_ k c x y σ (some (.c (.v (.bool t)))) = Wb t (rec_ (.code x) (σ.know c true)) (rec_ (.code y) (σ.know c false)) := rfl
@[go_sem] theorem Wb_true (x y : Prop) : Wb true x y = x := by simp [Wb]
@[go_sem] theorem Wb_false (x y : Prop) : Wb false x y = y := by simp [Wb]
@[go_sem] theorem Wo_val (s : Prop) (v : SV) : Wo P E rec_ k ops rest o σ (.val s v) = (dOk E o.dst ∧ s ∧ rec_ (.ops ops rest) (σ.put o.dst v)) := rfl
@[go_sem] theorem Wo_new (t : TypeId) (cs : List SC) (m : Option Nat) : Wo P E rec_ k ops rest o σ (.new t cs m) = (dOk E o.dst ∧ ∀ g, rec_ (.ops ops rest) ((σ.add g t cs).put o.dst (mkS m σ.next g))) := rfl
@[go_sem] theorem Wo_put (s : Prop) (id off : Nat) (cs : List SC) : Wo P E rec_ k ops rest o σ (.put s id off cs) = (dOk E o.dst ∧ s ∧ rec_ (.ops ops rest) ((σ.set id off cs).put o.dst (.c (.v undef)))) := rfl
@[go_sem] theorem Wo_no : Wo P E rec_ k ops rest o σ .no = Ok E σ (wpList P ops (k.den P) (o :: rest)) := rfl
@[go_sem] theorem Wg_some (want b : Bool) : Wg P E rec_ k ops rest o σ want (some b) = Wb (b == want) (Wo P E rec_ k ops rest o σ (stepO P o σ)) (dOk E o.dst ∧ rec_ (.ops ops rest) (σ.put o.dst (.c (.v undef)))) := rfl
@[go_sem] theorem WoL_nil : WoL P E rec_ k ops σ [] = rec_ .norm σ := rfl
@[go_sem] theorem WoL_none (d : Option Tmp) (op : Op) (t : TypeId) (p : String) (af : Array Edge) : WoL P E rec_ k ops σ (⟨d, op, t, p, af, none⟩ :: rest) = Wo P E rec_ k ops rest ⟨d, op, t, p, af, none⟩ σ (stepO P ⟨d, op, t, p, af, none⟩ σ) := rfl
@[go_sem] theorem WoL_some (d : Option Tmp) (op : Op) (t : TypeId) (p : String) (af : Array Edge) (j : Nat) (want : Bool) : WoL P E rec_ k ops σ (⟨d, op, t, p, af, some (j, want)⟩ :: rest) = Wg P E rec_ k ops rest ⟨d, op, t, p, af, some (j, want)⟩ σ want (gVal ops σ j) := rfl
variable (dr : Dr) (i : Nat) (p : Plan)
@[go_sem] theorem WtO_none (d : Option Tmp) (op : Op) (t : TypeId) (ps : String) (af : Array Edge) : WtO P E rec_ dr i p σ (some ⟨d, op, t, ps, af, none⟩) = Wt E rec_ dr i p ⟨d, op, t, ps, af, none⟩ σ (stepO P ⟨d, op, t, ps, af, none⟩ { σ with blks := dr.B, views := dr.V }) := rfl
@[go_sem] theorem WtO_some (d : Option Tmp) (op : Op) (t : TypeId) (ps : String) (af : Array Edge) (j : Nat) (want : Bool) : WtO P E rec_ dr i p σ (some ⟨d, op, t, ps, af, some (j, want)⟩) = Wh P E rec_ dr i p ⟨d, op, t, ps, af, some (j, want)⟩ σ want (gVal dr.ops σ j) := rfl
@[go_sem] theorem Wt_val (s : Prop) (v : SV) : Wt E rec_ dr i p o σ (.val s v) = (dOk E o.dst ∧ s ∧ rec_ (dr.next i p) (σ.put o.dst v)) := rfl
@[go_sem] theorem Wh_some (want b : Bool) : Wh P E rec_ dr i p o σ want (some b) = Wb (b == want) (Wt E rec_ dr i p o σ (stepO P o { σ with blks := dr.B, views := dr.V })) (dOk E o.dst ∧ rec_ (dr.next i p) (σ.put o.dst (.c (.v undef)))) := rfl
@[go_sem] theorem WxO_none (d : Option Tmp) (op : Op) (t : TypeId) (ps : String) (af : Array Edge) : WxO P E rec_ k dr i p σ (some ⟨d, op, t, ps, af, none⟩) = Wx P E rec_ k dr i p ⟨d, op, t, ps, af, none⟩ σ (stepO P ⟨d, op, t, ps, af, none⟩ σ) := rfl
@[go_sem] theorem WxO_some (d : Option Tmp) (op : Op) (t : TypeId) (ps : String) (af : Array Edge) (j : Nat) (want : Bool) : WxO P E rec_ k dr i p σ (some ⟨d, op, t, ps, af, some (j, want)⟩) = Wy P E rec_ k dr i p ⟨d, op, t, ps, af, some (j, want)⟩ σ want (gVal dr.ops σ j) := rfl
@[go_sem] theorem Wx_val (s : Prop) (v : SV) : Wx P E rec_ k dr i p o σ (.val s v) = (dOk E o.dst ∧ s ∧ rec_ (dr.next i p) (σ.put o.dst v)) := rfl
@[go_sem] theorem Wx_new (t : TypeId) (cs : List SC) (m : Option Nat) : Wx P E rec_ k dr i p o σ (.new t cs m) = (dOk E o.dst ∧ ∀ g, rec_ (dr.next i p) ((σ.add g t cs).put o.dst (mkS m σ.next g))) := rfl
@[go_sem] theorem Wx_put (s : Prop) (id off : Nat) (cs : List SC) : Wx P E rec_ k dr i p o σ (.put s id off cs) = (dOk E o.dst ∧ NoId id dr.B ∧ s ∧ rec_ (dr.next i p) ((σ.set id off cs).put o.dst (.c (.v undef)))) := by
  show (_ ∧ _ ∧ _ ∧ _) = _
  rw [noId_iff]
@[go_sem] theorem Wx_no : Wx P E rec_ k dr i p o σ .no = AnyStop P E k dr.ops dr.B dr.V dr.f dr.listed i p o σ := rfl
@[go_sem] theorem Wy_some (want b : Bool) : Wy P E rec_ k dr i p o σ want (some b) = Wb (b == want) (Wx P E rec_ k dr i p o σ (stepO P o σ)) (dOk E o.dst ∧ rec_ (dr.next i p) (σ.put o.dst (.c (.v undef)))) := rfl
@[go_sem] theorem Dr_next (B : List Bl) (V : List Vw) (f : Nat) (l : Array Bool) : (Dr.mk ops B V f l).next i p = .any ops B V f (l.setIfInBounds i true) p := rfl
@[go_sem] theorem dOk_some (t : Nat) : dOk E (some t) = (t < E.n) := rfl
@[go_sem] theorem dOk_none : dOk E none = True := rfl
end
/-! ### the state -/
section
variable (T : List (Nat × SV)) (B : List Bl) (R : List Rw) (V : List Vw) (S : List GW) (n : Nat)
@[go_sem] theorem put_some (d : Nat) (v : SV) : (St.mk T B R V S n).put (some d) v = ⟨(d, v) :: T, B, R, V, S, n⟩ := rfl
@[go_sem] theorem put_none (v : SV) : (St.mk T B R V S n).put none v = ⟨T, B, R, V, S, n⟩ := rfl
@[go_sem] theorem add_mk (g : Nat) (t : TypeId) (cs : List SC) : (St.mk T B R V S n).add g t cs = ⟨T, ⟨n, g, t, cs⟩ :: B, R, V, S, n + 1⟩ := rfl
@[go_sem] theorem set_mk (id off : Nat) (cs : List SC) : (St.mk T B R V S n).set id off cs = ⟨T, putBl B id off cs, R, V, S, n⟩ := rfl
@[go_sem] theorem seen_mk (G : GW) : (St.mk T B R V S n).seen G = ⟨T, B, R, V, G :: S, n⟩ := rfl
@[go_sem] theorem know_tmp (t : Nat) (b : Bool) : (St.mk T B R V S n).know (.tmp t) b = ⟨(t, .c (.v (.bool b))) :: T, B, R, V, S, n⟩ := rfl
@[go_sem] theorem know_const (v : Value) (b : Bool) : (St.mk T B R V S n).know (.const v) b = ⟨T, B, R, V, S, n⟩ := rfl
@[go_sem] theorem ev_tmp (t : Nat) : ev (St.mk T B R V S n) (.tmp t) = look T t := rfl
@[go_sem] theorem ev_const (σ : St) (v : Value) : ev σ (.const v) = some (.c (.v v)) := rfl
@[go_sem] theorem ev_func (σ : St) (f : Nat) : ev σ (.func f) = some (.c (.f f [])) := rfl
@[go_sem] theorem look_cons (t u : Nat) (v : SV) (l : List (Nat × SV)) : look ((t, v) :: l) u = if t = u then some v else look l u := rfl
@[go_sem] theorem start_mk (G : GW) (args : List Value) : start G args = ⟨initT 0 args, [], [], [], [G], 0⟩ := rfl
@[go_sem] theorem initT_cons (i : Nat) (v : Value) (r : List Value) : initT i (v :: r) = (i, .c (.v v)) :: initT (i + 1) r := rfl
@[go_sem] theorem initT_nil (i : Nat) : initT i [] = [] := rfl
@[go_sem] theorem getBl_cons (i g : Nat) (t : TypeId) (cs : List SC) (r : List Bl) (id : Nat) : getBl (⟨i, g, t, cs⟩ :: r) id = if i = id then some ⟨i, g, t, cs⟩ else getBl r id := rfl
@[go_sem] theorem putBl_cons (i g : Nat) (t : TypeId) (cs : List SC) (r : List Bl) (id off : Nat) (c : List SC) : putBl (⟨i, g, t, cs⟩ :: r) id off c = if i = id then ⟨i, g, t, putCs cs off c⟩ :: r else ⟨i, g, t, cs⟩ :: putBl r id off c := rfl
@[go_sem] theorem putCs_nil (o : Nat) (c : List SC) : putCs [] o c = [] := by cases o <;> rfl
@[go_sem] theorem putCs_zero (x c : SC) (r cs : List SC) : putCs (x :: r) 0 (c :: cs) = c :: putCs r 0 cs := rfl
@[go_sem] theorem putCs_zero_nil (x : SC) (r : List SC) : putCs (x :: r) 0 [] = x :: r := rfl
@[go_sem] theorem putCs_succ (x : SC) (r cs : List SC) (o : Nat) : putCs (x :: r) (o + 1) cs = x :: putCs r o cs := rfl
@[go_sem] theorem getVw_cons (i g o : Nat) (cs : List Value) (r : List Vw) (id : Nat) : getVw (⟨i, g, o, cs⟩ :: r) id = if i = id then some ⟨i, g, o, cs⟩ else getVw r id := rfl
@[go_sem] theorem mkS_none (id g : Nat) : mkS none id g = .c (.p id g 0) := rfl
@[go_sem] theorem mkS_some (m id g : Nat) : mkS (some m) id g = .c (.s id g 0 m m) := rfl
@[go_sem] theorem gVal_def (ops : Array Oper) (σ : St) (j : Nat) : gVal ops σ j = gV2 ((gTmp ops j).bind (look σ.tmps)) := rfl
end
@[go_sem] theorem gV2_bool (b : Bool) : gV2 (some (.c (.v (.bool b)))) = some b := rfl
end Go.Proofs.Ytomfladifefomaa
