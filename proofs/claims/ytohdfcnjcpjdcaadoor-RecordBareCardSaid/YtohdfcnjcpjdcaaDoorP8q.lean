/- A slice and nil; append to a literal without elements: a row of the call's own. Names no program. Conditions: as each law states them. -/
import Derived.Test.YtohdfcnjcpjdcaaDoorP7q
namespace Go.Proofs.YtohdfcnjcpjdcaaDoor
open Go.RowKit
set_option linter.unusedSimpArgs false
section
variable {P : Program} {E : Env} {σ : St} {o : Oper}
/-- is a slice nil? -/
theorem nilcmp_does {ty t2 e : TypeId} {x y : Operand} {A : Option Addr} {n c : Nat} (ho : o.op = .binOp .eql ty x y t2) (ht : tSlice P ty = some e) (hx : ev σ x = some (.c (.v (.slice A n c)))) (hy : ev σ y = some (.c (.v (.slice none 0 0)))) (hd : dOk E o.dst)
    (hg : ∀ w, (eqGuard .eql ty x y (.slice A n c) (.slice none 0 0)).run P w = .ok () w) :
    Does P E σ o (fun σ' => σ' = σ.put o.dst (.c (.v (.bool A.isNone)))) := by
  intro ac w Q next hr hn
  have hx' : ac.eval x = .slice A n c := ev_den hr.see hx
  have hy' : ac.eval y = .slice none 0 0 := ev_den hr.see hy
  have hb : (binOp .eql ty (.slice A n c) (.slice none 0 0)).run P w = .ok (.bool A.isNone) w := by
    simp only [binOp]
    rw [Sem.run_bind, run_equal_slice_nil w ty e A n c (tSlice_spec ht)]
    rfl
  have hrun : (execOp ac.eval o).run P w = .ok (.value (.bool A.isNone)) w := by
    unfold execOp
    simp only [ho, hx', hy', hg, hb, Sem.run_bind, Sem.run_pure, Result.andThen_ok]
  exact wp_of_value hrun (hn _ _ _ rfl (hr.put o.dst (.c (.v _)) (dOk_lt hd)))
/-- append to a literal that has no elements -/
theorem litRow_append_does {s x : Operand} {t e kc by_ m cx : Nat} {Ax : Option Addr} {news : List Value} {B1 B2 : List Bl} {b : Bl} (ho : o.op = .call ⟨.builtin .append, #[s, x], #[t, t]⟩) (ht : tSlice P t = some e) (ha : tApp P e = some (kc, by_))
    (hB : σ.blks = B1 ++ b :: B2) (hbt : b.t = e) (hbl : b.cs = []) (hs : ev σ s = some (.c (.s b.id b.g 0 0 0))) {xv : SV} (hx : ev σ x = some xv) (hxv : xv.den = .slice Ax m cx) (hd : dOk E o.dst) (h1 : ∀ u ∈ news, u.oneCell' = true)
    (h63 : m ≤ maxLen) (hb : m * by_ ≤ 140737488355328) (hn : ∀ G : GW, (∀ s ∈ σ.snaps, s.Le G) → TSl G.w e kc m (.slice Ax m cx) news) :
    Does P E σ o (fun σ' => ∃ A c, σ' = (St.put { σ with blks := B1 ++ B2, rows := ⟨.slice A m c, e, kc, m, news⟩ :: σ.rows } o.dst (.c (.v (.slice A m c))))) := by
  intro a w Q next hr hnx
  have hs' : a.eval s = .slice (some ⟨b.g, 0, none⟩) 0 0 := ev_den hr.see hs
  have hx' : a.eval x = .slice Ax m cx := (ev_den hr.see hx).trans hxv
  refine blkRowN_ok (Φ := fun a' w' => a' = a → w' = w → o.wp P a w next Q) hB kc 0 0 (by rw [hbl, Nat.zero_mul]; rfl) (by omega) (by omega) ?_ a w hr rfl rfl
  rintro a' w' hr2 rfl rfl
  obtain ⟨i, z, hi, hz, hk, hby, hzs, h0⟩ := tApp_spec ha
  have hrow := hr2.rows _ List.mem_cons_self
  rw [hbt, hbl] at hrow
  obtain ⟨A', c', w2, hrun, hown, hg, hat⟩ := run_append_row (P := P) w' t o.type e i z kc by_ (tSlice_spec ht) hi hz hk hby hzs h0 _ 0 _ hrow.is Ax m cx news (hn _ hr2.snaps) h1 (by omega) (by rw [Nat.zero_add]; exact hb)
  simp only [Nat.zero_add, Nat.zero_mul, List.take_zero, List.nil_append] at hown hg hat hrun
  unfold Oper.wp execOp
  simp only [ho, resolve, invoke, builtin, Sem.run_bind, Sem.run_pure, Result.andThen_ok, List.map_toArray, List.map_cons, List.map_nil, hs', hx', hrun]
  have hr3 := hr2.grow (R1 := []) (r' := ⟨.slice A' m c', e, kc, m, news⟩) rfl hg hown hat
  exact hnx _ _ _ ⟨A', c', rfl⟩ (hr3.put o.dst (.c (.v (.slice A' m c'))) (dOk_lt hd))
theorem cap_does {t e : TypeId} {x : Operand} {A : Option Addr} {n c : Nat} (ho : o.op = .call ⟨.builtin .cap, #[x], #[t]⟩) (ht : tSlice P t = some e) (hx : ev σ x = some (.c (.v (.slice A n c)))) (hd : dOk E o.dst) :
    Does P E σ o (fun σ' => σ' = σ.put o.dst (.c (.v (.int .i64 (c : Int))))) := by
  intro ac w Q next hr hn
  have hx' : ac.eval x = .slice A n c := ev_den hr.see hx
  have hrun : (execOp ac.eval o).run P w = .ok (.value (.int .i64 (c : Int))) w := by
    unfold execOp
    simp [ho, resolve, hx', invoke, builtin, Builtin.cap_, run_underlying (tSlice_spec ht), goInt]
  exact wp_of_value hrun (hn _ _ _ rfl (hr.put o.dst (.c (.v _)) (dOk_lt hd)))
end
/-- behind a piece of code the states are among these: what comes is gone through once -/
theorem cut_code {ι : Type} {P : Program} {E : Env} {k : Cont} {N : Nat} {c : Code} {σ : St} (σI : ι → St) (C : ι → Prop) (hk : k.ok) (h1 : ∀ i, C i → W P E N k .norm (σI i))
    (h2 : Ok E σ (sem P (.inv (Again E σI C (fun _ => 0) 1) k) (.code c))) : Ok E σ (sem P k (.code c)) := fun a w hr =>
  Code.wp_mono (fun e a w h => by
    cases e with
    | normal =>
      obtain ⟨i, ⟨hC, hr⟩, _⟩ := (h : Again E σI C (fun _ => 0) 1 a w)
      exact W_sound N k .norm (σI i) hk (h1 i hC) trivial a w hr
    | _ => exact h) (h2 a w hr)
/-- the same, with all that comes behind out of sight -/
theorem cut_code2 {ι : Type} {P : Program} {E : Env} {k : Cont} {N : Nat} {c : Code} {σ : St} (σI : ι → St) (C : ι → Prop) (hk : k.ok) (h1 : ∀ i, C i → W P E N k .norm (σI i))
    (h2 : ∀ (k' : Cont) (J : Act → World → Prop), k'.ok → (∀ (i : ι) (τ : St), C i → Sub τ (σI i) → Ok E τ J) → Ok E σ (sem P (.inv J k') (.code c))) : Ok E σ (sem P k (.code c)) :=
  cut_code σI C hk h1 (h2 k _ hk fun i _ hC hs => again_ok i hC (by decide) hs)
end Go.Proofs.YtohdfcnjcpjdcaaDoor
