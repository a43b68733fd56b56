/- Calls of functions that are values; maps of the call's own. Names no program. Conditions: as each law states them. -/
import Derived.Test.YtohdfcnjcpjdcaaDoorP5q
import Derived.Maps.Keyed
namespace Go.Proofs.YtohdfcnjcpjdcaaDoor
open Go.RowKit
set_option linter.unusedSimpArgs false
section
variable {P : Program} {E : Env} {σ : St} {o : Oper} {a : Act} {w : World}
theorem run_callD {c : Call} {f : FuncId} {vs : List SV} {x : Operand} {fv : SV} {caps : Array Value} (ho : o.op = .call c) (hcal : c.callee = .value x) (hx : ev σ x = some fv) (hfv : fv.den = .func (.func f) #[] caps) (hev : evs σ c.args.toList = some vs) (hf : isFn P f = true) (hr : See σ a w) :
    (execOp a.eval o).run P w = .ok (.enter f ((vs.map SV.den).toArray ++ caps)) w := by
  have h1 := evs_args hr hev
  have h2 : a.eval x = .func (.func f) #[] caps := (ev_den hr hx).trans hfv
  unfold execOp
  simp only [ho, resolve, hcal, h1, h2, Deferred.ofValue, Sem.run_bind, Sem.run_pure, Result.andThen_ok, invoke, Array.empty_append, run_enter hf]
/-- a call of a function that is a value, by its contract -/
theorem callD_does {c : Call} {f : FuncId} {vs : List SV} {x : Operand} {fv : SV} {caps : Array Value} (T : Value → GW → Prop) (ho : o.op = .call c) (hcal : c.callee = .value x) (hx : ev σ x = some fv) (hfv : fv.den = .func (.func f) #[] caps) (hf : isFn P f = true)
    (hev : evs σ c.args.toList = some vs) (hd : dOk E o.dst) (hct : ∀ G : GW, Now E σ G → Calls P f ((vs.map SV.den).toArray ++ caps) G.w (Ret G T)) :
    Does P E σ o (fun σ' => ∃ v G, T v G ∧ Now E σ G ∧ σ' = (σ.seen G).put o.dst (.c (.v v))) := by
  intro a w Q next hr hn
  unfold Oper.wp
  rw [run_callD ho hcal hx hfv hev hf hr.see]
  refine Calls.mono (hct ⟨σ.M E, w⟩ hr.now) fun e w' he => ?_
  obtain ⟨v, rfl, hT, hc⟩ := he
  have hw := (hr.called hc).now
  exact hn _ _ _ ⟨v, _, hT, ⟨fun s hs => hw.le s (List.mem_cons_of_mem _ hs), hw.blks, hw.mine, hw.chg, hw.wf, hw.only, hw.rows, hw.nodup, hw.apart, hw.rapart, hw.mineR⟩, rfl⟩ ((hr.called hc).put o.dst (.c (.v v)) (dOk_lt hd))
/-! ### maps -/
/-- a row's world: its block turned, or new; no other turns -/
theorem Rel.rowTo {w' : World} (h : Rel E σ a w) {R1 R2 : List Rw} {r r' : Rw} (hR : σ.rows = R1 ++ r :: R2) (hg : w.grownBy w' (rb r.v)) (his : RowIs w' r') (hv : r'.v = r.v) : Rel E (σ.rowsTo (R1 ++ r' :: R2)) a w' :=
  h.grow hR hg his (fun g e => .inl (by rw [← hv]; exact e))
/-- a map's entries, as keys and values by turns -/
def flatM (al : List (Value × Value)) : List Value := al.flatMap fun e => [e.1, e.2]
theorem flatM_entries {es : List MapEntry} {al : List (Value × Value)} (h : es.flatMap (fun e => [e.key, e.val]) = flatM al) : es.map (fun e => (e.key, e.val)) = al := by
  unfold flatM at h
  induction es generalizing al with
  | nil =>
    cases al with
    | nil => rfl
    | cons x al => simp at h
  | cons e es ih =>
    cases al with
    | nil => simp at h
    | cons x al =>
      simp only [List.flatMap_cons, List.cons_append, List.nil_append, List.cons.injEq] at h
      obtain ⟨h1, h2, h3⟩ := h
      rw [List.map_cons, ih h3, h1, h2]
theorem entries_flatM (es : List MapEntry) : es.flatMap (fun e => [e.key, e.val]) = flatM (es.map fun e => (e.key, e.val)) := by
  unfold flatM
  rw [List.flatMap_map]
/-- keys that one may look for, all of them different -/
def KeysIn (P : Program) (kt : TypeId) (al : List (Value × Value)) : Prop := (∀ e ∈ al, ∃ l, keyOf P kt e.1 = some l) ∧ al.Pairwise fun e e' => e.1 ≠ e'.1
theorem KeysIn.one {kt : TypeId} {al : List (Value × Value)} (h : KeysIn P kt al) {k u v : Value} (hu : (k, u) ∈ al) (hv : (k, v) ∈ al) : u = v := by
  obtain hp := h.2
  clear h
  induction al with
  | nil => cases hu
  | cons x al ih =>
    obtain ⟨p1, p2⟩ := List.pairwise_cons.1 hp
    rcases List.mem_cons.1 hu with e1 | hu
    · rcases List.mem_cons.1 hv with e2 | hv
      · rw [← e1] at e2; cases e2; rfl
      · exact absurd (by rw [← e1]) (p1 _ hv)
    · rcases List.mem_cons.1 hv with e2 | hv
      · exact absurd (by rw [← e2]) (p1 _ hu)
      · exact ih hu hv p2
theorem map_row {g n : Nat} {al : List (Value × Value)} {t : TypeId} (h : RowIs w ⟨.map (some g), t, 0, n, flatM al⟩) : ∃ es clock, w.heap[g]? = some (.map es clock) ∧ es.size = n ∧ es.toList.map (fun e => (e.key, e.val)) = al := by
  rcases h with ⟨A, e, _⟩ | h | ⟨_, g', e, es, cl, hm, h1, h2⟩
  · cases e
  · rcases h.2 with ⟨e, _⟩ | ⟨_, _, _, e, _⟩ <;> cases e
  · cases e
    exact ⟨es, cl, hm, h1, flatM_entries h2⟩
theorem makeMap_does {t : TypeId} (ho : o.op = .makeMap t none) (hd : dOk E o.dst) :
    Does P E σ o (fun σ' => ∃ g G, σ' = (St.seen (σ.rowsTo (⟨.map (some g), t, 0, 0, flatM []⟩ :: σ.rows)) G).put o.dst (.c (.v (.map (some g))))) := by
  intro a w Q next hr hn
  have hrun : (execOp a.eval o).run P w = .ok (.value (.map (some w.heap.size))) (w.alloc (.map #[] 0)) := by
    unfold execOp
    have h0 := run_makeMap (P := P) t w
    simp only [ho, Option.map_none, Sem.run_bind, h0, Result.andThen_ok, Sem.run_pure]
  have hc : Chg Non w (w.alloc (.map #[] 0)) := ⟨rfl, rfl, rfl, by simp, fun k hk _ => Below.heap_alloc w _ k hk⟩
  have hown : ∀ r ∈ [(⟨.map (some w.heap.size), t, 0, 0, flatM []⟩ : Rw)], RowFresh w (w.alloc (.map #[] 0)) r := by
    intro r hr'
    obtain rfl := List.mem_singleton.1 hr'
    refine ⟨.inr (.inr ⟨rfl, w.heap.size, rfl, #[], 0, heap_alloc_new w _, rfl, rfl⟩), fun g e => ?_⟩
    cases e
    exact Nat.le_refl _
  have hr' := hr.calledO hc hown (List.pairwise_singleton _ _)
  exact wp_of_value hrun (hn _ _ _ ⟨w.heap.size, _, rfl⟩ (hr'.put o.dst (.c (.v (.map (some w.heap.size)))) (dOk_lt hd)))
/-- what is found at a key: what stands there, or the zero value -/
theorem lookup_does {t kt et tr : TypeId} {m x : Operand} {g n : Nat} {al : List (Value × Value)} {kv : SV} {key z v : Value} (ho : o.op = .lookup t m x false) (ht : P.underlying t = some (.map kt et)) (K : Go.Maps.Keyed P kt) (hz : ∀ w, (zeroValue et).run P w = .ok z w)
    (hrow : (⟨.map (some g), tr, 0, n, flatM al⟩ : Rw) ∈ σ.rows) (hm : ev σ m = some (.c (.v (.map (some g))))) (hx : ev σ x = some kv) (hk : kv.den = key) (hkey : ∃ l, keyOf P kt key = some l) (hal : KeysIn P kt al) (hd : dOk E o.dst)
    (hv : (key, v) ∈ al ∨ ((∀ e ∈ al, e.1 ≠ key) ∧ v = z)) :
    Does P E σ o (fun σ' => σ' = σ.put o.dst (.c (.v v))) := by
  intro a w Q next hr hn
  obtain ⟨es, cl, hb, hs, hes⟩ := map_row (hr.rows _ hrow).is
  obtain ⟨kl, hkl⟩ := hkey
  have hm' : a.eval m = .map (some g) := ev_den hr.see hm
  have hx' : a.eval x = key := (ev_den hr.see hx).trans hk
  have hkeys : ∀ e ∈ es.toList, ∃ l, keyOf P kt e.key = some l := fun e he => hal.1 (e.key, e.val) (by rw [← hes]; exact List.mem_map.2 ⟨e, he, rfl⟩)
  have hrun : (Instr.lookup t (.map (some g)) key false).run P w = .ok v w := by
    rcases K.find w hkl es.toList hkeys with ⟨h1, h2⟩ | ⟨j, e0, h1, h2, h3⟩
    · have : v = z := by
        rcases hv with hv | ⟨_, hv⟩
        · rw [← hes] at hv
          obtain ⟨e, he, q⟩ := List.mem_map.1 hv
          cases q
          exact absurd rfl (h2 e he)
        · exact hv
      subst this
      simp [Instr.lookup, run_underlying ht, MapKept.run_getObj_map hb, K.check w es.isEmpty hkl, h1, hz, Result.andThen]
    · have hin : (key, e0.val) ∈ al := by
        rw [← hes]
        exact List.mem_map.2 ⟨e0, List.mem_of_getElem? h2, by rw [h3]⟩
      have : e0.val = v := by
        rcases hv with hv | ⟨hv, _⟩
        · exact hal.one hin hv
        · exact absurd rfl (hv _ hin)
      subst this
      simp [Instr.lookup, run_underlying ht, MapKept.run_getObj_map hb, K.check w es.isEmpty hkl, h1, Result.andThen]
  have hrun2 : (execOp a.eval o).run P w = .ok (.value v) w := by
    unfold execOp
    simp only [ho, hm', hx', Sem.run_bind, hrun, Result.andThen_ok, Sem.run_pure]
  exact wp_of_value hrun2 (hn _ _ _ rfl (hr.put o.dst (.c (.v v)) (dOk_lt hd)))
/-- a store at a key where nothing stands -/
theorem update_new_does {t kt et tr : TypeId} {m x y : Operand} {g n : Nat} {al : List (Value × Value)} {kv yv : SV} {key v : Value} {R1 R2 : List Rw} (ho : o.op = .mapUpdate t m x y) (ht : P.underlying t = some (.map kt et)) (K : Go.Maps.Keyed P kt)
    (hR : σ.rows = R1 ++ ⟨.map (some g), tr, 0, n, flatM al⟩ :: R2) (hm : ev σ m = some (.c (.v (.map (some g))))) (hx : ev σ x = some kv) (hk : kv.den = key) (hy : ev σ y = some yv) (hyv : yv.den = v) (hkey : ∃ l, keyOf P kt key = some l) (hal : KeysIn P kt al) (hd : dOk E o.dst)
    (hno : ∀ e ∈ al, e.1 ≠ key) :
    Does P E σ o (fun σ' => σ' = (σ.rowsTo (R1 ++ ⟨.map (some g), tr, 0, n + 1, flatM (al ++ [(key, v)])⟩ :: R2)).put o.dst (.c (.v undef))) := by
  intro a w Q next hr hn
  have hrm : (⟨.map (some g), tr, 0, n, flatM al⟩ : Rw) ∈ σ.rows := by rw [hR]; simp
  obtain ⟨es, cl, hb, hs, hes⟩ := map_row (hr.rows _ hrm).is
  obtain ⟨kl, hkl⟩ := hkey
  have hm' : a.eval m = .map (some g) := ev_den hr.see hm
  have hx' : a.eval x = key := (ev_den hr.see hx).trans hk
  have hy' : a.eval y = v := (ev_den hr.see hy).trans hyv
  have hkeys : ∀ e ∈ es.toList, ∃ l, keyOf P kt e.key = some l := fun e he => hal.1 (e.key, e.val) (by rw [← hes]; exact List.mem_map.2 ⟨e, he, rfl⟩)
  have hrun : (Instr.mapUpdate t (.map (some g)) key v).run P w = .ok () (Go.ChangeMaps.setBlock w g (.map (es.push ⟨key, v, cl⟩) (cl + 1))) := by
    rcases K.find w hkl es.toList hkeys with ⟨h1, h2⟩ | ⟨j, e0, h1, h2, h3⟩
    · simp [Instr.mapUpdate, run_underlying ht, MapKept.run_getObj_map hb, K.check w false hkl, h1, MapKept.run_setObj_map _ hb, Result.andThen, Go.ChangeMaps.setBlock]
    · exact absurd h3 (hno (e0.key, e0.val) (by rw [← hes]; exact List.mem_map.2 ⟨e0, List.mem_of_getElem? h2, rfl⟩))
  have hrun2 : (execOp a.eval o).run P w = .ok .skip (Go.ChangeMaps.setBlock w g (.map (es.push ⟨key, v, cl⟩) (cl + 1))) := by
    unfold execOp
    simp only [ho, hm', hx', hy', Sem.run_bind, hrun, Result.andThen_ok, Sem.run_pure]
  have hg : w.grownBy (Go.ChangeMaps.setBlock w g (.map (es.push ⟨key, v, cl⟩) (cl + 1))) (rb (.map (some g))) :=
    ⟨rfl, rfl, rfl, by simp [Go.ChangeMaps.setBlock], fun k _ hne => Go.ChangeMaps.heap_setBlock_other hb _ (fun e => hne (by rw [e]; rfl))⟩
  refine wp_of_skip hrun2 (hn _ _ _ rfl ((hr.rowTo (r' := ⟨.map (some g), tr, 0, n + 1, flatM (al ++ [(key, v)])⟩) hR hg ?_ rfl).put o.dst (.c (.v undef)) (dOk_lt hd)))
  refine .inr (.inr ⟨rfl, g, rfl, es.push ⟨key, v, cl⟩, cl + 1, Go.ChangeMaps.heap_setBlock_same hb _, by simp [hs], ?_⟩)
  rw [entries_flatM, Array.toList_push, List.map_append, hes]
  rfl
/-- a store at a key where something stands -/
theorem update_old_does {t kt et tr : TypeId} {m x y : Operand} {g n : Nat} {al : List (Value × Value)} {kv yv : SV} {key v v0 : Value} {R1 R2 : List Rw} (ho : o.op = .mapUpdate t m x y) (ht : P.underlying t = some (.map kt et)) (K : Go.Maps.Keyed P kt)
    (hR : σ.rows = R1 ++ ⟨.map (some g), tr, 0, n, flatM al⟩ :: R2) (hm : ev σ m = some (.c (.v (.map (some g))))) (hx : ev σ x = some kv) (hk : kv.den = key) (hy : ev σ y = some yv) (hyv : yv.den = v) (hkey : ∃ l, keyOf P kt key = some l) (hal : KeysIn P kt al) (hd : dOk E o.dst)
    (hin : (key, v0) ∈ al) :
    Does P E σ o (fun σ' => ∃ j, al[j]? = some (key, v0) ∧ σ' = (σ.rowsTo (R1 ++ ⟨.map (some g), tr, 0, n, flatM (al.set j (key, v))⟩ :: R2)).put o.dst (.c (.v undef))) := by
  intro a w Q next hr hn
  have hrm : (⟨.map (some g), tr, 0, n, flatM al⟩ : Rw) ∈ σ.rows := by rw [hR]; simp
  obtain ⟨es, cl, hb, hs, hes⟩ := map_row (hr.rows _ hrm).is
  obtain ⟨kl, hkl⟩ := hkey
  have hm' : a.eval m = .map (some g) := ev_den hr.see hm
  have hx' : a.eval x = key := (ev_den hr.see hx).trans hk
  have hy' : a.eval y = v := (ev_den hr.see hy).trans hyv
  have hkeys : ∀ e ∈ es.toList, ∃ l, keyOf P kt e.key = some l := fun e he => hal.1 (e.key, e.val) (by rw [← hes]; exact List.mem_map.2 ⟨e, he, rfl⟩)
  rcases K.find w hkl es.toList hkeys with ⟨h1, h2⟩ | ⟨j, e0, h1, h2, h3⟩
  · rw [← hes] at hin
    obtain ⟨e, he, q⟩ := List.mem_map.1 hin
    cases q
    exact absurd rfl (h2 e he)
  · have hj : es[j]? = some e0 := by simpa using h2
    have hrun : (Instr.mapUpdate t (.map (some g)) key v).run P w = .ok () (Go.ChangeMaps.setBlock w g (.map (es.modify j fun e => { e with key, val := v }) cl)) := by
      simp [Instr.mapUpdate, run_underlying ht, MapKept.run_getObj_map hb, K.check w false hkl, h1, hj, h3, K.stays w hkl, MapKept.run_setObj_map _ hb, Result.andThen, Go.ChangeMaps.setBlock]
    have hrun2 : (execOp a.eval o).run P w = .ok .skip (Go.ChangeMaps.setBlock w g (.map (es.modify j fun e => { e with key, val := v }) cl)) := by
      unfold execOp
      simp only [ho, hm', hx', hy', Sem.run_bind, hrun, Result.andThen_ok, Sem.run_pure]
    have hg : w.grownBy (Go.ChangeMaps.setBlock w g (.map (es.modify j fun e => { e with key, val := v }) cl)) (rb (.map (some g))) :=
      ⟨rfl, rfl, rfl, by simp [Go.ChangeMaps.setBlock], fun k _ hne => Go.ChangeMaps.heap_setBlock_other hb _ (fun e => hne (by rw [e]; rfl))⟩
    have hval : (key, e0.val) ∈ al := by
      rw [← hes]
      exact List.mem_map.2 ⟨e0, List.mem_of_getElem? h2, by rw [h3]⟩
    have hv0 : e0.val = v0 := hal.one hval hin
    have halj : al[j]? = some (key, v0) := by
      rw [← hes, List.getElem?_map, h2]
      show some (e0.key, e0.val) = _
      rw [h3, hv0]
    refine wp_of_skip hrun2 (hn _ _ _ ⟨j, halj, rfl⟩ ((hr.rowTo (r' := ⟨.map (some g), tr, 0, n, flatM (al.set j (key, v))⟩) hR hg ?_ rfl).put o.dst (.c (.v undef)) (dOk_lt hd)))
    refine .inr (.inr ⟨rfl, g, rfl, _, cl, Go.ChangeMaps.heap_setBlock_same hb _, by simp [hs], ?_⟩)
    have hlist : (es.modify j (fun e' => { e' with key := key, val := v })).toList = es.toList.set j { e0 with key := key, val := v } := by rw [Array.toList_modify, Go.ChangeMaps.modify_eq_set _ _ _ _ h2]
    rw [entries_flatM, hlist, List.map_set, hes]
end
end Go.Proofs.YtohdfcnjcpjdcaaDoor
