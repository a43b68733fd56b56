/- That the model's operations do what 'stepO' says. Names no program. Conditions: as each law states them. -/
import Derived.Test.YtomfladifefomaaSy
namespace Go.Proofs.Ytomfladifefomaa
open Go.RowKit
variable {P : Program} {σ : St} {a : Act} {w : World}

theorem range_of_blk {g : Nat} {t : TypeId} {cs : List SC} (h : Blk w g t (dens cs)) (off n : Nat) (_hl : off + n ≤ cs.length) : w.rangeAt g off (((cs.drop off).take n).map SC.den) := by
  intro j v hj
  have hjn : j < n := by
    have := (List.getElem?_eq_some_iff.1 hj).1
    simp at this; omega
  rw [h.cell]
  simp only [List.getElem?_map, List.getElem?_take_of_lt hjn, List.getElem?_drop] at hj
  simp only [dens, List.getElem?_toArray, List.getElem?_map]
  exact hj
theorem run_loadCs {g q : Nat} {t : TypeId} {cs : List SC} {off : Nat} {s : Prop} {s' : Prop} {v : SV} (hc : ∀ j c, cs[j]? = some c → w.cell? ⟨g, q + j, none⟩ = some c.den)
    (h : loadCs P t cs off s = .val s' v) : (Instr.loadAt t (.pointer (some ⟨g, q + off, none⟩))).run P w = .ok v.den w ∧ s' = s := by
  unfold loadCs at h
  have hz : ∀ n, tSize P t = some n → (P.info? t).map (·.size) = some n := fun n h => h
  split at h
  · rename_i n hn hr
    split at h
    · rename_i hl
      cases h
      obtain ⟨d, hd, hdr⟩ : ∃ d, P.underlying t = some d ∧ d.isRow = true := by
        unfold tRow at hr
        cases hu : P.underlying t with
        | none => rw [hu] at hr; cases hr
        | some d => rw [hu] at hr; exact ⟨d, rfl, by simpa using hr⟩
      refine ⟨?_, rfl⟩
      refine run_loadAt_mid w g (q + off) t (((cs.drop off).take n).map SC.den) d (fun j v hj => ?_) hd hdr (by rw [hz n hn]; simp; omega)
      have hjn : j < n := by
        have := (List.getElem?_eq_some_iff.1 hj).1
        simp at this; omega
      simp only [List.getElem?_map, List.getElem?_take_of_lt hjn, List.getElem?_drop, Option.map_eq_some_iff] at hj
      obtain ⟨c, hc1, rfl⟩ := hj
      have := hc _ _ hc1
      rwa [← Nat.add_assoc] at this
    · cases h
  · rename_i n hn hr
    split at h
    · rename_i c hcc
      cases h
      obtain ⟨d, hd, hdr⟩ : ∃ d, P.underlying t = some d ∧ d.isRow = false := by
        unfold tRow at hr
        cases hu : P.underlying t with
        | none => rw [hu] at hr; cases hr
        | some d => rw [hu] at hr; exact ⟨d, rfl, by simpa using hr⟩
      refine ⟨?_, rfl⟩
      have hagg : (isAgg t).run P w = .ok false w := by
        unfold isAgg
        rw [Sem.run_bind, run_underlying hd w]
        cases d <;> simp_all
      have := hc off c hcc
      simp [Instr.loadAt, Instr.sureAddr, loadVar, Sem.run_bind, hagg, this, SV.den]
    · cases h
  · cases h
theorem run_part {t : TypeId} {cs : List SC} {off : Nat} {s : Prop} {s' : Prop} {v : SV}
    (h : loadCs P t cs off s = .val s' v) : (part t (dens cs) off).run P w = .ok v.den w ∧ s' = s := by
  unfold loadCs at h
  split at h
  · rename_i n hn hr
    split at h
    · rename_i hl
      cases h
      obtain ⟨d, hd, hdr⟩ : ∃ d, P.underlying t = some d ∧ d.isRow = true := by
        unfold tRow at hr
        cases hu : P.underlying t with
        | none => rw [hu] at hr; cases hr
        | some d => rw [hu] at hr; exact ⟨d, rfl, by simpa using hr⟩
      obtain ⟨i, hi, hin⟩ : ∃ i, P.info? t = some i ∧ i.size = n := by
        unfold tSize at hn
        cases hu : P.info? t with
        | none => rw [hu] at hn; cases hn
        | some i => rw [hu] at hn; exact ⟨i, rfl, by simpa using hn⟩
      refine ⟨?_, rfl⟩
      have hagg : (isAgg t).run P w = .ok true w := by
        unfold isAgg
        rw [Sem.run_bind, run_underlying hd w]
        cases d <;> simp_all
      simp [part, Sem.run_bind, hagg, sizeOf, typeInfo, hi, hin, SV.den, dens, List.extract_eq_take_drop, List.map_drop, List.map_take]
    · cases h
  · rename_i n hn hr
    split at h
    · rename_i c hcc
      cases h
      obtain ⟨d, hd, hdr⟩ : ∃ d, P.underlying t = some d ∧ d.isRow = false := by
        unfold tRow at hr
        cases hu : P.underlying t with
        | none => rw [hu] at hr; cases hr
        | some d => rw [hu] at hr; exact ⟨d, rfl, by simpa using hr⟩
      refine ⟨?_, rfl⟩
      have hagg : (isAgg t).run P w = .ok false w := by
        unfold isAgg
        rw [Sem.run_bind, run_underlying hd w]
        cases d <;> simp_all
      have : (dens cs)[off]? = some c.den := by simp [dens, hcc]
      simp [part, Sem.run_bind, hagg, this, SV.den]
    · cases h
  · cases h
theorem tField_spec {s f o : Nat} {ft : TypeId} (h : tField P s f = some (o, ft)) : ∃ fs fl, P.underlying s = some (.struct fs) ∧ fs[f]? = some fl ∧ fl.offset = o ∧ fl.type = ft := by
  unfold tField at h
  split at h
  · rename_i fs hu
    cases hf : fs[f]? with
    | none => rw [hf] at h; cases h
    | some fl =>
      rw [hf] at h
      simp only [Option.map_some, Option.some.injEq, Prod.mk.injEq] at h
      exact ⟨fs, fl, hu, hf, h.1, h.2⟩
  · cases h
theorem run_fieldAt {s f o g off n : Nat} {ft : TypeId} (h : tField P s f = some (o, ft)) (hn : tSize P ft = some n) (h0 : n ≠ 0) :
    (Instr.fieldAt s (.pointer (some ⟨g, off, none⟩)) f).run P w = .ok (.pointer (some ⟨g, off + o, none⟩)) w := by
  obtain ⟨fs, fl, hu, hf, rfl, rfl⟩ := tField_spec h
  obtain ⟨i, hi, hin⟩ : ∃ i, P.info? fl.type = some i ∧ i.size = n := by
    unfold tSize at hn
    cases hu : P.info? fl.type with
    | none => rw [hu] at hn; cases hn
    | some i => rw [hu] at hn; exact ⟨i, rfl, by simpa using hn⟩
  simp [Instr.fieldAt, run_underlying hu, hf, Instr.sureAddr, fieldPlace, sizeOf, typeInfo, hi, hin, h0, Addr.add_mid]
theorem run_field {s f o : Nat} {ft : TypeId} {cs : List SC} {s' : Prop} {v : SV} (h : tField P s f = some (o, ft)) (hl : loadCs P ft cs o True = .val s' v) :
    (Instr.field s (.agg (dens cs)) f).run P w = .ok v.den w := by
  obtain ⟨fs, fl, hu, hf, rfl, rfl⟩ := tField_spec h
  have := (run_part (w := w) hl).1
  simp [Instr.field, run_underlying hu, hf, asAgg, this]
theorem evs_den (h : See σ a w) : ∀ {l : List Operand} {vs : List SV}, evs σ l = some vs → l.map a.eval = vs.map SV.den
  | [], vs, hx => by cases hx; rfl
  | x :: r, vs, hx => by
    unfold evs at hx
    split at hx
    · rename_i v l hv hl
      cases hx
      simp [ev_den h hv, evs_den h hl]
    · cases hx
theorem capsOf_den : ∀ {l : List SV} {cs : List (Nat × Nat × Nat)}, capsOf l = some cs → l.map SV.den = cs.map fun c => Value.pointer (some ⟨c.2.1, c.2.2, none⟩)
  | [], cs, h => by cases h; rfl
  | x :: r, cs, h => by
    unfold capsOf at h
    split at h
    · rename_i hh; cases hh
    · rename_i id g o r' hh
      cases hh
      cases hr : capsOf r with
      | none => rw [hr] at h; cases h
      | some l =>
        rw [hr] at h
        cases h
        simp [capsOf_den hr, SV.den, SC.den]
    · cases h
theorem dens_set (z : List SC) (o : Nat) (x : SC) : dens (z.set o x) = (dens z).setIfInBounds o x.den := by
  simp [dens, List.map_set]
theorem putCs_cons (z : List SC) (o : Nat) (x : SC) (xs : List SC) (h : o + (xs.length + 1) ≤ z.length) : putCs z o (x :: xs) = putCs (z.set o x) (o + 1) xs := by
  rw [putCs_eq z o (x :: xs) (by simp; omega), putCs_eq (z.set o x) (o + 1) xs (by simp; omega)]
  have e : z.set o x = z.take o ++ x :: z.drop (o + 1) := by rw [List.set_eq_take_append_cons_drop, if_pos (by omega)]
  have h1 : (z.set o x).take (o + 1) = z.take o ++ [x] := by
    rw [e, List.take_append, List.length_take, Nat.min_eq_left (by omega)]
    simp [List.take_take]
  have h2 : (z.set o x).drop (o + 1 + xs.length) = z.drop (o + (x :: xs).length) := by
    rw [e, List.drop_append, List.length_take, Nat.min_eq_left (by omega)]
    rw [List.drop_eq_nil_of_le (by simp; omega), show o + 1 + xs.length - o = xs.length + 1 by omega, List.nil_append, List.drop_succ_cons, List.drop_drop]
    congr 1
    simp; omega
  rw [h1, h2]
  simp
theorem foldl_putCs (off : Nat) : ∀ (c : List SC) (k : Nat) (z : List SC), off + k + c.length ≤ z.length →
    ((c.map SC.den).zipIdx k).foldl (fun cs x => cs.setIfInBounds (off + x.2) x.1) (dens z) = dens (putCs z (off + k) c)
  | [], k, z, h => by
    rw [putCs_eq z _ [] (by simpa using h)]
    simp
  | x :: xs, k, z, h => by
    have ih := foldl_putCs off xs (k + 1) (z.set (off + k) x) (by simp at h ⊢; omega)
    rw [putCs_cons z _ x xs (by simp at h; omega)]
    simp only [List.map_cons, List.zipIdx_cons, List.foldl_cons]
    rw [← dens_set]
    exact ih
theorem fillF_den {places : Nat → Option (Nat × Nat)} {fs : List (Nat × Nat)} (hp : ∀ i x, fs[i]? = some x → places i = some x) :
    ∀ (l : List (Nat × List SC)) (z cs : List SC), fillF fs z l = some cs → ∀ (vs : List (Nat × Value)), vs.map (fun x => (x.1, x.2.cells)) = l.map (fun x => (x.1, dens x.2)) → Instr.fill places (dens z) vs = some (dens cs)
  | [], z, cs, h, vs, hv => by
    cases h
    cases vs with
    | nil => rfl
    | cons x r => simp at hv
  | (i, c) :: rest, z, cs, h, vs, hv => by
    cases vs with
    | nil => simp at hv
    | cons x r =>
      obtain ⟨j, u⟩ := x
      simp only [List.map_cons, List.cons.injEq, Prod.mk.injEq] at hv
      obtain ⟨⟨rfl, hu⟩, hr⟩ := hv
      unfold fillF at h
      split at h
      · rename_i off n hfs
        split at h
        · rename_i hl
          have ih := fillF_den hp rest _ cs h r hr
          unfold Instr.fill
          rw [hp _ _ hfs]
          have hsz : u.cells.size = n := by rw [hu]; simp [dens, hl.1]
          have hzs : (dens z).size = z.length := by simp [dens]
          have key : u.cells.zipIdx.foldl (fun cs x => cs.setIfInBounds (off + x.2) x.1) (dens z) = dens (putCs z off c) := by
            have h1 := foldl_putCs off c 0 z (by omega)
            rw [hu, ← Array.foldl_toList]
            simpa [dens] using h1
          rw [← key] at ih
          have hcond : ¬ ((decide (u.cells.size ≠ n) || decide (off + u.cells.size > (dens z).size)) = true) := by
            rw [hsz, hzs]; simp; omega
          show (if (decide (u.cells.size ≠ n) || decide (off + u.cells.size > (dens z).size)) = true then none else _) = _
          rw [if_neg hcond]
          exact ih
        · cases h
      · cases h
theorem partsOf_den (h : See σ a w) : ∀ {l : List (Nat × Operand)} {ps : List (Nat × List SC)}, partsOf σ l = some ps →
    (l.map fun x => (x.1, a.eval x.2)).map (fun x => (x.1, x.2.cells)) = ps.map (fun x => (x.1, dens x.2))
  | [], ps, hx => by cases hx; rfl
  | (i, x) :: r, ps, hx => by
    unfold partsOf at hx
    split at hx
    · rename_i v l hv hl
      cases hx
      simp [ev_den h hv, SV.cells_den, partsOf_den h hl]
    · cases hx
theorem tFields_spec {s : TypeId} {l : List (Nat × Nat)} (h : tFields P s = some l) : ∃ fs, P.underlying s = some (.struct fs) ∧ fs.toList.mapM (fun f => (tSize P f.type).map fun n => (f.offset, n)) = some l := by
  unfold tFields at h
  split at h
  · rename_i fs hu; exact ⟨fs, hu, h⟩
  · cases h
theorem mapM_some_at {α β : Type} {f : α → Option β} : ∀ {l : List α} {r : List β}, l.mapM f = some r → l.length = r.length ∧ ∀ (i : Nat) (x : α), l[i]? = some x → ∃ y, f x = some y ∧ r[i]? = some y
  | [], r, h => by
    simp at h; subst h; exact ⟨rfl, fun i x hx => by simp at hx⟩
  | x :: l, r, h => by
    rw [List.mapM_cons] at h
    cases hx : f x with
    | none => rw [hx] at h; cases h
    | some y =>
      rw [hx] at h
      cases hl : l.mapM f with
      | none => rw [hl] at h; cases h
      | some r' =>
        rw [hl] at h
        cases h
        obtain ⟨h1, h2⟩ := mapM_some_at hl
        refine ⟨by simp [h1], fun i z hz => ?_⟩
        cases i with
        | zero => simp at hz; subst hz; exact ⟨y, hx, rfl⟩
        | succ i => simpa using h2 i z (by simpa using hz)
theorem tSize_spec {t n : Nat} (h : tSize P t = some n) : ∃ i, P.info? t = some i ∧ i.size = n := by
  unfold tSize at h
  cases hu : P.info? t with
  | none => rw [hu] at h; cases h
  | some i => rw [hu] at h; exact ⟨i, rfl, by simpa using h⟩
theorem tZero_spec {t : TypeId} {z : List Value} (h : tZero P t = some z) : ∃ i v, P.info? t = some i ∧ i.zero = some v ∧ v.cells.toList = z := by
  unfold tZero at h
  cases hu : P.info? t with
  | none => rw [hu] at h; cases h
  | some i =>
    rw [hu] at h
    cases hz : i.zero with
    | none => simp [hz] at h
    | some v => simp [hz] at h; exact ⟨i, v, rfl, hz, h⟩
theorem run_fields (w : World) : ∀ (l : List Field) (r : List (Nat × Nat)), l.mapM (fun f => (tSize P f.type).map fun n => (f.offset, n)) = some r →
    (l.mapM fun f => (do pure (f.offset, ← sizeOf f.type) : Sem (Nat × Nat))).run P w = .ok r w
  | [], r, h => by
    simp at h; subst h; rfl
  | f :: l, r, h => by
    rw [List.mapM_cons] at h
    cases hx : tSize P f.type with
    | none => rw [hx] at h; cases h
    | some n =>
      rw [hx] at h
      cases hl : l.mapM (fun f => (tSize P f.type).map fun n => (f.offset, n)) with
      | none => rw [hl] at h; cases h
      | some r' =>
        rw [hl] at h
        cases h
        obtain ⟨i, hi, hin⟩ := tSize_spec hx
        have ih := run_fields w l r' hl
        rw [List.mapM_cons]
        simp [Sem.run_bind, sizeOf, typeInfo, hi, hin] at ih ⊢
        simp [ih]
theorem dens_v (l : List Value) : dens (l.map .v) = l.toArray := by
  have e : SC.den ∘ SC.v = id := rfl
  simp [dens, e]
theorem run_build {t : TypeId} {z : List Value} {fs : List (Nat × Nat)} {l : List (Nat × List SC)} {cs : List SC} (hz : tZero P t = some z) (hf : tFields P t = some fs)
    (h : fillF fs (z.map .v) l = some cs) {ps : Array (Nat × Value)} (hp : ps.toList.map (fun x => (x.1, x.2.cells)) = l.map (fun x => (x.1, dens x.2))) :
    (Instr.build t ps).run P w = .ok (.agg (dens cs)) w := by
  obtain ⟨i, v, hi, hv, rfl⟩ := tZero_spec hz
  obtain ⟨fls, hu, hm⟩ := tFields_spec hf
  have hpl := run_fields (P := P) w fls.toList fs hm
  have hfill := fillF_den (places := (fs.toArray[·]?)) (fs := fs) (fun i x hx => by simpa using hx) l _ cs h ps.toList hp
  rw [dens_v] at hfill
  have hpl2 : (fls.mapM fun f => (do pure (f.offset, ← sizeOf f.type) : Sem (Nat × Nat))).run P w = .ok fs.toArray w := by
    rw [Array.mapM_eq_mapM_toList]
    simp only [map_eq_pure_bind, Sem.run_bind, hpl, Result.andThen_ok, Sem.run_pure]
  simp only [Array.toArray_toList] at hfill
  simp only [Instr.build, Sem.run_bind, zeroValue, typeInfo, run_program, Result.andThen_ok, hi, hv, Sem.run_pure, run_underlying hu, hpl2, hfill]
end Go.Proofs.Ytomfladifefomaa
