/- The soundness of the steps. Names no program. Conditions: as each law states them. -/
import Derived.Test.YtomfladifefomaaSz
namespace Go.Proofs.Ytomfladifefomaa
open Go.RowKit
variable {P : Program} {σ : St} {a : Act} {w : World}
def mkV (n : Option Nat) (g : Nat) : Value := match n with
  | none => .pointer (some ⟨g, 0, none⟩)
  | some n => .slice (some ⟨g, 0, none⟩) n n
def mkS (n : Option Nat) (id g : Nat) : SV := match n with
  | none => .c (.p id g 0)
  | some n => .c (.s id g 0 n n)
theorem mkS_den (n : Option Nat) (id g : Nat) : (mkS n id g).den = mkV n g := by cases n <;> rfl
theorem run_val {α : Type} {x : Sem α} {v : α} {f : α → Sem Next} (h : x.run P w = .ok v w) : (x >>= f).run P w = (f v).run P w := by
  rw [Sem.run_bind, h]; rfl
theorem blk_cells {g : Nat} {t : TypeId} {cs : List SC} (h : Blk w g t (dens cs)) : ∀ j c, cs[j]? = some c → w.cell? ⟨g, 0 + j, none⟩ = some c.den := by
  intro j c hc
  rw [Nat.zero_add, h.cell]
  simp [dens, hc]
theorem view_cells {g o : Nat} {cs : List Value} (h : w.rangeAt g o cs) : ∀ j c, (cs.map SC.v)[j]? = some c → w.cell? ⟨g, o + j, none⟩ = some c.den := by
  intro j c hc
  simp only [List.getElem?_map, Option.map_eq_some_iff] at hc
  obtain ⟨v, hv, rfl⟩ := hc
  exact h j v hv
theorem evs_args (h : See σ a w) {l : Array Operand} {vs : List SV} (hx : evs σ l.toList = some vs) : l.map a.eval = (vs.map SV.den).toArray := by
  rw [← evs_den h hx, ← Array.toList_map, Array.toArray_toList]
theorem run_convert_int {src dst : TypeId} {k1 k2 : IntKind} (h1 : tInt P src = some k1) (h2 : tInt P dst = some k2) (k : IntKind) (n : Int) :
    (convert src dst (.int k n)).run P w = .ok (.int k2 (k2.wrap n)) w := by
  have hu1 : P.underlying src = some (.int k1) := by
    unfold tInt at h1
    split at h1
    · rename_i hh; cases h1; exact hh
    · cases h1
  have hu2 : P.underlying dst = some (.int k2) := by
    unfold tInt at h2
    split at h2
    · rename_i hh; cases h2; exact hh
    · cases h2
  simp [convert, run_underlying hu1, run_underlying hu2, Conv.intToInt]
theorem binS_run {op : BinOp} {p q : ByteArray} {s : Prop} {v : Value} (h : binS op p q = some (s, v)) (hs : s) (t : TypeId) (w : World) :
    (binOp op t (.string p) (.string q)).run P w = .ok v w := by
  cases op <;> simp only [binS, Option.some.injEq, Prod.mk.injEq, reduceCtorEq] at h <;> obtain ⟨rfl, rfl⟩ := h
  case add =>
    have hm : IntKind.i64.max = 9223372036854775807 := by decide
    have : ¬ (((p.size + q.size : Nat) : Int) > IntKind.i64.max) := by rw [hm]; omega
    simp only [binOp, Op.stringOp]
    rw [if_neg this]; rfl
  all_goals simp [binOp, Op.stringOp]
theorem ivOf_run (hr : See σ a w) {x : Option Operand} {d n : Int} (h : ivOf σ x d = some n) : (x = none ∧ n = d) ∨ ∃ y k, x = some y ∧ a.eval y = .int k n := by
  cases x with
  | none => cases h; exact .inl ⟨rfl, rfl⟩
  | some y =>
    unfold ivOf at h
    split at h
    · rename_i hh; cases hh
    · rename_i z _ hz
      cases hz
      split at h
      · rename_i k m hm
        cases h
        exact .inr ⟨_, k, rfl, ev_den hr hm⟩
      · cases h
set_option maxHeartbeats 1000000 in
theorem stepO_val {o : Oper} {s : Prop} {v : SV} (h : stepO P o σ = .val s v) (hs : s) (hr : See σ a w) : (execOp a.eval o).run P w = .ok (.value v.den) w := by
  unfold stepO at h
  unfold execOp
  generalize hop : o.op = op at h ⊢
  cases op <;> try simp only [reduceCtorEq] at h
  case move x =>
    split at h
    · rename_i u hu; cases h; simp [ev_den hr hu]
    · cases h
  case assign x =>
    split at h
    · rename_i u hu; cases h; simp [ev_den hr hu]
    · cases h
  case pick c x y =>
    unfold oPick at h
    split at h
    · rename_i t ht
      have hc := ev_den hr ht
      simp only [SV.den, SC.den] at hc
      split at h
      · rename_i p q hp hq
        cases h
        have h1 := ev_den hr hp
        have h2 := ev_den hr hq
        cases t <;> simp [hc, h1, h2, asBool, SV.den, SC.den]
      · rename_i hx hy
        split at h
        · cases h; simp [hc, asBool]; exact ev_den hr hx
        · cases h; simp [hc, asBool]; exact ev_den hr hy
      · cases h
    · cases h
  case load t x =>
    split at h
    · rename_i id g off hx
      have hx' := ev_den hr hx
      split at h
      · rename_i b hb
        obtain ⟨h1, rfl⟩ := run_loadCs (P := P) (w := w) (g := b.g) (q := 0) (blk_cells (hr.blks b (getBl_mem hb))) h
        rw [Nat.zero_add] at h1
        rw [show b.g = g from hs] at h1
        simp only [hx', SV.den, SC.den]
        rw [run_val h1]; rfl
      · cases h
    · rename_i id g q off hx
      have hx' := ev_den hr hx
      split at h
      · rename_i b hb
        have hv := hr.views b (getVw_mem hb)
        obtain ⟨h1, rfl⟩ := run_loadCs (P := P) (w := w) (g := b.g) (q := b.o) (view_cells hv) h
        rw [hs.1, hs.2] at h1
        simp only [hx', SV.den, SC.den]
        rw [run_val h1]; rfl
      · cases h
    · cases h
  case store t x y =>
    split at h
    · split at h
      · split at h <;> cases h
      · cases h
    · cases h
  case alloc t => split at h <;> cases h
  case box t x => split at h <;> cases h
  case fieldAddr s x f =>
    split at h
    · rename_i id g off o' ft hx hf
      have hx' := ev_den hr hx
      split at h
      · rename_i n hn
        split at h
        · rename_i h0
          cases h
          simp only [hx', SV.den, SC.den]
          rw [run_val (run_fieldAt hf hn h0)]; rfl
        · cases h
      · cases h
    · rename_i id g q off o' ft hx hf
      have hx' := ev_den hr hx
      split at h
      · rename_i n hn
        split at h
        · rename_i h0
          cases h
          simp only [hx', SV.den, SC.den]
          rw [run_val (run_fieldAt hf hn h0)]; simp [Nat.add_assoc]
        · cases h
      · cases h
    · cases h
  case field s x f =>
    split at h
    · rename_i u o' ft hx hf
      have hx' := ev_den hr hx
      split at h
      · rename_i l
        simp only [hx', SV.den]
        rw [run_val (run_field hf h)]; rfl
      · rename_i cs
        have e : dens (cs.toList.map .v) = cs := by rw [dens_v]
        have := run_field (w := w) hf h
        rw [e] at this
        simp only [hx', SV.den, SC.den]
        rw [run_val this]; rfl
      · cases h
    · cases h
  case extract x i =>
    split at h
    · rename_i vs hx
      have hx' := ev_den hr hx
      split at h
      · rename_i u hu
        cases h
        simp [hx', SV.den, SC.den, Instr.extract, hu]
      · cases h
    · cases h
  case binOp op t x y t' =>
    unfold oBin2 at h
    split at h
    · rename_i k p k' q hx hy
      have hx' := ev_den hr hx
      have hy' := ev_den hr hy
      simp only [SV.den, SC.den] at hx' hy'
      split at h
      · rename_i hk
        subst hk
        split at h
        · rename_i s' u hb
          cases h
          have hrun := binI_run (P := P) hb hs t w
          have hg : (eqGuard op t x y (.int k p) (.int k q)).run P w = .ok () w := by
            unfold eqGuard
            cases op <;> simp
          simp only [hx', hy', Sem.run_bind, hg, Result.andThen_ok, hrun, Sem.run_pure, SV.den, SC.den]
        · cases h
      · cases h
    · rename_i p q hx hy
      have hx' := ev_den hr hx
      have hy' := ev_den hr hy
      simp only [SV.den, SC.den] at hx' hy'
      split at h
      · rename_i s' u hb
        cases h
        have hrun := binS_run (P := P) hb hs t w
        have hg : (eqGuard op t x y (.string p) (.string q)).run P w = .ok () w := by
          unfold eqGuard
          cases op <;> simp
        simp only [hx', hy', Sem.run_bind, hg, Result.andThen_ok, hrun, Sem.run_pure, SV.den, SC.den]
      · cases h
    · cases h
  case slice t x lo hi mx =>
    unfold oCut at h
    split at h
    · rename_i str hx
      have hx' := ev_den hr hx
      split at h
      · unfold oCut2 at h
        split at h
        rotate_left
        · cases h
        rename_i l' h' hl hh
        split at h
        rotate_left
        · cases h
        rename_i ht
        cases h
        have hu : P.underlying t = some .string := by
          unfold tStr at ht
          split at ht
          · rename_i hh; exact hh
          · cases ht
        obtain ⟨s1, s2, s3⟩ := hs
        obtain ⟨l, rfl⟩ := Int.eq_ofNat_of_zero_le s1
        obtain ⟨m, rfl⟩ := Int.eq_ofNat_of_zero_le (by omega : 0 ≤ h')
        have e1 := ivOf_run hr hl
        have e2 := ivOf_run hr hh
        simp only [hx', SV.den, SC.den, Int.toNat_natCast]
        have hrun : (Instr.sliceAt t (.string str) (lo.map a.eval) (hi.map a.eval) (none : Option Value)).run P w = .ok (.string (str.extract l m)) w := by
          have hb : (Instr.sliceBounds false str.size str.size (lo.map a.eval) (hi.map a.eval) none).run P w = .ok (l, m, str.size) w := by
            rcases e1 with ⟨rfl, e1⟩ | ⟨x1, k1, rfl, e1⟩ <;> rcases e2 with ⟨rfl, e2⟩ | ⟨x2, k2, rfl, e2⟩
            · have q1 : l = 0 := by omega
              have q2 : m = str.size := by omega
              subst q1; subst q2
              simp [Instr.sliceBounds]
            · have q1 : l = 0 := by omega
              subst q1
              have c2 : 0 ≤ (m : Int) ∧ (m : Int) ≤ (str.size : Int) := ⟨by omega, by omega⟩
              simp [Instr.sliceBounds, e2, run_sliceBound w k2 (m : Int) str.size _ c2.1 c2.2]
            · have q2 : m = str.size := by omega
              subst q2
              have c1 : 0 ≤ (l : Int) ∧ (l : Int) ≤ (str.size : Int) := ⟨by omega, by omega⟩
              simp [Instr.sliceBounds, e1, run_sliceBound w k1 (l : Int) str.size _ c1.1 c1.2]
            · have c2 : 0 ≤ (m : Int) ∧ (m : Int) ≤ (str.size : Int) := ⟨by omega, by omega⟩
              have c1 : 0 ≤ (l : Int) ∧ (l : Int) ≤ (m : Int) := ⟨by omega, by omega⟩
              simp [Instr.sliceBounds, e1, e2, run_sliceBound w k2 (m : Int) str.size _ c2.1 c2.2, run_sliceBound w k1 (l : Int) m _ c1.1 c1.2]
          simp [Instr.sliceAt, Instr.slice, run_underlying hu, hb]
        rw [Option.map_none, run_val hrun]; rfl
      · cases h
    · cases h
  case unOp op t x =>
    unfold oUn at h
    split at h
    · rename_i b hx
      cases h
      simp [ev_den hr hx, SV.den, SC.den, Op.unary]
    · rename_i k n hx
      cases h
      have := wrap_inR hs
      simp only [ev_den hr hx, SV.den, SC.den, Op.unary, Op.intArith, this, Sem.run_bind, Sem.run_pure, Result.andThen_ok]
    · cases h
  case convert src dst x =>
    unfold oConv at h
    split at h
    · rename_i k n hx
      have hx' := ev_den hr hx
      split at h
      · rename_i k1 h1 h2
        cases h
        have := run_convert_int (w := w) h1 h2 k n
        simp only [hx', SV.den, SC.den]
        rw [run_val this, IntKind.wrap_u8]; rfl
      · rename_i k1 k2 _ h1 h2
        cases h
        have := run_convert_int (w := w) h1 h2 k n
        simp only [hx', SV.den, SC.den]
        rw [run_val this, wrap_inR hs]; rfl
      · cases h
    · cases h
  case build t parts =>
    unfold oBuild at h
    split at h
    · rename_i z fs l hz hf hl
      split at h
      · rename_i cs hcs
        cases h
        have hd := partsOf_den hr hl
        have := run_build (P := P) (w := w) hz hf hcs (ps := parts.map fun (i, x) => (i, a.eval x)) (by simpa using hd)
        rw [run_val this]; rfl
      · cases h
    · cases h
  case buildSlice t n parts =>
    unfold oLit at h
    (repeat' split at h) <;> cases h
  case nilCheck x =>
    split at h
    · rename_i id g off hx
      cases h
      simp [ev_den hr hx, SV.den, SC.den]
    · rename_i id g q off hx
      cases h
      simp [ev_den hr hx, SV.den, SC.den]
    · cases h
  case makeFunc fn first captured =>
    split at h
    rotate_left
    · cases h
    unfold oFn at h
    split at h
    · rename_i f l hf hl
      cases h
      obtain ⟨vs, hvs, hcl⟩ := Option.bind_eq_some_iff.1 hl
      have h1 := evs_args hr hvs
      have h2 : first = #[] := by simpa using hf
      subst h2
      rw [capsOf_den hcl] at h1
      simp [h1, Instr.makeFunc, SV.den, SC.den]
    · cases h
  case call c =>
    split at h
    · rename_i hc
      unfold oLen at h
      split at h
      · rename_i A n cp hv
        have h1 := evs_args hr hv
        split at h
        · rename_i e he
          cases h
          obtain ⟨t, ht, hts⟩ := Option.bind_eq_some_iff.1 he
          have hu : P.underlying t = some (.slice e) := by
            unfold tSlice at hts
            split at hts
            · rename_i e' hh; cases hts; exact hh
            · cases hts
          simp [resolve, hc, h1, invoke, builtin, Builtin.len_, SV.den, SC.den, ht, run_underlying hu, goInt]
        · cases h
      · rename_i str hv
        have h1 := evs_args hr hv
        split at h
        · rename_i he
          cases h
          obtain ⟨t, ht, hts⟩ := Option.map_eq_some_iff.1 he
          have hu : P.underlying t = some .string := by
            unfold tStr at hts
            split at hts
            · rename_i hh; exact hh
            · cases hts
          simp [resolve, hc, h1, invoke, builtin, Builtin.len_, SV.den, SC.den, ht, run_underlying hu, goInt]
        · cases h
      · cases h
    · rename_i hc
      unfold oMin at h
      split at h
      · rename_i p q hv
        have h1 := evs_args hr hv
        cases h
        have e : (if q < p then q else p) = min p q := by omega
        simp [resolve, hc, h1, invoke, builtin, Builtin.min_, Builtin.min2, SV.den, SC.den, e]
      · cases h
    · rename_i hc
      unfold oMax at h
      split at h
      · rename_i p q hv
        have h1 := evs_args hr hv
        cases h
        have e : (if q > p then q else p) = max p q := by omega
        simp [resolve, hc, h1, invoke, builtin, Builtin.max_, Builtin.max2, SV.den, SC.den, e]
      · cases h
    · cases h
theorem tSlice_spec {t e : Nat} (h : tSlice P t = some e) : P.underlying t = some (.slice e) := by
  unfold tSlice at h
  split at h
  · rename_i e' hh; cases h; exact hh
  · cases h
theorem catP_len (k : Nat) : ∀ (l : List (Nat × List SC)) (i : Nat) (cs : List SC), catP k i l = some cs → cs.length = l.length * k
  | [], i, cs, h => by cases h; simp
  | (j, c) :: r, i, cs, h => by
    unfold catP at h
    split at h
    · rename_i hc
      obtain ⟨cs', hcs, rfl⟩ := Option.map_eq_some_iff.1 h
      rw [List.length_append, hc.2, catP_len k r (i + 1) cs' hcs, List.length_cons, Nat.succ_mul, Nat.add_comm]
    · cases h
theorem putCs_append (z : List SC) (o : Nat) (c cs : List SC) (h : o + (c.length + cs.length) ≤ z.length) : putCs (putCs z o c) (o + c.length) cs = putCs z o (c ++ cs) := by
  have hzl : (putCs z o c).length = z.length := by rw [putCs_eq _ _ _ (by omega)]; simp; omega
  rw [putCs_eq _ _ _ (by rw [hzl]; omega), putCs_eq z o (c ++ cs) (by simp; omega), putCs_eq z o c (by omega)]
  have hto : (z.take o).length = o := by rw [List.length_take]; omega
  have h1 : (z.take o ++ c ++ z.drop (o + c.length)).take (o + c.length) = z.take o ++ c := by
    rw [List.take_append, List.take_of_length_le (by simp; omega)]
    have : o + c.length - (z.take o ++ c).length = 0 := by simp; omega
    rw [this]; simp
  have h2 : (z.take o ++ c ++ z.drop (o + c.length)).drop (o + c.length + cs.length) = z.drop (o + (c ++ cs).length) := by
    rw [List.drop_append, List.drop_eq_nil_of_le (by simp; omega), List.nil_append, List.drop_drop]
    congr 1
    simp; omega
  rw [h1, h2]
  simp
theorem catP_fill (k : Nat) : ∀ (l : List (Nat × List SC)) (i : Nat) (cs z : List SC), catP k i l = some cs → i * k + cs.length ≤ z.length → ∀ (vs : List (Nat × Value)), vs.map (fun x => (x.1, x.2.cells)) = l.map (fun x => (x.1, dens x.2)) →
    Instr.fill (fun i => some (i * k, k)) (dens z) vs = some (dens (putCs z (i * k) cs))
  | [], i, cs, z, h, hl, vs, hv => by
    cases h
    cases vs with
    | nil => rw [putCs_eq z _ [] (by simpa using hl)]; simp [Instr.fill]
    | cons x r => simp at hv
  | (j, c) :: r, i, cs, z, h, hl, vs, hv => by
    unfold catP at h
    split at h
    · rename_i hc
      obtain ⟨rfl, hck⟩ := hc
      obtain ⟨cs', hcs, rfl⟩ := Option.map_eq_some_iff.1 h
      cases vs with
      | nil => simp at hv
      | cons x r' =>
        obtain ⟨j', u⟩ := x
        simp only [List.map_cons, List.cons.injEq, Prod.mk.injEq] at hv
        obtain ⟨⟨rfl, hu⟩, hr⟩ := hv
        rw [List.length_append] at hl
        have hzl : (putCs z (j' * k) c).length = z.length := by rw [putCs_eq _ _ _ (by omega)]; simp; omega
        have ih := catP_fill k r (j' + 1) cs' (putCs z (j' * k) c) hcs (by rw [hzl, Nat.succ_mul]; omega) r' hr
        have hsz : u.cells.size = k := by rw [hu]; simp [dens, hck]
        have hzs : (dens z).size = z.length := by simp [dens]
        have key : u.cells.zipIdx.foldl (fun cs x => cs.setIfInBounds (j' * k + x.2) x.1) (dens z) = dens (putCs z (j' * k) c) := by
          have h1 := foldl_putCs (j' * k) c 0 z (by omega)
          rw [hu, ← Array.foldl_toList]
          simpa [dens] using h1
        rw [← key] at ih
        have hcond : ¬ ((decide (u.cells.size ≠ k) || decide (j' * k + u.cells.size > (dens z).size)) = true) := by
          rw [hsz, hzs]; simp; omega
        unfold Instr.fill
        show (if (decide (u.cells.size ≠ k) || decide (j' * k + u.cells.size > (dens z).size)) = true then none else _) = _
        rw [if_neg hcond]
        refine Eq.trans ih ?_
        congr 2
        rw [Nat.succ_mul, ← hck]
        exact putCs_append z (j' * c.length) c cs' (by rw [hck]; omega)
    · cases h
theorem stepO_new {o : Oper} {t : TypeId} {cs : List SC} {n : Option Nat} (h : stepO P o σ = .new t cs n) (hr : See σ a w) :
    (execOp a.eval o).run P w = .ok (.value (mkV n w.heap.size)) (w.alloc (.cells (dens cs) t)) := by
  unfold stepO at h
  unfold execOp
  generalize hop : o.op = op at h ⊢
  cases op <;> try simp only [reduceCtorEq] at h
  case alloc t' =>
    split at h
    · rename_i z hz
      cases h
      obtain ⟨i, v, hi, hv, rfl⟩ := tZero_spec hz
      simp only [Instr.alloc, Sem.run_bind, zeroValue, typeInfo, run_program, Result.andThen_ok, hi, hv, Sem.run_pure, newVar, newRow, run_newObj, dens_v, Array.toArray_toList]
      rfl
    · cases h
  case box t' x =>
    split at h
    · rename_i v hv
      cases h
      have e := SV.cells_den v
      simp only [Instr.box, Sem.run_bind, Result.andThen_ok, Sem.run_pure, newVar, newRow, run_newObj, ev_den hr hv, e]
      rfl
    · cases h
  case buildSlice t' len parts =>
    unfold oLit at h
    split at h
    · rename_i kc e zl l hkc he hz hl
      split at h
      · rename_i hc
        split at h
        · rename_i cs' hcat
          cases h
          have hu : P.underlying t' = some (.slice t) := tSlice_spec he
          rw [he, Option.bind_some] at hkc
          obtain ⟨i, hi, hin⟩ := tSize_spec hkc
          have hd := partsOf_den hr hl
          have hlen : parts.size = len := by
            have := congrArg List.length hd
            simp at this
            omega
          have hsl := catP_len kc l 0 cs hcat
          rw [hc.1] at hsl
          have hnb : ¬ (len * kc > 2 ^ 24) := by
            have := hc.2.1
            have e : (2 : Nat) ^ 24 = 16777216 := by decide
            rw [e]; omega
          rw [he, Option.bind_some] at hz
          obtain ⟨i', zv, hi', hzv, hzl⟩ := tZero_spec hz
          rw [hi] at hi'
          cases hi'
          have hzs : zv.cells.size = kc := by rw [← Array.length_toList, hzl]; exact hc.2.2
          have hZ : ∀ Z : Array Value, Z.size = len * kc → Instr.fill (fun i => some (i * kc, kc)) Z (parts.map fun (i, x) => (i, a.eval x)).toList = some (dens cs) := by
            intro Z hZs
            have hf := catP_fill kc l 0 cs (Z.toList.map .v) hcat (by simp [hsl, hZs]) (parts.map fun (i, x) => (i, a.eval x)).toList (by simpa using hd)
            rw [dens_v, Array.toArray_toList] at hf
            rw [hf]
            congr 2
            rw [putCs_eq _ _ _ (by simp [hsl, hZs])]
            simp [hsl, hZs]
          simp only [Instr.buildSlice, Sem.run_bind, run_underlying hu, Result.andThen_ok, sizeOf, typeInfo, run_program, hi, Sem.run_pure, hin, hnb, if_false]
          by_cases h0 : len * kc = 0
          · have hf := hZ ((Array.range (len * kc)).map (fun x => (#[] : Array Value)[x % (#[] : Array Value).size]!)) (by simp)
            simp only [h0, if_true, Sem.run_bind, Sem.run_pure, Result.andThen_ok] at hf ⊢
            rw [hf]
            simp only [Sem.run_bind, newRow, run_newObj, Result.andThen_ok, Sem.run_pure]
            rfl
          · have hf := hZ ((Array.range (len * kc)).map (fun x => zv.cells[x % zv.cells.size]!)) (by simp)
            simp only [h0, if_false, Sem.run_bind, zeroValue, typeInfo, run_program, Result.andThen_ok, hi, hzv, Sem.run_pure] at hf ⊢
            rw [hf]
            simp only [Sem.run_bind, newRow, run_newObj, Result.andThen_ok, Sem.run_pure]
            rfl
        · cases h
      · cases h
    · cases h
  all_goals (repeat' split at h) <;> first | cases h | ((first | unfold loadCs at h | unfold oPick at h | unfold oBuild at h | unfold oUn at h | unfold oConv at h | unfold oFn at h | unfold oLen at h | unfold oMin at h | unfold oMax at h | (unfold oBin2 at h) | unfold oCut at h | unfold oLit at h | unfold oCut2 at h); (repeat' split at h) <;> first | cases h | (unfold oCut2 at h; (repeat' split at h) <;> cases h))
theorem one_dens {cs : List SC} (h : ones cs) : ∀ v ∈ (cs.map SC.den), v.oneCell' = true := by
  intro v hv
  obtain ⟨c, hc, rfl⟩ := List.mem_map.1 hv
  exact SC.one_den (ones_mem h c hc)
theorem stepO_put {o : Oper} {s : Prop} {id off : Nat} {cs : List SC} (h : stepO P o σ = .put s id off cs) (hs : s) (hr : See σ a w) :
    ∃ b, getBl σ.blks id = some b ∧ off + cs.length ≤ b.cs.length ∧ (execOp a.eval o).run P w = .ok .skip (w.setRow b.g (dens (putCs b.cs off cs))) := by
  unfold stepO at h
  unfold execOp
  generalize hop : o.op = op at h ⊢
  cases op <;> try simp only [reduceCtorEq] at h
  case store t x y =>
    split at h
    · rename_i id' g _ v hx hy
      have hx' := ev_den hr hx
      have hy' := ev_den hr hy
      split at h
      · rename_i b n hb hn
        split at h
        · rename_i hl
          cases h
          obtain ⟨hg, h1⟩ := hs
          refine ⟨b, hb, by omega, ?_⟩
          have hB : w.heap[b.g]? = some (.cells (dens b.cs) b.t (0, 0)) := hr.blks b (getBl_mem hb)
          have hst := run_storeCells_at (P := P) b.g off b.t (v.cells.map SC.den) 0 (dens b.cs) w hB (by simp [dens]; omega) (one_dens h1)
          obtain ⟨i, hi, hin⟩ := tSize_spec hn
          have e := SV.cells_den v
          have hsz : (dens v.cells).size = i.size := by rw [hin]; simp [dens, hl.1]
          have hrow : ((dens b.cs).toList.take (off + 0) ++ v.cells.map SC.den ++ (dens b.cs).toList.drop (off + 0 + (v.cells.map SC.den).length)).toArray = dens (putCs b.cs off v.cells) := by
            rw [putCs_eq _ _ _ (by omega)]
            simp [dens]
          rw [hrow] at hst
          have hx2 : a.eval x = .pointer (some ⟨b.g, off, none⟩) := by rw [hg]; exact hx'
          have hcl : (dens v.cells).toList = v.cells.map SC.den := by simp [dens]
          simp only [hx2, hy', Instr.storeAt, Sem.run_bind, Instr.sureAddr, Sem.run_pure, Result.andThen_ok, storeVar, sizeOf, typeInfo, run_program, hi, e, hsz, ne_eq, not_true_eq_false, if_false, hcl, hst]
        · cases h
      · cases h
    · cases h
  all_goals (repeat' split at h) <;> first | cases h | ((first | unfold loadCs at h | unfold oPick at h | unfold oBuild at h | unfold oUn at h | unfold oConv at h | unfold oFn at h | unfold oLen at h | unfold oMin at h | unfold oMax at h | (unfold oBin2 at h) | unfold oCut at h | unfold oLit at h | unfold oCut2 at h); (repeat' split at h) <;> first | cases h | (unfold oCut2 at h; (repeat' split at h) <;> cases h))
end Go.Proofs.Ytomfladifefomaa
