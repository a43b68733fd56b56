/- Calls that write blocks, rows and maps of their caller's: what they may do, how they are entered, what their caller knows behind them. Names no program. Conditions: as each law states them. -/
import Derived.Test.YtohdfcnjcpjdcaaDoorA3q
namespace Go.Proofs.YtohdfcnjcpjdcaaDoor
open Go.RowKit
set_option linter.unusedSimpArgs false
/-- a block that is handed: its place, its type, its cells -/
structure HB where
  g : Nat
  t : TypeId
  cs : List Value
def Bl.hb (b : Bl) : HB := ⟨b.g, b.t, b.cs.map SC.den⟩
/-- blocks and rows of a caller's that a call may write -/
structure Hands where
  bs : List HB
  rs : List Rw
def Hands.A (h : Hands) (k : Nat) : Prop := (∃ b ∈ h.bs, b.g = k) ∨ ∃ r ∈ h.rs, rb r.v = some k
structure HandsOk (w : World) (h : Hands) : Prop where
  blks : ∀ b ∈ h.bs, Blk w b.g b.t b.cs.toArray
  nodup : h.bs.Pairwise fun b c => b.g ≠ c.g
  rows : ∀ r ∈ h.rs, RowIs w r
  apart : ∀ r ∈ h.rs, ∀ b ∈ h.bs, rb r.v ≠ some b.g
  rapart : RApart h.rs
theorem HandsOk.lt {w : World} {h : Hands} (hh : HandsOk w h) {k : Nat} (hk : h.A k) : k < w.heap.size := by
  rcases hk with ⟨b, hb, rfl⟩ | ⟨r, hr, e⟩
  · exact (hh.blks b hb).lt
  · exact (hh.rows r hr).lt e
/-- the cells that the handed blocks hold then: as many as they held -/
def CellsOk (w : World) : List HB → List (List Value) → Prop
  | [], [] => True
  | b :: r, cs :: css => cs.length = b.cs.length ∧ Blk w b.g b.t cs.toArray ∧ CellsOk w r css
  | _, _ => False
/-- the blocks that somebody writes, with those of these rows -/
def MR (M : Nat → Prop) (R : List Rw) (k : Nat) : Prop := M k ∨ ∃ r ∈ R, rb r.v = some k
/-- what such a call returns, and what its caller's blocks and rows hold then -/
def RetH (G : GW) (h : Hands) (T : Value → List (List Value) → List Rw → GW → Prop) (e : Ending) (w' : World) : Prop :=
  ∃ v css R, e = .returned v ∧ CellsOk w' h.bs css ∧ (∀ r ∈ R, RowIs w' r ∧ ∀ g, rb r.v = some g → (∃ q ∈ h.rs, rb q.v = some g) ∨ G.w.heap.size ≤ g) ∧ RApart R ∧ T v css R ⟨MR G.M R, w'⟩ ∧ Chg h.A G.w w'
theorem RetH.mono {P : Program} {f : FuncId} {args : Array Value} {G : GW} {h : Hands} {T T' : Value → List (List Value) → List Rw → GW → Prop} (hc : Calls P f args G.w (RetH G h T)) (k : ∀ v css R G', T v css R G' → T' v css R G') : Calls P f args G.w (RetH G h T') :=
  Calls.mono hc fun _ _ ⟨v, css, R, he, hl, hr, ha, hT, hg⟩ => ⟨v, css, R, he, hl, hr, ha, k v css R _ hT, hg⟩
def initS : Nat → List SV → List (Nat × SV)
  | _, [] => []
  | i, v :: r => (i, v) :: initS (i + 1) r
theorem look_initS : ∀ (l : List SV) (i t : Nat) (v : SV), look (initS i l) t = some v → l[t - i]? = some v ∧ i ≤ t
  | [], _, _, _, h => by cases h
  | x :: r, i, t, v, h => by
    have h' : (if i = t then some x else look (initS (i + 1) r) t) = some v := h
    split at h'
    · rename_i e
      subst e
      cases h'
      exact ⟨by simp, Nat.le_refl _⟩
    · rename_i e
      obtain ⟨h1, h2⟩ := look_initS r (i + 1) t v h'
      refine ⟨?_, by omega⟩
      obtain ⟨m, rfl⟩ : ∃ m, t = i + 1 + m := ⟨t - (i + 1), by omega⟩
      rw [show i + 1 + m - (i + 1) = m by omega] at h1
      rw [show i + 1 + m - i = m + 1 by omega]
      simpa using h1
def startH (G : GW) (bl : List Bl) (rs : List Rw) (svs : List SV) : St := ⟨initS 0 svs, bl, rs, [], [G], bl.length⟩
/-- the beginning: a call that may write blocks and rows of its caller's -/
theorem enterH {P : Program} {f : FuncId} {fn : Func} {c : Code} {G : GW} {h : Hands} {R : Ending → World → Prop} {n : Nat} (N : Nat) (svs : List SV) (bl : List Bl) (hbl : h.bs = bl.map Bl.hb) (hG : G.Wf) (hh : HandsOk G.w h) (hM : ∀ k, h.A k → G.M k) (hf : P.funcs[f]? = some fn) (hb : fn.body = some c) (hn : fn.ntmps = n)
    (hl : svs.length ≤ n) (hw : W P ⟨G.w, h.A, G.M, n, true⟩ N (.base (bodyPost P fn R)) (.code c) (startH G bl h.rs svs)) : Calls P f (svs.map SV.den).toArray G.w R := by
  refine calls_of_wp hf hb ?_
  refine W_sound N (.base (bodyPost P fn R)) (.code c) _ (QOk_body P fn R) hw trivial _ _ ?_
  have hmem : ∀ b ∈ bl, b.hb ∈ h.bs := fun b hb => by rw [hbl]; exact List.mem_map_of_mem hb
  have hnd : bl.Pairwise fun b c => b.g ≠ c.g := by
    have := hh.nodup
    rw [hbl, List.pairwise_map] at this
    exact this
  refine ⟨fun u v hv => ?_, (by simp [hn]; omega), rfl, fun b hb => hh.blks _ (hmem b hb), hnd, fun b hb => .inl (.inl ⟨_, hmem b hb, rfl⟩), fun r hr => ⟨hh.rows r hr, fun g e => .inl (.inr ⟨r, hr, e⟩)⟩, fun r hr b hb => hh.apart r hr _ (hmem b hb), hh.rapart, (fun v hv => by cases hv), Chg.refl _ _, ?_, hG⟩
  · obtain ⟨hx, _⟩ := look_initS _ _ _ _ hv
    have hx' : (svs.map SV.den).toArray[u]? = some v.den := by
      rw [Nat.sub_zero] at hx
      simp [hx]
    rw [Array.getElem?_append_left (by exact (Array.getElem?_eq_some_iff.1 hx').1)]
    exact hx'
  · intro s hs
    have : s = G := by simpa [startH] using hs
    subst this
    refine ⟨Nat.le_refl _, fun k _ hm => ⟨rfl, fun q => ?_⟩⟩
    rcases q with q | ⟨b, hb, e⟩ | ⟨r, hr, e⟩
    · exact hm q
    · exact hm (hM k (.inl ⟨_, hmem b hb, e⟩))
    · exact hm (hM k (.inr ⟨r, hr, e⟩))
section
variable {E : Env} {σ : St} {a : Act} {w : World}
/-- what is known of the handed blocks at the end: they bear the first numbers -/
def cellsOf : Nat → List HB → List Bl → Option (List (List SC))
  | _, [], _ => some []
  | i, b :: r, B => (getBl B i).bind fun c => (cellsOf (i + 1) r B).bind fun l => if c.g = b.g ∧ c.t = b.t ∧ c.cs.length = b.cs.length then some (c.cs :: l) else none
theorem cellsOf_ok (hr : Rel E σ a w) : ∀ (i : Nat) (l : List HB) (css : List (List SC)), cellsOf i l σ.blks = some css → CellsOk w l (css.map (List.map SC.den))
  | _, [], css, h => by cases h; trivial
  | i, b :: r, css, h => by
    obtain ⟨c, hc, h⟩ := Option.bind_eq_some_iff.1 h
    obtain ⟨l, hl, h⟩ := Option.bind_eq_some_iff.1 h
    split at h
    · rename_i q
      cases h
      refine ⟨by simpa using q.2.2, ?_, cellsOf_ok hr (i + 1) r l hl⟩
      have := hr.blks c (getBl_mem hc)
      rw [q.1, q.2.1] at this
      exact this
    · cases h
theorem cellsOf_mem {B : List Bl} : ∀ (i : Nat) (l : List HB) (css : List (List SC)), cellsOf i l B = some css → ∀ b ∈ l, ∃ c ∈ B, c.g = b.g
  | _, [], _, _, b, hb => by cases hb
  | i, x :: r, css, h, b, hb => by
    obtain ⟨c, hc, h⟩ := Option.bind_eq_some_iff.1 h
    obtain ⟨l, hl, h⟩ := Option.bind_eq_some_iff.1 h
    split at h
    · rename_i q
      rcases List.mem_cons.1 hb with rfl | hb
      · exact ⟨c, getBl_mem hc, q.1⟩
      · exact cellsOf_mem (i + 1) r l hl b hb
    · cases h
/-- at the end of a call with hands -/
def FinH (P : Program) (E : Env) (G : GW) (h : Hands) (σ : St) (rs : List ResultVar) (T : Value → List (List Value) → List Rw → GW → Prop) : Prop := match resL P σ rs, cellsOf 0 h.bs σ.blks with
  | some (s, vs), some css => s ∧ ∀ a w, Rel E σ a w → (∀ s ∈ σ.snaps, s.Le ⟨MR G.M σ.rows, w⟩) → T (resV vs) (css.map (List.map SC.den)) σ.rows ⟨MR G.M σ.rows, w⟩
  | _, _ => False
theorem Rel.finH {s : Bool} {G : GW} {h : Hands} {n : Nat} (hr : Rel ⟨G.w, h.A, G.M, n, s⟩ σ a w) : ∀ s ∈ σ.snaps, s.Le ⟨MR G.M σ.rows, w⟩ := fun s hs =>
  ⟨(hr.snaps s hs).size, fun k hk hm => ⟨((hr.snaps s hs).keep k hk hm).1, fun q => ((hr.snaps s hs).keep k hk hm).2 (by
    rcases q with q | q
    · exact .inl q
    · exact .inr (.inr q))⟩⟩
theorem retH_of {s : Bool} {P : Program} {G : GW} {h : Hands} {n : Nat} {T : Value → List (List Value) → List Rw → GW → Prop} {v : Value} {css : List (List SC)} (hc : cellsOf 0 h.bs σ.blks = some css) (hr : Rel ⟨G.w, h.A, G.M, n, s⟩ σ a w)
    (hT : T v (css.map (List.map SC.den)) σ.rows ⟨MR G.M σ.rows, w⟩) : RetH G h T (.returned v) w := by
  refine ⟨v, _, σ.rows, rfl, cellsOf_ok hr _ _ _ hc, fun r hr' => ⟨(hr.rows r hr').is, fun g e => ?_⟩, hr.rapart, hT, hr.chg⟩
  rcases (hr.rows r hr').own g e with q | q
  · rcases q with ⟨b, hb, rfl⟩ | q
    · exfalso
      obtain ⟨c, hc', e'⟩ := cellsOf_mem _ _ _ hc b hb
      exact hr.apart r hr' c hc' (by rw [e, e'])
    · exact .inl q
  · exact .inr q
theorem fin_retH {s : Bool} {P : Program} {G : GW} {h : Hands} {n : Nat} {σ : St} {fn : Func} {rs : Array ResultVar} {T : Value → List (List Value) → List Rw → GW → Prop} (hrs : fn.results = rs) (hF : FinH P ⟨G.w, h.A, G.M, n, s⟩ G h σ rs.toList T) :
    Ok ⟨G.w, h.A, G.M, n, s⟩ σ (bodyPost P fn (RetH G h T) .ret) := by
  unfold FinH at hF
  split at hF
  · rename_i s vs css hl hc
    exact ret_ok hrs hl hF.1 fun a w hr => retH_of (P := P) hc hr (hF.2 a w hr hr.finH)
  · exact hF.elim
def finHB (E : Env) (G : GW) (σ : St) (T : Value → List (List Value) → List Rw → GW → Prop) : Option (Prop × List SV) → Option (List (List SC)) → Prop
  | some (s, vs), some css => s ∧ ∀ a w, Rel E σ a w → (∀ s ∈ σ.snaps, s.Le ⟨MR G.M σ.rows, w⟩) → T (resV vs) (css.map (List.map SC.den)) σ.rows ⟨MR G.M σ.rows, w⟩
  | _, _ => False
@[go_sem] theorem FinH_def (P : Program) (E : Env) (G : GW) (h : Hands) (σ : St) (rs : List ResultVar) (T : Value → List (List Value) → List Rw → GW → Prop) : FinH P E G h σ rs T = finHB E G σ T (resL P σ rs) (cellsOf 0 h.bs σ.blks) := by
  unfold FinH finHB
  cases resL P σ rs with
  | none => rfl
  | some x => cases cellsOf 0 h.bs σ.blks <;> rfl
@[go_sem] theorem finHB_some (E : Env) (G : GW) (σ : St) (T : Value → List (List Value) → List Rw → GW → Prop) (s : Prop) (vs : List SV) (css : List (List SC)) : finHB E G σ T (some (s, vs)) (some css) = (s ∧ ∀ a w, Rel E σ a w → (∀ s ∈ σ.snaps, s.Le ⟨MR G.M σ.rows, w⟩) → T (resV vs) (css.map (List.map SC.den)) σ.rows ⟨MR G.M σ.rows, w⟩) := rfl
def cells1 (b : HB) : Option Bl → Option (List (List SC)) → Option (List (List SC))
  | some c, some l => if c.g = b.g ∧ c.t = b.t ∧ c.cs.length = b.cs.length then some (c.cs :: l) else none
  | _, _ => none
@[go_sem] theorem cellsOf_nil (i : Nat) (B : List Bl) : cellsOf i [] B = some [] := rfl
@[go_sem] theorem cellsOf_cons (i : Nat) (b : HB) (r : List HB) (B : List Bl) : cellsOf i (b :: r) B = cells1 b (getBl B i) (cellsOf (i + 1) r B) := by
  show (getBl B i).bind _ = _
  cases getBl B i with
  | none => rfl
  | some c => cases cellsOf (i + 1) r B <;> rfl
@[go_sem] theorem cells1_some (g t j g' t' : Nat) (cs : List Value) (cs' : List SC) (l : List (List SC)) : cells1 ⟨g, t, cs⟩ (some ⟨j, g', t', cs'⟩) (some l) = if g' = g ∧ t' = t ∧ cs'.length = cs.length then some (cs' :: l) else none := rfl
@[go_sem] theorem startH_def (G : GW) (B : List Bl) (R : List Rw) (svs : List SV) : startH G B R svs = ⟨initS 0 svs, B, R, [], [G], B.length⟩ := rfl
@[go_sem] theorem initS_nil (i : Nat) : initS i [] = [] := rfl
@[go_sem] theorem initS_cons (i : Nat) (v : SV) (r : List SV) : initS i (v :: r) = (i, v) :: initS (i + 1) r := rfl
@[go_sem] theorem hands_bs (B : List HB) (R : List Rw) : Hands.bs ⟨B, R⟩ = B := rfl
@[go_sem] theorem hands_rs (B : List HB) (R : List Rw) : Hands.rs ⟨B, R⟩ = R := rfl
@[go_sem] theorem bl_id (i g t : Nat) (cs : List SC) : Bl.id ⟨i, g, t, cs⟩ = i := rfl
/-- blocks, some of which hold other cells -/
def pickCs : List (Nat × List SC) → Nat → List SC → List SC
  | [], _, cs => cs
  | (j, cs') :: r, i, cs => if j = i then cs' else pickCs r i cs
def repl (hs : List (Nat × List SC)) : List Bl → List Bl
  | [] => []
  | ⟨i, g, t, cs⟩ :: r => ⟨i, g, t, pickCs hs i cs⟩ :: repl hs r
@[go_sem] theorem sx_zip_nil {α β : Type} (l : List β) : List.zip ([] : List α) l = [] := by cases l <;> rfl
@[go_sem] theorem sx_zip_cons {α β : Type} (x : α) (y : β) (l : List α) (m : List β) : List.zip (x :: l) (y :: m) = (x, y) :: List.zip l m := rfl
@[go_sem] theorem upV_nil : List.map (List.map SC.v) [] = [] := rfl
@[go_sem] theorem repl_nil (hs : List (Nat × List SC)) : repl hs [] = [] := rfl
@[go_sem] theorem repl_cons (hs : List (Nat × List SC)) (i g t : Nat) (cs : List SC) (r : List Bl) : repl hs (⟨i, g, t, cs⟩ :: r) = ⟨i, g, t, pickCs hs i cs⟩ :: repl hs r := rfl
@[go_sem] theorem pick_nil (i : Nat) (cs : List SC) : pickCs [] i cs = cs := rfl
@[go_sem] theorem pick_cons (j : Nat) (cs' : List SC) (r : List (Nat × List SC)) (i : Nat) (cs : List SC) : pickCs ((j, cs') :: r) i cs = if j = i then cs' else pickCs r i cs := rfl
theorem mem_repl {hs : List (Nat × List SC)} : ∀ {B : List Bl} {b : Bl}, b ∈ repl hs B → ∃ c ∈ B, b = { c with cs := pickCs hs c.id c.cs }
  | ⟨i, g, t, cs⟩ :: r, b, h => by
    rcases List.mem_cons.1 h with rfl | h
    · exact ⟨_, List.mem_cons_self, rfl⟩
    · obtain ⟨c, hc, e⟩ := mem_repl h
      exact ⟨c, List.mem_cons_of_mem _ hc, e⟩
theorem nodup_repl {hs : List (Nat × List SC)} : ∀ {B : List Bl}, B.Pairwise (fun b c => b.g ≠ c.g) → (repl hs B).Pairwise fun b c => b.g ≠ c.g
  | [], _ => List.Pairwise.nil
  | ⟨i, g, t, cs⟩ :: r, h => by
    obtain ⟨h1, h2⟩ := List.pairwise_cons.1 h
    refine List.pairwise_cons.2 ⟨fun b hb => ?_, nodup_repl h2⟩
    obtain ⟨c, hc, rfl⟩ := mem_repl hb
    exact h1 c hc
/-- the blocks that are handed, by their numbers -/
def blsOf (B : List Bl) : List Nat → Option (List Bl)
  | [] => some []
  | i :: r => (getBl B i).bind fun b => (blsOf B r).map (b :: ·)
theorem getBl_id : ∀ {B : List Bl} {i : Nat} {b : Bl}, getBl B i = some b → b.id = i
  | x :: B, i, b, h => by
    unfold getBl at h
    split at h
    · rename_i q; cases h; exact q
    · exact getBl_id h
theorem blsOf_mem {B : List Bl} : ∀ {ids : List Nat} {bl : List Bl}, blsOf B ids = some bl → ∀ b ∈ bl, getBl B b.id = some b ∧ b ∈ B
  | [], bl, h, b, hb => by cases h; cases hb
  | i :: r, bl, h, b, hb => by
    obtain ⟨c, hc, h⟩ := Option.bind_eq_some_iff.1 h
    obtain ⟨l, hl, rfl⟩ := Option.map_eq_some_iff.1 h
    rcases List.mem_cons.1 hb with rfl | hb
    · rw [getBl_id hc]
      exact ⟨hc, getBl_mem hc⟩
    · exact blsOf_mem hl b hb
theorem cellsOk_pick {w : World} : ∀ {bl : List Bl} {css : List (List SC)}, CellsOk w (bl.map Bl.hb) (css.map (List.map SC.den)) → ∀ b, (∃ c ∈ bl, c.id = b.id) → (∀ c ∈ bl, c.id = b.id → c = b) →
    Blk w b.g b.t (dens (pickCs ((bl.map (·.id)).zip css) b.id b.cs)) ∧ (pickCs ((bl.map (·.id)).zip css) b.id b.cs).length = b.cs.length
  | [], _, _, b, ⟨c, hc, _⟩, _ => by cases hc
  | x :: bl, [], h, _, _, _ => h.elim
  | x :: bl, cs :: css, h, b, hx, hu => by
    obtain ⟨h1, h2, h3⟩ := h
    show Blk w b.g b.t (dens (if x.id = b.id then cs else pickCs _ b.id b.cs)) ∧ (if x.id = b.id then cs else pickCs _ b.id b.cs).length = b.cs.length
    by_cases e : x.id = b.id
    · rw [if_pos e]
      obtain rfl := hu x List.mem_cons_self e
      exact ⟨h2, by simpa [Bl.hb] using h1⟩
    · rw [if_neg e]
      refine cellsOk_pick h3 b ?_ (fun c hc => hu c (List.mem_cons_of_mem _ hc))
      obtain ⟨c, hc, q⟩ := hx
      rcases List.mem_cons.1 hc with rfl | hc
      · exact absurd q e
      · exact ⟨c, hc, q⟩
theorem pick_other : ∀ {ids : List Nat} {css : List (List SC)} {i : Nat} {cs : List SC}, i ∉ ids → pickCs (ids.zip css) i cs = cs
  | [], _, _, _, _ => by cases ‹List (List SC)› <;> rfl
  | _ :: _, [], _, _, _ => rfl
  | j :: ids, c :: css, i, cs, h => by
    show (if j = i then c else pickCs (ids.zip css) i cs) = cs
    rw [if_neg (fun e => h (by rw [e]; exact List.mem_cons_self))]
    exact pick_other (fun q => h (List.mem_cons_of_mem _ q))
theorem pair_ne {b c : Bl} : ∀ {B : List Bl}, B.Pairwise (fun b c => b.g ≠ c.g) → b ∈ B → c ∈ B → b ≠ c → b.g ≠ c.g
  | x :: B, hB, hb, hc, hne => by
    obtain ⟨b1, b2⟩ := List.pairwise_cons.1 hB
    rcases List.mem_cons.1 hb with e | hb
    · rcases List.mem_cons.1 hc with e' | hc
      · exact absurd (e.trans e'.symm) hne
      · rw [e]; exact b1 c hc
    · rcases List.mem_cons.1 hc with e' | hc
      · rw [e']; exact fun q => b1 b hb q.symm
      · exact pair_ne b2 hb hc hne
/-- the state behind a call with hands -/
theorem Rel.handed {w' : World} (h : Rel E σ a w) {ids : List Nat} {bl : List Bl} (hbl : blsOf σ.blks ids = some bl) {R1 rs R2 R : List Rw} (hR : σ.rows = R1 ++ rs ++ R2) {css : List (List SC)}
    (hid : ∀ b ∈ σ.blks, ∀ c ∈ bl, c.id = b.id → c = b)
    (hcs : CellsOk w' (bl.map Bl.hb) (css.map (List.map SC.den))) (hro : ∀ r ∈ R, RowIs w' r ∧ ∀ g, rb r.v = some g → (∃ q ∈ rs, rb q.v = some g) ∨ w.heap.size ≤ g) (hap : RApart R) (hc : Chg (Hands.A ⟨bl.map Bl.hb, rs⟩) w w') :
    Rel E { σ with blks := repl ((bl.map (·.id)).zip css) σ.blks, rows := R1 ++ R ++ R2, snaps := ⟨MR (σ.M E) R, w'⟩ :: σ.snaps } a w' := by
  have hWs := h.chg.size
  have hmem := blsOf_mem hbl
  have hrs : ∀ r ∈ rs, r ∈ σ.rows := fun r hr => by rw [hR]; simp [hr]
  have hot : ∀ r, r ∈ R1 ∨ r ∈ R2 → r ∈ σ.rows := fun r hr => by
    rw [hR]
    rcases hr with hr | hr <;> simp [hr]
  have hap0 := h.rapart
  rw [hR, List.append_assoc, List.pairwise_append] at hap0
  obtain ⟨p1, p23, p1x⟩ := hap0
  rw [List.pairwise_append] at p23
  obtain ⟨p2, p3, p23x⟩ := p23
  -- the other rows lie elsewhere
  have hoth : ∀ r, r ∈ R1 ∨ r ∈ R2 → ∀ g, rb r.v = some g → ∀ q ∈ rs, rb q.v ≠ some g := by
    intro r hr g e q hq e'
    rcases hr with hr | hr
    · exact p1x r hr q (List.mem_append_left _ hq) g e e'
    · exact p23x q hq r hr g e' e
  have hothA : ∀ r, r ∈ R1 ∨ r ∈ R2 → ∀ g, rb r.v = some g → ¬ Hands.A ⟨bl.map Bl.hb, rs⟩ g := by
    intro r hr g e q
    rcases q with ⟨b, hb, rfl⟩ | ⟨q, hq, e'⟩
    · obtain ⟨b, hb', rfl⟩ := List.mem_map.1 hb
      exact h.apart r (hot r hr) b (hmem b hb').2 e
    · exact hoth r hr g e q hq e'
  have hkeep : ∀ k, k < w.heap.size → ¬ Hands.A ⟨bl.map Bl.hb, rs⟩ k → w'.heap[k]? = w.heap[k]? := hc.block
  have hAM : ∀ k, Hands.A ⟨bl.map Bl.hb, rs⟩ k → σ.M E k := by
    rintro k (⟨b, hb, rfl⟩ | ⟨q, hq, e⟩)
    · obtain ⟨b, hb', rfl⟩ := List.mem_map.1 hb
      exact .inr (.inl ⟨b, (hmem b hb').2, rfl⟩)
    · exact .inr (.inr ⟨q, hrs q hq, e⟩)
  have hnewR : ∀ r ∈ R, ∀ g, rb r.v = some g → g < w.heap.size → ∃ q ∈ rs, rb q.v = some g := by
    intro r hr g e hl
    rcases (hro r hr).2 g e with q | q
    · exact q
    · omega
  have hmr : ∀ r, r ∈ R1 ++ R ++ R2 → r ∈ R ∨ (r ∈ R1 ∨ r ∈ R2) := by
    intro r hr
    rcases List.mem_append.1 hr with hr | hr
    · rcases List.mem_append.1 hr with hr | hr
      · exact .inr (.inl hr)
      · exact .inl hr
    · exact .inr (.inr hr)
  have hM : ∀ k, St.M E { σ with blks := repl ((bl.map (·.id)).zip css) σ.blks, rows := R1 ++ R ++ R2, snaps := ⟨MR (σ.M E) R, w'⟩ :: σ.snaps } k → MR (σ.M E) R k := by
    rintro k (q | ⟨b, hb, rfl⟩ | ⟨r, hr, e⟩)
    · exact .inl (.inl q)
    · obtain ⟨c, hc', rfl⟩ := mem_repl hb
      exact .inl (.inr (.inl ⟨c, hc', rfl⟩))
    · rcases hmr r hr with hr | hr
      · exact .inr ⟨r, hr, e⟩
      · exact .inl (.inr (.inr ⟨r, hot r hr, e⟩))
  have hM2 : ∀ k, k < w.heap.size → MR (σ.M E) R k → σ.M E k := by
    rintro k hk (q | ⟨r, hr, e⟩)
    · exact q
    · obtain ⟨q, hq, e'⟩ := hnewR r hr k e hk
      exact .inr (.inr ⟨q, hrs q hq, e'⟩)
  refine ⟨h.tmps, h.size, h.defers, ?_, nodup_repl h.nodup, ?_, ?_, ?_, ?_, ?_, ?_, ?_, h.mem⟩
  · intro b hb
    obtain ⟨c, hc', rfl⟩ := mem_repl hb
    by_cases q : ∃ d ∈ bl, d.id = c.id
    · exact (cellsOk_pick hcs c q (fun d hd e => hid c hc' d hd e)).1
    · have hn : c.id ∉ bl.map (·.id) := fun m => by
        obtain ⟨d, hd, e⟩ := List.mem_map.1 m
        exact q ⟨d, hd, e⟩
      rw [pick_other hn]
      refine (hkeep c.g (h.blks c hc').lt (fun x => ?_)).trans (h.blks c hc')
      rcases x with ⟨d, hd, e⟩ | ⟨r, hr, e⟩
      · obtain ⟨d, hd0, rfl⟩ := List.mem_map.1 hd
        have : d = c := by
          have hd' := (hmem d hd0).2
          have hnd := h.nodup
          clear hM hmr
          by_cases e2 : d = c
          · exact e2
          · exact absurd e (pair_ne hnd hd' hc' e2)
        exact q ⟨d, hd0, by rw [this]⟩
      · exact h.apart r (hrs r hr) c hc' e
  · intro b hb
    obtain ⟨c, hc', rfl⟩ := mem_repl hb
    exact h.own c hc'
  · intro r hr
    rcases hmr r hr with hr | hr
    · refine ⟨(hro r hr).1, fun g e => ?_⟩
      rcases (hro r hr).2 g e with ⟨q, hq, e'⟩ | q
      · exact (h.rows q (hrs q hq)).own g e'
      · exact .inr (by omega)
    · exact (h.rows r (hot r hr)).block fun g e => hkeep g ((h.rows r (hot r hr)).is.lt e) (hothA r hr g e)
  · intro r hr b hb
    obtain ⟨c, hc', rfl⟩ := mem_repl hb
    rcases hmr r hr with hr | hr
    · intro e
      obtain ⟨q, hq, e'⟩ := hnewR r hr _ e (h.blks c hc').lt
      exact h.apart q (hrs q hq) c hc' e'
    · exact h.apart r (hot r hr) c hc'
  · have hRo : ∀ r ∈ R, ∀ q, q ∈ R1 ∨ q ∈ R2 → ∀ k, rb r.v = some k → rb q.v ≠ some k := by
      intro r hr q hq k e e'
      obtain ⟨x, hx, e2⟩ := hnewR r hr k e ((h.rows q (hot q hq)).is.lt e')
      exact hoth q hq k e' x hx e2
    refine List.pairwise_append.2 ⟨List.pairwise_append.2 ⟨p1, hap, fun r hr q hq k e e' => hRo q hq r (.inl hr) k e' e⟩, p3, fun r hr q hq k e => ?_⟩
    rcases List.mem_append.1 hr with hr | hr
    · exact p1x r hr q (List.mem_append_right _ hq) k e
    · exact hRo r hr q (.inr hq) k e
  · intro v hv
    obtain ⟨h1, h2, h3⟩ := h.views v hv
    exact ⟨Nat.lt_of_lt_of_le h1 hc.size, fun q => h2 (hM2 _ h1 (hM _ q)), range_block h3 (hkeep _ h1 (fun q => h2 (hAM _ q)))⟩
  · refine ⟨hc.os.trans h.chg.os, hc.tape.trans h.chg.tape, hc.output.trans h.chg.output, Nat.le_trans hWs hc.size, fun k hk hA => (hkeep k (Nat.lt_of_lt_of_le hk hWs) ?_).trans (h.chg.block k hk hA)⟩
    rintro (⟨b, hb, rfl⟩ | ⟨q, hq, e⟩)
    · obtain ⟨b, hb', rfl⟩ := List.mem_map.1 hb
      rcases h.own b (hmem b hb').2 with y | y
      · exact hA y
      · exact absurd hk (Nat.not_lt.2 y)
    · rcases (h.rows q (hrs q hq)).own k e with y | y
      · exact hA y
      · exact absurd hk (Nat.not_lt.2 y)
  · intro s hs
    rcases List.mem_cons.1 hs with rfl | hs
    · exact ⟨Nat.le_refl _, fun k _ hm => ⟨rfl, fun q => hm (hM k q)⟩⟩
    · have hs' := h.snaps s hs
      refine ⟨Nat.le_trans hs'.size hc.size, fun k hk hm => ?_⟩
      obtain ⟨e, n⟩ := hs'.keep k hk hm
      have hkw : k < w.heap.size := Nat.lt_of_lt_of_le hk hs'.size
      exact ⟨(hkeep k hkw (fun q => n (hAM k q))).trans e, fun q => n (hM2 k hkw (hM k q))⟩
/-- all numbers differ -/
theorem diff_get : ∀ {B : List Bl}, Diff (ids B) → ∀ b ∈ B, ∀ c ∈ B, b.id = c.id → b = c
  | [], _, b, hb, _, _, _ => by cases hb
  | x :: B, h, b, hb, c, hc, e => by
    obtain ⟨h1, h2⟩ := h
    rcases List.mem_cons.1 hb with e1 | hb
    · rcases List.mem_cons.1 hc with e2 | hc
      · rw [e1, e2]
      · exact absurd (by rw [← e1]; exact e) (h1 _ (mem_ids hc))
    · rcases List.mem_cons.1 hc with e2 | hc
      · exact absurd (by rw [← e2]; exact e.symm) (h1 _ (mem_ids hb))
      · exact diff_get h2 b hb c hc e
theorem blsOf_ids {B : List Bl} : ∀ {l : List Nat} {bl : List Bl}, blsOf B l = some bl → bl.map (·.id) = l
  | [], bl, h => by cases h; rfl
  | i :: r, bl, h => by
    obtain ⟨c, hc, h⟩ := Option.bind_eq_some_iff.1 h
    obtain ⟨l, hl, rfl⟩ := Option.map_eq_some_iff.1 h
    rw [List.map_cons, getBl_id hc, blsOf_ids hl]
theorem Now.hands {G : GW} (hn : Now E σ G) {l : List Nat} {bl : List Bl} (hbl : blsOf σ.blks l = some bl) (hd : Diff (ids σ.blks)) (hl : l.Pairwise (· ≠ ·)) {R1 rs R2 : List Rw} (hR : σ.rows = R1 ++ rs ++ R2) :
    HandsOk G.w ⟨bl.map Bl.hb, rs⟩ ∧ ∀ k, Hands.A ⟨bl.map Bl.hb, rs⟩ k → G.M k := by
  have hmem := blsOf_mem hbl
  have hrs : ∀ r ∈ rs, r ∈ σ.rows := fun r hr => by rw [hR]; simp [hr]
  have hap0 := hn.rapart
  rw [hR, List.append_assoc, List.pairwise_append] at hap0
  obtain ⟨p1, p23, p1x⟩ := hap0
  rw [List.pairwise_append] at p23
  refine ⟨⟨?_, ?_, fun r hr => (hn.rows r (hrs r hr)).is, ?_, p23.1⟩, ?_⟩
  · intro b hb
    obtain ⟨b, hb', rfl⟩ := List.mem_map.1 hb
    exact hn.blks b (hmem b hb').2
  · rw [List.pairwise_map]
    have hl' : bl.Pairwise fun b c => b.id ≠ c.id := by
      rw [← blsOf_ids hbl, List.pairwise_map] at hl
      exact hl
    exact hl'.imp_of_mem fun {b c} hb hc e => pair_ne hn.nodup (hmem b hb).2 (hmem c hc).2 (fun q => e (by rw [q]))
  · intro r hr b hb
    obtain ⟨b, hb', rfl⟩ := List.mem_map.1 hb
    exact hn.apart r (hrs r hr) b (hmem b hb').2
  · rintro k (⟨b, hb, rfl⟩ | ⟨q, hq, e⟩)
    · obtain ⟨b, hb', rfl⟩ := List.mem_map.1 hb
      exact hn.mine b (hmem b hb').2
    · exact hn.mineR q (hrs q hq) k e
/-- a call that may write blocks and rows of the call's own -/
theorem callH_does {P : Program} {o : Oper} {c : Call} {f : FuncId} {vs : List SV} (l : List Nat) {bl : List Bl} (R1 rs R2 : List Rw) (T : Value → List (List Value) → List Rw → GW → Prop) (up : List (List Value) → List (List SC))
    (ho : o.op = .call c) (hcal : c.callee = .value (.func f)) (hf : isFn P f = true) (hev : evs σ c.args.toList = some vs) (hd : dOk E o.dst) (hbl : blsOf σ.blks l = some bl) (hR : σ.rows = R1 ++ rs ++ R2) (hdf : Diff (ids σ.blks)) (hl : l.Pairwise (· ≠ ·))
    (hct : ∀ G : GW, Now E σ G → HandsOk G.w ⟨bl.map Bl.hb, rs⟩ → (∀ k, Hands.A ⟨bl.map Bl.hb, rs⟩ k → G.M k) → Calls P f (vs.map SV.den).toArray G.w (RetH G ⟨bl.map Bl.hb, rs⟩ T))
    (hup : ∀ v css R G, T v css R G → css.length = l.length → (up css).map (List.map SC.den) = css) :
    Does P E σ o (fun σ' => ∃ v css R G, T v css R G ∧ css.length = l.length ∧ (∀ s ∈ σ.snaps, s.Le G) ∧ σ' = (St.seen { σ with blks := repl (l.zip (up css)) σ.blks, rows := R1 ++ R ++ R2 } G).put o.dst (.c (.v v))) := by
  intro a w Q next hr hn
  unfold Oper.wp
  rw [run_call ho hcal hev hf hr.see]
  obtain ⟨hh, hM⟩ := hr.now.hands hbl hdf hl hR
  refine Calls.mono (hct ⟨σ.M E, w⟩ hr.now hh hM) fun e w' he => ?_
  obtain ⟨v, css, R, rfl, hcs, hro, hap, hT, hc⟩ := he
  have hlen : css.length = l.length := by
    rw [← blsOf_ids hbl, List.length_map]
    have : ∀ (B : List Bl) (css : List (List Value)), CellsOk w' (B.map Bl.hb) css → css.length = B.length := by
      intro B
      induction B with
      | nil => intro css h; cases css with
        | nil => rfl
        | cons => exact h.elim
      | cons b B ih => intro css h; cases css with
        | nil => exact h.elim
        | cons c css => simp [ih css h.2.2]
    exact this _ _ hcs
  have hu := hup v css R _ hT hlen
  have h1 := hr.handed (w' := w') hbl hR (css := up css) (fun b hb c hc' e => diff_get hdf c (blsOf_mem hbl c hc').2 b hb e) (by rw [hu]; exact hcs) hro hap hc
  rw [blsOf_ids hbl] at h1
  refine hn _ _ _ ⟨v, css, R, _, hT, hlen, fun s hs => ?_, rfl⟩ (h1.put o.dst (.c (.v v)) (dOk_lt hd))
  have hs' := hr.snaps s hs
  refine ⟨Nat.le_trans hs'.size hc.size, fun k hk hm => ?_⟩
  obtain ⟨e, n⟩ := hs'.keep k hk hm
  have hkw : k < w.heap.size := Nat.lt_of_lt_of_le hk hs'.size
  refine ⟨(hc.block k hkw (fun q => n (hM k q))).trans e, fun q => ?_⟩
  rcases q with q | ⟨r, hr', e'⟩
  · exact n q
  · rcases (hro r hr').2 k e' with ⟨x, hx, e2⟩ | y
    · exact n (hM k (.inr ⟨x, hx, e2⟩))
    · exact absurd hkw (Nat.not_lt.2 y)
/-- values as cells -/
def upV (css : List (List Value)) : List (List SC) := css.map (List.map SC.v)
@[go_sem] theorem upV_def (css : List (List Value)) : upV css = css.map (List.map SC.v) := rfl
theorem upV_den (css : List (List Value)) : (upV css).map (List.map SC.den) = css := by
  unfold upV
  rw [List.map_map]
  have : (List.map SC.den) ∘ (List.map SC.v) = id := by
    funext l
    simp [Function.comp_def, SC.den]
  rw [this, List.map_id]
/-- the world, but that these rows are nobody's -/
def GW.less (G : GW) (R : List Rw) : GW := ⟨fun k => G.M k ∧ ∀ r ∈ R, rb r.v ≠ some k, G.w⟩
theorem GW.le_less (G : GW) (R : List Rw) : G.Le (G.less R) := ⟨Nat.le_refl _, fun _ _ h => ⟨rfl, fun q => h q.1⟩⟩
theorem GW.Wf.less {G : GW} (h : G.Wf) (R : List Rw) : (G.less R).Wf := fun k hk => h k hk.1
/-- a row of the call's own, read for the time of a call -/
theorem Now.sl {G : GW} (hn : Now E σ G) {r : Rw} (hr : r ∈ σ.rows) (hk : r.k ≠ 0) : Sl (G.less σ.rows) r.t r.k r.n r.v r.xs := by
  rcases (hn.rows r hr).is with ⟨B, e1, e2, e3⟩ | h | ⟨q, _⟩
  · rw [e1, e2, e3]
    exact ⟨B, 0, rfl, Nat.le_refl _, Nat.zero_le _, by simp, fun q => absurd q (by omega)⟩
  · rcases h.2 with ⟨e1, e2⟩ | ⟨g, cap, cur, e, _, hg, h1, h2, h3, h4⟩
    · rw [e1, e2]
      have : r.xs = [] := List.eq_nil_of_length_eq_zero (by rw [h.1, e2, Nat.zero_mul])
      rw [this]
      exact Sl.nil _ _ _
    · refine ⟨_, cap, e, h1, h2, h.1, fun hn0 => ⟨g, 0, cur, (0, 0), rfl, fun q => q.2 r hr ?_, hg, fun j u hu => ?_⟩⟩
      · rw [e]
        show (if cap = 0 then none else some g) = some g
        rw [if_neg (by omega)]
      · rw [← h4, List.getElem?_take] at hu
        split at hu
        · simpa using hu
        · cases hu
  · exact absurd q hk
theorem Ret.anyM {P : Program} {f : FuncId} {args : Array Value} {w : World} {M M' : Nat → Prop} {T : Value → Prop} (h : Calls P f args w (Ret ⟨M', w⟩ fun v _ => T v)) : Calls P f args w (Ret ⟨M, w⟩ fun v _ => T v) := Calls.mono h fun _ _ h => h
/-- a row that is not looked at any more -/
theorem dropRow_ok {Φ : Act → World → Prop} (R1 R2 : List Rw) {r : Rw} (hR : σ.rows = R1 ++ r :: R2) (h : Ok E (σ.rowsTo (R1 ++ R2)) Φ) : Ok E σ Φ := by
  intro a w hr
  have hsub : ∀ q ∈ R1 ++ R2, q ∈ σ.rows := by
    intro q hq
    rw [hR]
    rcases List.mem_append.1 hq with hq | hq
    · exact List.mem_append_left _ hq
    · exact List.mem_append_right _ (List.mem_cons_of_mem _ hq)
  have hap := hr.rapart
  rw [hR, List.pairwise_append, List.pairwise_cons] at hap
  obtain ⟨p1, ⟨p2, p3⟩, p4⟩ := hap
  have hM : ∀ k, St.M E (σ.rowsTo (R1 ++ R2)) k → σ.M E k := by
    rintro k (q | q | ⟨r, hr', e⟩)
    · exact .inl q
    · exact .inr (.inl q)
    · exact .inr (.inr ⟨r, hsub r hr', e⟩)
  exact h a w ⟨hr.tmps, hr.size, hr.defers, hr.blks, hr.nodup, hr.own, fun q hq => hr.rows q (hsub q hq), fun q hq => hr.apart q (hsub q hq),
    List.pairwise_append.2 ⟨p1, p3, fun q hq q' hq' => p4 q hq q' (List.mem_cons_of_mem _ hq')⟩,
    fun v hv => let ⟨h1, h2, h3⟩ := hr.views v hv; ⟨h1, fun q => h2 (hM _ q), h3⟩, hr.chg,
    fun s hs => ⟨(hr.snaps s hs).size, fun k hk hm => ⟨((hr.snaps s hs).keep k hk hm).1, fun q => ((hr.snaps s hs).keep k hk hm).2 (hM k q)⟩⟩, hr.mem⟩
/-- rows in another order -/
theorem rowsPerm_ok {Φ : Act → World → Prop} {R : List Rw} (hp : σ.rows.Perm R) (h : Ok E (σ.rowsTo R) Φ) : Ok E σ Φ := by
  intro a w hr
  have hM : ∀ k, St.M E (σ.rowsTo R) k → σ.M E k := by
    rintro k (q | q | ⟨r, hr', e⟩)
    · exact .inl q
    · exact .inr (.inl q)
    · exact .inr (.inr ⟨r, hp.mem_iff.2 hr', e⟩)
  exact h a w ⟨hr.tmps, hr.size, hr.defers, hr.blks, hr.nodup, hr.own, fun r h' => hr.rows r (hp.mem_iff.2 h'), fun r h' => hr.apart r (hp.mem_iff.2 h'), (hp.pairwise_iff (fun {a b} h k e e' => h k e' e)).1 hr.rapart,
    fun v hv => let ⟨h1, h2, h3⟩ := hr.views v hv; ⟨h1, fun q => h2 (hM _ q), h3⟩, hr.chg, fun s hs => ⟨(hr.snaps s hs).size, fun k hk hm => ⟨((hr.snaps s hs).keep k hk hm).1, fun q => ((hr.snaps s hs).keep k hk hm).2 (hM k q)⟩⟩, hr.mem⟩
/-- a block of the call's own as a row: so many of its elements -/
theorem blkRowN_ok {Φ : Act → World → Prop} {B1 B2 : List Bl} {b : Bl} (hB : σ.blks = B1 ++ b :: B2) (k n cap : Nat) (hl : b.cs.length = cap * k) (hn : n ≤ cap) (hc : cap ≤ maxLen)
    (h : Ok E { σ with blks := B1 ++ B2, rows := ⟨.slice (some ⟨b.g, 0, none⟩) n cap, b.t, k, n, (b.cs.map SC.den).take (n * k)⟩ :: σ.rows } Φ) : Ok E σ Φ := by
  intro a w hr
  have hbm : b ∈ σ.blks := by rw [hB]; simp
  have hsub : ∀ q ∈ B1 ++ B2, q ∈ σ.blks := by
    intro q hq
    rw [hB]
    rcases List.mem_append.1 hq with hq | hq
    · exact List.mem_append_left _ hq
    · exact List.mem_append_right _ (List.mem_cons_of_mem _ hq)
  have hnd := hr.nodup
  rw [hB, List.pairwise_append, List.pairwise_cons] at hnd
  obtain ⟨p1, ⟨p2, p3⟩, p4⟩ := hnd
  have hne : ∀ q ∈ B1 ++ B2, q.g ≠ b.g := by
    intro q hq e
    rcases List.mem_append.1 hq with hq | hq
    · exact p4 q hq b List.mem_cons_self e
    · exact p2 q hq e.symm
  have hrb : ∀ j, rb (.slice (some ⟨b.g, 0, none⟩) n cap) = some j → j = b.g := by
    intro j e
    have e' : (if cap = 0 then none else some b.g) = some j := e
    split at e'
    · cases e'
    · cases e'; rfl
  have hM : ∀ j, St.M E { σ with blks := B1 ++ B2, rows := ⟨.slice (some ⟨b.g, 0, none⟩) n cap, b.t, k, n, (b.cs.map SC.den).take (n * k)⟩ :: σ.rows } j → σ.M E j := by
    intro j hj
    rcases hj with q | ⟨q, hq, rfl⟩ | ⟨r, hr', e⟩
    · exact .inl q
    · exact .inr (.inl ⟨q, hsub q hq, rfl⟩)
    · rcases List.mem_cons.1 hr' with rfl | hr'
      · exact .inr (.inl ⟨b, hbm, (hrb j e).symm⟩)
      · exact .inr (.inr ⟨r, hr', e⟩)
  have hbk : w.heap[b.g]? = some (.cells (dens b.cs) b.t (0, 0)) := hr.blks b hbm
  refine h a w ⟨hr.tmps, hr.size, hr.defers, fun q hq => hr.blks q (hsub q hq), List.pairwise_append.2 ⟨p1, p3, fun q hq q' hq' => p4 q hq q' (List.mem_cons_of_mem _ hq')⟩,
    fun q hq => hr.own q (hsub q hq), ?_, ?_, List.Pairwise.cons (fun r hr' j e e' => ?_) hr.rapart, fun v hv => ?_, hr.chg, fun s hs => ⟨(hr.snaps s hs).size, fun j hj hm => ⟨((hr.snaps s hs).keep j hj hm).1, fun q => ((hr.snaps s hs).keep j hj hm).2 (hM j q)⟩⟩, hr.mem⟩
  · intro r hr'
    rcases List.mem_cons.1 hr' with rfl | hr'
    · refine ⟨.inr (.inl ⟨?_, .inr ⟨b.g, cap, dens b.cs, rfl, Nat.zero_le _, hbk, hn, hc, by simpa [dens] using hl, ?_⟩⟩), fun g e => ?_⟩
      · show ((b.cs.map SC.den).take (n * k)).length = n * k
        rw [List.length_take, List.length_map, hl]
        exact Nat.min_eq_left (Nat.mul_le_mul_right _ hn)
      · simp only [dens, List.toList_toArray]
      · rw [hrb g e]
        exact hr.own b hbm
    · exact hr.rows r hr'
  · intro r hr' q hq
    rcases List.mem_cons.1 hr' with rfl | hr'
    · intro e
      exact hne q hq (hrb _ e)
    · exact hr.apart r hr' q (hsub q hq)
  · rw [hrb j e] at e'
    exact hr.apart r hr' b hbm e'
  · obtain ⟨a1, a2, a3⟩ := hr.views v hv
    exact ⟨a1, fun q => a2 (hM _ q), a3⟩
end
end Go.Proofs.YtohdfcnjcpjdcaaDoor
