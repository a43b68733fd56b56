/- Calls that write blocks, rows and maps of their caller's: what they may do, how they are entered, what their caller knows behind them. Names no program. Conditions: as each law states them. -/
import Derived.Test.YtohdfcnjcpjdcaaGreatA3w
import Derived.Maps.Keyed
namespace Go.Proofs.YtohdfcnjcpjdcaaGreat
open Go.RowKit
set_option linter.unusedSimpArgs false
/-- a block that is handed: its place, its type, its cells -/
structure HB where
 g : Nat
 t : TypeId
 cs : List Value
def Bl.hb (b : Bl) : HB := ⟨b.g, b.t, b.cs.map SC.den⟩
/-- blocks and rows of a caller's that a call may write -/
structure Hands where
 bs : List HB
 rs : List Rw
def Hands.A (h : Hands) (k : Nat) : Prop := (∃ b ∈ h.bs, b.g = k) ∨ ∃ r ∈ h.rs, rb r.v = some k
structure HandsOk (w : World) (h : Hands) : Prop where
 blks : ∀ b ∈ h.bs, Blk w b.g b.t b.cs.toArray
 nodup : h.bs.Pairwise fun b c => b.g ≠ c.g
 rows : ∀ r ∈ h.rs, RowIs w r
 apart : ∀ r ∈ h.rs, ∀ b ∈ h.bs, rb r.v ≠ some b.g
 rapart : RApart h.rs
theorem HandsOk.lt {w : World} {h : Hands} (hh : HandsOk w h) {k : Nat} (hk : h.A k) : k < w.heap.size := by
 rcases hk with ⟨b, hb, rfl⟩ | ⟨r, hr, e⟩
 ·exact (hh.blks b hb).lt
 ·exact (hh.rows r hr).lt e
/-- the cells that the handed blocks hold then: as many as they held -/
def CellsOk (w : World) : List HB → List (List Value) → Prop
 | [], [] => True
 | b :: r, cs :: css => cs.length = b.cs.length ∧ Blk w b.g b.t cs.toArray ∧ CellsOk w r css
 | _, _ => False
/-- the blocks that somebody writes, with those of these rows -/
def MR (M : Nat → Prop) (R : List Rw) (k : Nat) : Prop := M k ∨ ∃ r ∈ R, rb r.v = some k
/-- what such a call returns, and what its caller's blocks and rows hold then -/
def RetH (G : GW) (h : Hands) (T : Value → List (List Value) → List Rw → GW → Prop) (e : Ending) (w' : World) : Prop :=
 ∃ v css R, e = .returned v ∧ CellsOk w' h.bs css ∧ (∀ r ∈ R, RowIs w' r ∧ ∀ g, rb r.v = some g → (∃ q ∈ h.rs, rb q.v = some g) ∨ G.w.heap.size ≤ g) ∧ RApart R ∧ T v css R ⟨MR G.M R, w'⟩ ∧ Chg h.A G.w w'
theorem RetH.mono {P : Program} {f : FuncId} {args : Array Value} {G : GW} {h : Hands} {T T' : Value → List (List Value) → List Rw → GW → Prop} (hc : Calls P f args G.w (RetH G h T)) (k : ∀ v css R G', T v css R G' → T' v css R G') : Calls P f args G.w (RetH G h T') :=
 Calls.mono hc fun _ _ ⟨v, css, R, he, hl, hr, ha, hT, hg⟩ => ⟨v, css, R, he, hl, hr, ha, k v css R _ hT, hg⟩
def initS : Nat → List SV → List (Nat × SV)
 | _, [] => []
 | i, v :: r => (i, v) :: initS (i + 1) r
theorem look_initS : ∀ (l : List SV) (i t : Nat) (v : SV), look (initS i l) t = some v → l[t - i]? = some v ∧ i ≤ t
 | [], _, _, _, h => by cases h
 | x :: r, i, t, v, h => by
  have h' : (if i = t then some x else look (initS (i + 1) r) t) = some v := h
  split at h'
  ·rename_i e
   subst e
   cases h'
   exact ⟨by simp, Nat.le_refl _⟩
  ·rename_i e
   obtain ⟨h1, h2⟩ := look_initS r (i + 1) t v h'
   refine ⟨?_, by omega⟩
   obtain ⟨m, rfl⟩ : ∃ m, t = i + 1 + m := ⟨t - (i + 1), by omega⟩
   rw [show i + 1 + m - (i + 1) = m by omega] at h1
   rw [show i + 1 + m - i = m + 1 by omega]
   simpa using h1
def startH (G : GW) (bl : List Bl) (rs : List Rw) (svs : List SV) : St := ⟨initS 0 svs, bl, rs, [], [G], bl.length⟩
/-- the beginning: a call that may write blocks and rows of its caller's -/
theorem enterH {P : Program} {f : FuncId} {fn : Func} {c : Code} {G : GW} {h : Hands} {R : Ending → World → Prop} {n : Nat} (N : Nat) (svs : List SV) (bl : List Bl) (hbl : h.bs = bl.map Bl.hb) (hG : G.Wf) (hh : HandsOk G.w h) (hM : ∀ k, h.A k → G.M k) (hf : P.funcs[f]? = some fn) (hb : fn.body = some c) (hn : fn.ntmps = n)
  (hl : svs.length ≤ n) (hw : W P ⟨G.w, h.A, G.M, n, true⟩ N (.base (bodyPost P fn R)) (.code c) (startH G bl h.rs svs)) : Calls P f (svs.map SV.den).toArray G.w R := by
 refine calls_of_wp hf hb ?_
 refine W_sound N (.base (bodyPost P fn R)) (.code c) _ (QOk_body P fn R) hw trivial _ _ ?_
 have hmem : ∀ b ∈ bl, b.hb ∈ h.bs := fun b hb => by rw [hbl]; exact List.mem_map_of_mem hb
 have hnd : bl.Pairwise fun b c => b.g ≠ c.g := by
  have := hh.nodup
  rw [hbl, List.pairwise_map] at this
  exact this
 refine ⟨fun u v hv => ?_, (by simp [hn]; omega), rfl, fun b hb => hh.blks _ (hmem b hb), hnd, fun b hb => .inl (.inl ⟨_, hmem b hb, rfl⟩), fun r hr => ⟨hh.rows r hr, fun g e => .inl (.inr ⟨r, hr, e⟩)⟩, fun r hr b hb => hh.apart r hr _ (hmem b hb), hh.rapart, (fun v hv => by cases hv), Chg.refl _ _, ?_, hG⟩
 ·obtain ⟨hx, _⟩ := look_initS _ _ _ _ hv
  have hx' : (svs.map SV.den).toArray[u]? = some v.den := by
   rw [Nat.sub_zero] at hx
   simp [hx]
  rw [Array.getElem?_append_left (by exact (Array.getElem?_eq_some_iff.1 hx').1)]
  exact hx'
 ·intro s hs
  have : s = G := by simpa [startH] using hs
  subst this
  refine ⟨Nat.le_refl _, fun k _ hm => ⟨rfl, fun q => ?_⟩⟩
  rcases q with q | ⟨b, hb, e⟩ | ⟨r, hr, e⟩
  ·exact hm q
  ·exact hm (hM k (.inl ⟨_, hmem b hb, e⟩))
  ·exact hm (hM k (.inr ⟨r, hr, e⟩))
section
variable {E : Env} {σ : St} {a : Act} {w : World}
/-- what is known of the handed blocks at the end: they bear the first numbers -/
def cellsOf : Nat → List HB → List Bl → Option (List (List SC))
 | _, [], _ => some []
 | i, b :: r, B => (getBl B i).bind fun c => (cellsOf (i + 1) r B).bind fun l => if c.g = b.g ∧ c.t = b.t ∧ c.cs.length = b.cs.length then some (c.cs :: l) else none
theorem cellsOf_ok (hr : Rel E σ a w) : ∀ (i : Nat) (l : List HB) (css : List (List SC)), cellsOf i l σ.blks = some css → CellsOk w l (css.map (List.map SC.den))
 | _, [], css, h => by cases h; trivial
 | i, b :: r, css, h => by
  obtain ⟨c, hc, h⟩ := Option.bind_eq_some_iff.1 h
  obtain ⟨l, hl, h⟩ := Option.bind_eq_some_iff.1 h
  split at h
  ·rename_i q
   cases h
   refine ⟨by simpa using q.2.2, ?_, cellsOf_ok hr (i + 1) r l hl⟩
   have := hr.blks c (getBl_mem hc)
   rw [q.1, q.2.1] at this
   exact this
  ·cases h
theorem cellsOf_mem {B : List Bl} : ∀ (i : Nat) (l : List HB) (css : List (List SC)), cellsOf i l B = some css → ∀ b ∈ l, ∃ c ∈ B, c.g = b.g
 | _, [], _, _, b, hb => by cases hb
 | i, x :: r, css, h, b, hb => by
  obtain ⟨c, hc, h⟩ := Option.bind_eq_some_iff.1 h
  obtain ⟨l, hl, h⟩ := Option.bind_eq_some_iff.1 h
  split at h
  ·rename_i q
   rcases List.mem_cons.1 hb with rfl | hb
   ·exact ⟨c, getBl_mem hc, q.1⟩
   ·exact cellsOf_mem (i + 1) r l hl b hb
  ·cases h
/-- at the end of a call with hands -/
def FinH (P : Program) (E : Env) (G : GW) (h : Hands) (σ : St) (rs : List ResultVar) (T : Value → List (List Value) → List Rw → GW → Prop) : Prop := match resL P σ rs, cellsOf 0 h.bs σ.blks with
 | some (s, vs), some css => s ∧ ∀ a w, Rel E σ a w → (∀ s ∈ σ.snaps, s.Le ⟨MR G.M σ.rows, w⟩) → T (resV vs) (css.map (List.map SC.den)) σ.rows ⟨MR G.M σ.rows, w⟩
 | _, _ => False
theorem Rel.finH {s : Bool} {G : GW} {h : Hands} {n : Nat} (hr : Rel ⟨G.w, h.A, G.M, n, s⟩ σ a w) : ∀ s ∈ σ.snaps, s.Le ⟨MR G.M σ.rows, w⟩ := fun s hs =>
 ⟨(hr.snaps s hs).size, fun k hk hm => ⟨((hr.snaps s hs).keep k hk hm).1, fun q => ((hr.snaps s hs).keep k hk hm).2 (by
  rcases q with q | q
  ·exact .inl q
  ·exact .inr (.inr q))⟩⟩
theorem retH_of {s : Bool} {P : Program} {G : GW} {h : Hands} {n : Nat} {T : Value → List (List Value) → List Rw → GW → Prop} {v : Value} {css : List (List SC)} (hc : cellsOf 0 h.bs σ.blks = some css) (hr : Rel ⟨G.w, h.A, G.M, n, s⟩ σ a w)
  (hT : T v (css.map (List.map SC.den)) σ.rows ⟨MR G.M σ.rows, w⟩) : RetH G h T (.returned v) w := by
 refine ⟨v, _, σ.rows, rfl, cellsOf_ok hr _ _ _ hc, fun r hr' => ⟨(hr.rows r hr').is, fun g e => ?_⟩, hr.rapart, hT, hr.chg⟩
 rcases (hr.rows r hr').own g e with q | q
 ·rcases q with ⟨b, hb, rfl⟩ | q
  ·exfalso
   obtain ⟨c, hc', e'⟩ := cellsOf_mem _ _ _ hc b hb
   exact hr.apart r hr' c hc' (by rw [e, e'])
  ·exact .inl q
 ·exact .inr q
theorem fin_retH {s : Bool} {P : Program} {G : GW} {h : Hands} {n : Nat} {σ : St} {fn : Func} {rs : Array ResultVar} {T : Value → List (List Value) → List Rw → GW → Prop} (hrs : fn.results = rs) (hF : FinH P ⟨G.w, h.A, G.M, n, s⟩ G h σ rs.toList T) :
  Ok ⟨G.w, h.A, G.M, n, s⟩ σ (bodyPost P fn (RetH G h T) .ret) := by
 unfold FinH at hF
 split at hF
 ·rename_i s vs css hl hc
  exact ret_ok hrs hl hF.1 fun a w hr => retH_of (P := P) hc hr (hF.2 a w hr hr.finH)
 ·exact hF.elim
def finHB (E : Env) (G : GW) (σ : St) (T : Value → List (List Value) → List Rw → GW → Prop) : Option (Prop × List SV) → Option (List (List SC)) → Prop
 | some (s, vs), some css => s ∧ ∀ a w, Rel E σ a w → (∀ s ∈ σ.snaps, s.Le ⟨MR G.M σ.rows, w⟩) → T (resV vs) (css.map (List.map SC.den)) σ.rows ⟨MR G.M σ.rows, w⟩
 | _, _ => False
@[go_sem] theorem FinH_def (P : Program) (E : Env) (G : GW) (h : Hands) (σ : St) (rs : List ResultVar) (T : Value → List (List Value) → List Rw → GW → Prop) : FinH P E G h σ rs T = finHB E G σ T (resL P σ rs) (cellsOf 0 h.bs σ.blks) := by
 unfold FinH finHB
 cases resL P σ rs with
 | none => rfl
 | some x => cases cellsOf 0 h.bs σ.blks <;> rfl
@[go_sem] theorem finHB_some (E : Env) (G : GW) (σ : St) (T : Value → List (List Value) → List Rw → GW → Prop) (s : Prop) (vs : List SV) (css : List (List SC)) : finHB E G σ T (some (s, vs)) (some css) = (s ∧ ∀ a w, Rel E σ a w → (∀ s ∈ σ.snaps, s.Le ⟨MR G.M σ.rows, w⟩) → T (resV vs) (css.map (List.map SC.den)) σ.rows ⟨MR G.M σ.rows, w⟩) := rfl
def cells1 (b : HB) : Option Bl → Option (List (List SC)) → Option (List (List SC))
 | some c, some l => if c.g = b.g ∧ c.t = b.t ∧ c.cs.length = b.cs.length then some (c.cs :: l) else none
 | _, _ => none
@[go_sem] theorem cellsOf_nil (i : Nat) (B : List Bl) : cellsOf i [] B = some [] := rfl
@[go_sem] theorem cellsOf_cons (i : Nat) (b : HB) (r : List HB) (B : List Bl) : cellsOf i (b :: r) B = cells1 b (getBl B i) (cellsOf (i + 1) r B) := by
 show (getBl B i).bind _ = _
 cases getBl B i with
 | none => rfl
 | some c => cases cellsOf (i + 1) r B <;> rfl
@[go_sem] theorem cells1_some (g t j g' t' : Nat) (cs : List Value) (cs' : List SC) (l : List (List SC)) : cells1 ⟨g, t, cs⟩ (some ⟨j, g', t', cs'⟩) (some l) = if g' = g ∧ t' = t ∧ cs'.length = cs.length then some (cs' :: l) else none := rfl
@[go_sem] theorem startH_def (G : GW) (B : List Bl) (R : List Rw) (svs : List SV) : startH G B R svs = ⟨initS 0 svs, B, R, [], [G], B.length⟩ := rfl
@[go_sem] theorem initS_nil (i : Nat) : initS i [] = [] := rfl
@[go_sem] theorem initS_cons (i : Nat) (v : SV) (r : List SV) : initS i (v :: r) = (i, v) :: initS (i + 1) r := rfl
@[go_sem] theorem hands_bs (B : List HB) (R : List Rw) : Hands.bs ⟨B, R⟩ = B := rfl
@[go_sem] theorem hands_rs (B : List HB) (R : List Rw) : Hands.rs ⟨B, R⟩ = R := rfl
@[go_sem] theorem bl_id (i g t : Nat) (cs : List SC) : Bl.id ⟨i, g, t, cs⟩ = i := rfl
/-- blocks, some of which hold other cells -/
def pickCs : List (Nat × List SC) → Nat → List SC → List SC
 | [], _, cs => cs
 | (j, cs') :: r, i, cs => if j = i then cs' else pickCs r i cs
def repl (hs : List (Nat × List SC)) : List Bl → List Bl
 | [] => []
 | ⟨i, g, t, cs⟩ :: r => ⟨i, g, t, pickCs hs i cs⟩ :: repl hs r
@[go_sem] theorem sx_zip_nil {α β : Type} (l : List β) : List.zip ([] : List α) l = [] := by cases l <;> rfl
@[go_sem] theorem sx_zip_cons {α β : Type} (x : α) (y : β) (l : List α) (m : List β) : List.zip (x :: l) (y :: m) = (x, y) :: List.zip l m := rfl
@[go_sem] theorem upV_nil : List.map (List.map SC.v) [] = [] := rfl
@[go_sem] theorem repl_nil (hs : List (Nat × List SC)) : repl hs [] = [] := rfl
@[go_sem] theorem repl_cons (hs : List (Nat × List SC)) (i g t : Nat) (cs : List SC) (r : List Bl) : repl hs (⟨i, g, t, cs⟩ :: r) = ⟨i, g, t, pickCs hs i cs⟩ :: repl hs r := rfl
@[go_sem] theorem pick_nil (i : Nat) (cs : List SC) : pickCs [] i cs = cs := rfl
@[go_sem] theorem pick_cons (j : Nat) (cs' : List SC) (r : List (Nat × List SC)) (i : Nat) (cs : List SC) : pickCs ((j, cs') :: r) i cs = if j = i then cs' else pickCs r i cs := rfl
theorem mem_repl {hs : List (Nat × List SC)} : ∀ {B : List Bl} {b : Bl}, b ∈ repl hs B → ∃ c ∈ B, b = { c with cs := pickCs hs c.id c.cs }
 | ⟨i, g, t, cs⟩ :: r, b, h => by
  rcases List.mem_cons.1 h with rfl | h
  ·exact ⟨_, List.mem_cons_self, rfl⟩
  ·obtain ⟨c, hc, e⟩ := mem_repl h
   exact ⟨c, List.mem_cons_of_mem _ hc, e⟩
theorem nodup_repl {hs : List (Nat × List SC)} : ∀ {B : List Bl}, B.Pairwise (fun b c => b.g ≠ c.g) → (repl hs B).Pairwise fun b c => b.g ≠ c.g
 | [], _ => List.Pairwise.nil
 | ⟨i, g, t, cs⟩ :: r, h => by
  obtain ⟨h1, h2⟩ := List.pairwise_cons.1 h
  refine List.pairwise_cons.2 ⟨fun b hb => ?_, nodup_repl h2⟩
  obtain ⟨c, hc, rfl⟩ := mem_repl hb
  exact h1 c hc
/-- the blocks that are handed, by their numbers -/
def blsOf (B : List Bl) : List Nat → Option (List Bl)
 | [] => some []
 | i :: r => (getBl B i).bind fun b => (blsOf B r).map (b :: ·)
theorem getBl_id : ∀ {B : List Bl} {i : Nat} {b : Bl}, getBl B i = some b → b.id = i
 | x :: B, i, b, h => by
  unfold getBl at h
  split at h
  ·rename_i q; cases h; exact q
  ·exact getBl_id h
theorem blsOf_mem {B : List Bl} : ∀ {ids : List Nat} {bl : List Bl}, blsOf B ids = some bl → ∀ b ∈ bl, getBl B b.id = some b ∧ b ∈ B
 | [], bl, h, b, hb => by cases h; cases hb
 | i :: r, bl, h, b, hb => by
  obtain ⟨c, hc, h⟩ := Option.bind_eq_some_iff.1 h
  obtain ⟨l, hl, rfl⟩ := Option.map_eq_some_iff.1 h
  rcases List.mem_cons.1 hb with rfl | hb
  ·rw [getBl_id hc]
   exact ⟨hc, getBl_mem hc⟩
  ·exact blsOf_mem hl b hb
theorem cellsOk_pick {w : World} : ∀ {bl : List Bl} {css : List (List SC)}, CellsOk w (bl.map Bl.hb) (css.map (List.map SC.den)) → ∀ b, (∃ c ∈ bl, c.id = b.id) → (∀ c ∈ bl, c.id = b.id → c = b) →
  Blk w b.g b.t (dens (pickCs ((bl.map (·.id)).zip css) b.id b.cs)) ∧ (pickCs ((bl.map (·.id)).zip css) b.id b.cs).length = b.cs.length
 | [], _, _, b, ⟨c, hc, _⟩, _ => by cases hc
 | x :: bl, [], h, _, _, _ => h.elim
 | x :: bl, cs :: css, h, b, hx, hu => by
  obtain ⟨h1, h2, h3⟩ := h
  show Blk w b.g b.t (dens (if x.id = b.id then cs else pickCs _ b.id b.cs)) ∧ (if x.id = b.id then cs else pickCs _ b.id b.cs).length = b.cs.length
  by_cases e : x.id = b.id
  ·rw [if_pos e]
   obtain rfl := hu x List.mem_cons_self e
   exact ⟨h2, by simpa [Bl.hb] using h1⟩
  ·rw [if_neg e]
   refine cellsOk_pick h3 b ?_ (fun c hc => hu c (List.mem_cons_of_mem _ hc))
   obtain ⟨c, hc, q⟩ := hx
   rcases List.mem_cons.1 hc with rfl | hc
   ·exact absurd q e
   ·exact ⟨c, hc, q⟩
theorem pick_other : ∀ {ids : List Nat} {css : List (List SC)} {i : Nat} {cs : List SC}, i ∉ ids → pickCs (ids.zip css) i cs = cs
 | [], _, _, _, _ => by cases ‹List (List SC)› <;> rfl
 | _ :: _, [], _, _, _ => rfl
 | j :: ids, c :: css, i, cs, h => by
  show (if j = i then c else pickCs (ids.zip css) i cs) = cs
  rw [if_neg (fun e => h (by rw [e]; exact List.mem_cons_self))]
  exact pick_other (fun q => h (List.mem_cons_of_mem _ q))
theorem pair_ne {b c : Bl} : ∀ {B : List Bl}, B.Pairwise (fun b c => b.g ≠ c.g) → b ∈ B → c ∈ B → b ≠ c → b.g ≠ c.g
 | x :: B, hB, hb, hc, hne => by
  obtain ⟨b1, b2⟩ := List.pairwise_cons.1 hB
  rcases List.mem_cons.1 hb with e | hb
  ·rcases List.mem_cons.1 hc with e' | hc
   ·exact absurd (e.trans e'.symm) hne
   ·rw [e]; exact b1 c hc
  ·rcases List.mem_cons.1 hc with e' | hc
   ·rw [e']; exact fun q => b1 b hb q.symm
   ·exact pair_ne b2 hb hc hne
/-- the state behind a call with hands -/
theorem Rel.handed {w' : World} (h : Rel E σ a w) {ids : List Nat} {bl : List Bl} (hbl : blsOf σ.blks ids = some bl) {R1 rs R2 R : List Rw} (hR : σ.rows = R1 ++ rs ++ R2) {css : List (List SC)}
  (hid : ∀ b ∈ σ.blks, ∀ c ∈ bl, c.id = b.id → c = b)
  (hcs : CellsOk w' (bl.map Bl.hb) (css.map (List.map SC.den))) (hro : ∀ r ∈ R, RowIs w' r ∧ ∀ g, rb r.v = some g → (∃ q ∈ rs, rb q.v = some g) ∨ w.heap.size ≤ g) (hap : RApart R) (hc : Chg (Hands.A ⟨bl.map Bl.hb, rs⟩) w w') :
  Rel E { σ with blks := repl ((bl.map (·.id)).zip css) σ.blks, rows := R1 ++ R ++ R2, snaps := ⟨MR (σ.M E) R, w'⟩ :: σ.snaps } a w' := by
 have hWs := h.chg.size
 have hmem := blsOf_mem hbl
 have hrs : ∀ r ∈ rs, r ∈ σ.rows := fun r hr => by rw [hR]; simp [hr]
 have hot : ∀ r, r ∈ R1 ∨ r ∈ R2 → r ∈ σ.rows := fun r hr => by
  rw [hR]
  rcases hr with hr | hr <;> simp [hr]
 have hap0 := h.rapart
 rw [hR, List.append_assoc, List.pairwise_append] at hap0
 obtain ⟨p1, p23, p1x⟩ := hap0
 rw [List.pairwise_append] at p23
 obtain ⟨p2, p3, p23x⟩ := p23
 -- the other rows lie elsewhere
 have hoth : ∀ r, r ∈ R1 ∨ r ∈ R2 → ∀ g, rb r.v = some g → ∀ q ∈ rs, rb q.v ≠ some g := by
  intro r hr g e q hq e'
  rcases hr with hr | hr
  ·exact p1x r hr q (List.mem_append_left _ hq) g e e'
  ·exact p23x q hq r hr g e' e
 have hothA : ∀ r, r ∈ R1 ∨ r ∈ R2 → ∀ g, rb r.v = some g → ¬ Hands.A ⟨bl.map Bl.hb, rs⟩ g := by
  intro r hr g e q
  rcases q with ⟨b, hb, rfl⟩ | ⟨q, hq, e'⟩
  ·obtain ⟨b, hb', rfl⟩ := List.mem_map.1 hb
   exact h.apart r (hot r hr) b (hmem b hb').2 e
  ·exact hoth r hr g e q hq e'
 have hkeep : ∀ k, k < w.heap.size → ¬ Hands.A ⟨bl.map Bl.hb, rs⟩ k → w'.heap[k]? = w.heap[k]? := hc.block
 have hAM : ∀ k, Hands.A ⟨bl.map Bl.hb, rs⟩ k → σ.M E k := by
  rintro k (⟨b, hb, rfl⟩ | ⟨q, hq, e⟩)
  ·obtain ⟨b, hb', rfl⟩ := List.mem_map.1 hb
   exact .inr (.inl ⟨b, (hmem b hb').2, rfl⟩)
  ·exact .inr (.inr ⟨q, hrs q hq, e⟩)
 have hnewR : ∀ r ∈ R, ∀ g, rb r.v = some g → g < w.heap.size → ∃ q ∈ rs, rb q.v = some g := by
  intro r hr g e hl
  rcases (hro r hr).2 g e with q | q
  ·exact q
  ·omega
 have hmr : ∀ r, r ∈ R1 ++ R ++ R2 → r ∈ R ∨ (r ∈ R1 ∨ r ∈ R2) := by
  intro r hr
  rcases List.mem_append.1 hr with hr | hr
  ·rcases List.mem_append.1 hr with hr | hr
   ·exact .inr (.inl hr)
   ·exact .inl hr
  ·exact .inr (.inr hr)
 have hM : ∀ k, St.M E { σ with blks := repl ((bl.map (·.id)).zip css) σ.blks, rows := R1 ++ R ++ R2, snaps := ⟨MR (σ.M E) R, w'⟩ :: σ.snaps } k → MR (σ.M E) R k := by
  rintro k (q | ⟨b, hb, rfl⟩ | ⟨r, hr, e⟩)
  ·exact .inl (.inl q)
  ·obtain ⟨c, hc', rfl⟩ := mem_repl hb
   exact .inl (.inr (.inl ⟨c, hc', rfl⟩))
  ·rcases hmr r hr with hr | hr
   ·exact .inr ⟨r, hr, e⟩
   ·exact .inl (.inr (.inr ⟨r, hot r hr, e⟩))
 have hM2 : ∀ k, k < w.heap.size → MR (σ.M E) R k → σ.M E k := by
  rintro k hk (q | ⟨r, hr, e⟩)
  ·exact q
  ·obtain ⟨q, hq, e'⟩ := hnewR r hr k e hk
   exact .inr (.inr ⟨q, hrs q hq, e'⟩)
 refine ⟨h.tmps, h.size, h.defers, ?_, nodup_repl h.nodup, ?_, ?_, ?_, ?_, ?_, ?_, ?_, h.mem⟩
 ·intro b hb
  obtain ⟨c, hc', rfl⟩ := mem_repl hb
  by_cases q : ∃ d ∈ bl, d.id = c.id
  ·exact (cellsOk_pick hcs c q (fun d hd e => hid c hc' d hd e)).1
  ·have hn : c.id ∉ bl.map (·.id) := fun m => by
    obtain ⟨d, hd, e⟩ := List.mem_map.1 m
    exact q ⟨d, hd, e⟩
   rw [pick_other hn]
   refine (hkeep c.g (h.blks c hc').lt (fun x => ?_)).trans (h.blks c hc')
   rcases x with ⟨d, hd, e⟩ | ⟨r, hr, e⟩
   ·obtain ⟨d, hd0, rfl⟩ := List.mem_map.1 hd
    have : d = c := by
     have hd' := (hmem d hd0).2
     have hnd := h.nodup
     clear hM hmr
     by_cases e2 : d = c
     ·exact e2
     ·exact absurd e (pair_ne hnd hd' hc' e2)
    exact q ⟨d, hd0, by rw [this]⟩
   ·exact h.apart r (hrs r hr) c hc' e
 ·intro b hb
  obtain ⟨c, hc', rfl⟩ := mem_repl hb
  exact h.own c hc'
 ·intro r hr
  rcases hmr r hr with hr | hr
  ·refine ⟨(hro r hr).1, fun g e => ?_⟩
   rcases (hro r hr).2 g e with ⟨q, hq, e'⟩ | q
   ·exact (h.rows q (hrs q hq)).own g e'
   ·exact .inr (by omega)
  ·exact (h.rows r (hot r hr)).block fun g e => hkeep g ((h.rows r (hot r hr)).is.lt e) (hothA r hr g e)
 ·intro r hr b hb
  obtain ⟨c, hc', rfl⟩ := mem_repl hb
  rcases hmr r hr with hr | hr
  ·intro e
   obtain ⟨q, hq, e'⟩ := hnewR r hr _ e (h.blks c hc').lt
   exact h.apart q (hrs q hq) c hc' e'
  ·exact h.apart r (hot r hr) c hc'
 ·have hRo : ∀ r ∈ R, ∀ q, q ∈ R1 ∨ q ∈ R2 → ∀ k, rb r.v = some k → rb q.v ≠ some k := by
   intro r hr q hq k e e'
   obtain ⟨x, hx, e2⟩ := hnewR r hr k e ((h.rows q (hot q hq)).is.lt e')
   exact hoth q hq k e' x hx e2
  refine List.pairwise_append.2 ⟨List.pairwise_append.2 ⟨p1, hap, fun r hr q hq k e e' => hRo q hq r (.inl hr) k e' e⟩, p3, fun r hr q hq k e => ?_⟩
  rcases List.mem_append.1 hr with hr | hr
  ·exact p1x r hr q (List.mem_append_right _ hq) k e
  ·exact hRo r hr q (.inr hq) k e
 ·intro v hv
  obtain ⟨h1, h2, h3⟩ := h.views v hv
  exact ⟨Nat.lt_of_lt_of_le h1 hc.size, fun q => h2 (hM2 _ h1 (hM _ q)), range_block h3 (hkeep _ h1 (fun q => h2 (hAM _ q)))⟩
 ·refine ⟨hc.os.trans h.chg.os, hc.tape.trans h.chg.tape, hc.output.trans h.chg.output, Nat.le_trans hWs hc.size, fun k hk hA => (hkeep k (Nat.lt_of_lt_of_le hk hWs) ?_).trans (h.chg.block k hk hA)⟩
  rintro (⟨b, hb, rfl⟩ | ⟨q, hq, e⟩)
  ·obtain ⟨b, hb', rfl⟩ := List.mem_map.1 hb
   rcases h.own b (hmem b hb').2 with y | y
   ·exact hA y
   ·exact absurd hk (Nat.not_lt.2 y)
  ·rcases (h.rows q (hrs q hq)).own k e with y | y
   ·exact hA y
   ·exact absurd hk (Nat.not_lt.2 y)
 ·intro s hs
  rcases List.mem_cons.1 hs with rfl | hs
  ·exact ⟨Nat.le_refl _, fun k _ hm => ⟨rfl, fun q => hm (hM k q)⟩⟩
  ·have hs' := h.snaps s hs
   refine ⟨Nat.le_trans hs'.size hc.size, fun k hk hm => ?_⟩
   obtain ⟨e, n⟩ := hs'.keep k hk hm
   have hkw : k < w.heap.size := Nat.lt_of_lt_of_le hk hs'.size
   exact ⟨(hkeep k hkw (fun q => n (hAM k q))).trans e, fun q => n (hM2 k hkw (hM k q))⟩
/-- all numbers differ -/
theorem diff_get : ∀ {B : List Bl}, Diff (ids B) → ∀ b ∈ B, ∀ c ∈ B, b.id = c.id → b = c
 | [], _, b, hb, _, _, _ => by cases hb
 | x :: B, h, b, hb, c, hc, e => by
  obtain ⟨h1, h2⟩ := h
  rcases List.mem_cons.1 hb with e1 | hb
  ·rcases List.mem_cons.1 hc with e2 | hc
   ·rw [e1, e2]
   ·exact absurd (by rw [← e1]; exact e) (h1 _ (mem_ids hc))
  ·rcases List.mem_cons.1 hc with e2 | hc
   ·exact absurd (by rw [← e2]; exact e.symm) (h1 _ (mem_ids hb))
   ·exact diff_get h2 b hb c hc e
theorem blsOf_ids {B : List Bl} : ∀ {l : List Nat} {bl : List Bl}, blsOf B l = some bl → bl.map (·.id) = l
 | [], bl, h => by cases h; rfl
 | i :: r, bl, h => by
  obtain ⟨c, hc, h⟩ := Option.bind_eq_some_iff.1 h
  obtain ⟨l, hl, rfl⟩ := Option.map_eq_some_iff.1 h
  rw [List.map_cons, getBl_id hc, blsOf_ids hl]
theorem Now.hands {G : GW} (hn : Now E σ G) {l : List Nat} {bl : List Bl} (hbl : blsOf σ.blks l = some bl) (hd : Diff (ids σ.blks)) (hl : l.Pairwise (· ≠ ·)) {R1 rs R2 : List Rw} (hR : σ.rows = R1 ++ rs ++ R2) :
  HandsOk G.w ⟨bl.map Bl.hb, rs⟩ ∧ ∀ k, Hands.A ⟨bl.map Bl.hb, rs⟩ k → G.M k := by
 have hmem := blsOf_mem hbl
 have hrs : ∀ r ∈ rs, r ∈ σ.rows := fun r hr => by rw [hR]; simp [hr]
 have hap0 := hn.rapart
 rw [hR, List.append_assoc, List.pairwise_append] at hap0
 obtain ⟨p1, p23, p1x⟩ := hap0
 rw [List.pairwise_append] at p23
 refine ⟨⟨?_, ?_, fun r hr => (hn.rows r (hrs r hr)).is, ?_, p23.1⟩, ?_⟩
 ·intro b hb
  obtain ⟨b, hb', rfl⟩ := List.mem_map.1 hb
  exact hn.blks b (hmem b hb').2
 ·rw [List.pairwise_map]
  have hl' : bl.Pairwise fun b c => b.id ≠ c.id := by
   rw [← blsOf_ids hbl, List.pairwise_map] at hl
   exact hl
  exact hl'.imp_of_mem fun {b c} hb hc e => pair_ne hn.nodup (hmem b hb).2 (hmem c hc).2 (fun q => e (by rw [q]))
 ·intro r hr b hb
  obtain ⟨b, hb', rfl⟩ := List.mem_map.1 hb
  exact hn.apart r (hrs r hr) b (hmem b hb').2
 ·rintro k (⟨b, hb, rfl⟩ | ⟨q, hq, e⟩)
  ·obtain ⟨b, hb', rfl⟩ := List.mem_map.1 hb
   exact hn.mine b (hmem b hb').2
  ·exact hn.mineR q (hrs q hq) k e
/-- a call that may write blocks and rows of the call's own -/
theorem callH_does {P : Program} {o : Oper} {c : Call} {f : FuncId} {vs : List SV} (l : List Nat) {bl : List Bl} (R1 rs R2 : List Rw) (T : Value → List (List Value) → List Rw → GW → Prop) (up : List (List Value) → List (List SC))
  (ho : o.op = .call c) (hcal : c.callee = .value (.func f)) (hf : isFn P f = true) (hev : evs σ c.args.toList = some vs) (hd : dOk E o.dst) (hbl : blsOf σ.blks l = some bl) (hR : σ.rows = R1 ++ rs ++ R2) (hdf : Diff (ids σ.blks)) (hl : l.Pairwise (· ≠ ·))
  (hct : ∀ G : GW, Now E σ G → HandsOk G.w ⟨bl.map Bl.hb, rs⟩ → (∀ k, Hands.A ⟨bl.map Bl.hb, rs⟩ k → G.M k) → Calls P f (vs.map SV.den).toArray G.w (RetH G ⟨bl.map Bl.hb, rs⟩ T))
  (hup : ∀ v css R G, T v css R G → css.length = l.length → (up css).map (List.map SC.den) = css) :
  Does P E σ o (fun σ' => ∃ v css R G, T v css R G ∧ css.length = l.length ∧ (∀ s ∈ σ.snaps, s.Le G) ∧ σ' = (St.seen { σ with blks := repl (l.zip (up css)) σ.blks, rows := R1 ++ R ++ R2 } G).put o.dst (.c (.v v))) := by
 intro a w Q next hr hn
 unfold Oper.wp
 rw [run_call ho hcal hev hf hr.see]
 obtain ⟨hh, hM⟩ := hr.now.hands hbl hdf hl hR
 refine Calls.mono (hct ⟨σ.M E, w⟩ hr.now hh hM) fun e w' he => ?_
 obtain ⟨v, css, R, rfl, hcs, hro, hap, hT, hc⟩ := he
 have hlen : css.length = l.length := by
  rw [← blsOf_ids hbl, List.length_map]
  have : ∀ (B : List Bl) (css : List (List Value)), CellsOk w' (B.map Bl.hb) css → css.length = B.length := by
   intro B
   induction B with
   | nil => intro css h; cases css with
    | nil => rfl
    | cons => exact h.elim
   | cons b B ih => intro css h; cases css with
    | nil => exact h.elim
    | cons c css => simp [ih css h.2.2]
  exact this _ _ hcs
 have hu := hup v css R _ hT hlen
 have h1 := hr.handed (w' := w') hbl hR (css := up css) (fun b hb c hc' e => diff_get hdf c (blsOf_mem hbl c hc').2 b hb e) (by rw [hu]; exact hcs) hro hap hc
 rw [blsOf_ids hbl] at h1
 refine hn _ _ _ ⟨v, css, R, _, hT, hlen, fun s hs => ?_, rfl⟩ (h1.put o.dst (.c (.v v)) (dOk_lt hd))
 have hs' := hr.snaps s hs
 refine ⟨Nat.le_trans hs'.size hc.size, fun k hk hm => ?_⟩
 obtain ⟨e, n⟩ := hs'.keep k hk hm
 have hkw : k < w.heap.size := Nat.lt_of_lt_of_le hk hs'.size
 refine ⟨(hc.block k hkw (fun q => n (hM k q))).trans e, fun q => ?_⟩
 rcases q with q | ⟨r, hr', e'⟩
 ·exact n q
 ·rcases (hro r hr').2 k e' with ⟨x, hx, e2⟩ | y
  ·exact n (hM k (.inr ⟨x, hx, e2⟩))
  ·exact absurd hkw (Nat.not_lt.2 y)
/-- values as cells -/
def upV (css : List (List Value)) : List (List SC) := css.map (List.map SC.v)
@[go_sem] theorem upV_def (css : List (List Value)) : upV css = css.map (List.map SC.v) := rfl
theorem upV_den (css : List (List Value)) : (upV css).map (List.map SC.den) = css := by
 unfold upV
 rw [List.map_map]
 have : (List.map SC.den) ∘ (List.map SC.v) = id := by
  funext l
  simp [Function.comp_def, SC.den]
 rw [this, List.map_id]
/-- the world, but that these rows are nobody's -/
def GW.less (G : GW) (R : List Rw) : GW := ⟨fun k => G.M k ∧ ∀ r ∈ R, rb r.v ≠ some k, G.w⟩
theorem GW.le_less (G : GW) (R : List Rw) : G.Le (G.less R) := ⟨Nat.le_refl _, fun _ _ h => ⟨rfl, fun q => h q.1⟩⟩
theorem GW.Wf.less {G : GW} (h : G.Wf) (R : List Rw) : (G.less R).Wf := fun k hk => h k hk.1
/-- a row of the call's own, read for the time of a call -/
theorem Now.sl {G : GW} (hn : Now E σ G) {r : Rw} (hr : r ∈ σ.rows) (hk : r.k ≠ 0) : Sl (G.less σ.rows) r.t r.k r.n r.v r.xs := by
 rcases (hn.rows r hr).is with ⟨B, e1, e2, e3⟩ | h | ⟨q, _⟩
 ·rw [e1, e2, e3]
  exact ⟨B, 0, rfl, Nat.le_refl _, Nat.zero_le _, by simp, fun q => absurd q (by omega)⟩
 ·rcases h.2 with ⟨e1, e2⟩ | ⟨g, cap, cur, e, _, hg, h1, h2, h3, h4⟩
  ·rw [e1, e2]
   have : r.xs = [] := List.eq_nil_of_length_eq_zero (by rw [h.1, e2, Nat.zero_mul])
   rw [this]
   exact Sl.nil _ _ _
  ·refine ⟨_, cap, e, h1, h2, h.1, fun hn0 => ⟨g, 0, cur, (0, 0), rfl, fun q => q.2 r hr ?_, hg, fun j u hu => ?_⟩⟩
   ·rw [e]
    show (if cap = 0 then none else some g) = some g
    rw [if_neg (by omega)]
   ·rw [← h4, List.getElem?_take] at hu
    split at hu
    ·simpa using hu
    ·cases hu
 ·exact absurd q hk
theorem Ret.anyM {P : Program} {f : FuncId} {args : Array Value} {w : World} {M M' : Nat → Prop} {T : Value → Prop} (h : Calls P f args w (Ret ⟨M', w⟩ fun v _ => T v)) : Calls P f args w (Ret ⟨M, w⟩ fun v _ => T v) := Calls.mono h fun _ _ h => h
/-- a row that is not looked at any more -/
theorem dropRow_ok {Φ : Act → World → Prop} (R1 R2 : List Rw) {r : Rw} (hR : σ.rows = R1 ++ r :: R2) (h : Ok E (σ.rowsTo (R1 ++ R2)) Φ) : Ok E σ Φ := by
 intro a w hr
 have hsub : ∀ q ∈ R1 ++ R2, q ∈ σ.rows := by
  intro q hq
  rw [hR]
  rcases List.mem_append.1 hq with hq | hq
  ·exact List.mem_append_left _ hq
  ·exact List.mem_append_right _ (List.mem_cons_of_mem _ hq)
 have hap := hr.rapart
 rw [hR, List.pairwise_append, List.pairwise_cons] at hap
 obtain ⟨p1, ⟨p2, p3⟩, p4⟩ := hap
 have hM : ∀ k, St.M E (σ.rowsTo (R1 ++ R2)) k → σ.M E k := by
  rintro k (q | q | ⟨r, hr', e⟩)
  ·exact .inl q
  ·exact .inr (.inl q)
  ·exact .inr (.inr ⟨r, hsub r hr', e⟩)
 exact h a w ⟨hr.tmps, hr.size, hr.defers, hr.blks, hr.nodup, hr.own, fun q hq => hr.rows q (hsub q hq), fun q hq => hr.apart q (hsub q hq),
  List.pairwise_append.2 ⟨p1, p3, fun q hq q' hq' => p4 q hq q' (List.mem_cons_of_mem _ hq')⟩,
  fun v hv => let ⟨h1, h2, h3⟩ := hr.views v hv; ⟨h1, fun q => h2 (hM _ q), h3⟩, hr.chg,
  fun s hs => ⟨(hr.snaps s hs).size, fun k hk hm => ⟨((hr.snaps s hs).keep k hk hm).1, fun q => ((hr.snaps s hs).keep k hk hm).2 (hM k q)⟩⟩, hr.mem⟩
/-- rows in another order -/
theorem rowsPerm_ok {Φ : Act → World → Prop} {R : List Rw} (hp : σ.rows.Perm R) (h : Ok E (σ.rowsTo R) Φ) : Ok E σ Φ := by
 intro a w hr
 have hM : ∀ k, St.M E (σ.rowsTo R) k → σ.M E k := by
  rintro k (q | q | ⟨r, hr', e⟩)
  ·exact .inl q
  ·exact .inr (.inl q)
  ·exact .inr (.inr ⟨r, hp.mem_iff.2 hr', e⟩)
 exact h a w ⟨hr.tmps, hr.size, hr.defers, hr.blks, hr.nodup, hr.own, fun r h' => hr.rows r (hp.mem_iff.2 h'), fun r h' => hr.apart r (hp.mem_iff.2 h'), (hp.pairwise_iff (fun {a b} h k e e' => h k e' e)).1 hr.rapart,
  fun v hv => let ⟨h1, h2, h3⟩ := hr.views v hv; ⟨h1, fun q => h2 (hM _ q), h3⟩, hr.chg, fun s hs => ⟨(hr.snaps s hs).size, fun k hk hm => ⟨((hr.snaps s hs).keep k hk hm).1, fun q => ((hr.snaps s hs).keep k hk hm).2 (hM k q)⟩⟩, hr.mem⟩
/-- a block of the call's own as a row: so many of its elements -/
theorem blkRowN_ok {Φ : Act → World → Prop} {B1 B2 : List Bl} {b : Bl} (hB : σ.blks = B1 ++ b :: B2) (k n cap : Nat) (hl : b.cs.length = cap * k) (hn : n ≤ cap) (hc : cap ≤ maxLen)
  (h : Ok E { σ with blks := B1 ++ B2, rows := ⟨.slice (some ⟨b.g, 0, none⟩) n cap, b.t, k, n, (b.cs.map SC.den).take (n * k)⟩ :: σ.rows } Φ) : Ok E σ Φ := by
 intro a w hr
 have hbm : b ∈ σ.blks := by rw [hB]; simp
 have hsub : ∀ q ∈ B1 ++ B2, q ∈ σ.blks := by
  intro q hq
  rw [hB]
  rcases List.mem_append.1 hq with hq | hq
  ·exact List.mem_append_left _ hq
  ·exact List.mem_append_right _ (List.mem_cons_of_mem _ hq)
 have hnd := hr.nodup
 rw [hB, List.pairwise_append, List.pairwise_cons] at hnd
 obtain ⟨p1, ⟨p2, p3⟩, p4⟩ := hnd
 have hne : ∀ q ∈ B1 ++ B2, q.g ≠ b.g := by
  intro q hq e
  rcases List.mem_append.1 hq with hq | hq
  ·exact p4 q hq b List.mem_cons_self e
  ·exact p2 q hq e.symm
 have hrb : ∀ j, rb (.slice (some ⟨b.g, 0, none⟩) n cap) = some j → j = b.g := by
  intro j e
  have e' : (if cap = 0 then none else some b.g) = some j := e
  split at e'
  ·cases e'
  ·cases e'; rfl
 have hM : ∀ j, St.M E { σ with blks := B1 ++ B2, rows := ⟨.slice (some ⟨b.g, 0, none⟩) n cap, b.t, k, n, (b.cs.map SC.den).take (n * k)⟩ :: σ.rows } j → σ.M E j := by
  intro j hj
  rcases hj with q | ⟨q, hq, rfl⟩ | ⟨r, hr', e⟩
  ·exact .inl q
  ·exact .inr (.inl ⟨q, hsub q hq, rfl⟩)
  ·rcases List.mem_cons.1 hr' with rfl | hr'
   ·exact .inr (.inl ⟨b, hbm, (hrb j e).symm⟩)
   ·exact .inr (.inr ⟨r, hr', e⟩)
 have hbk : w.heap[b.g]? = some (.cells (dens b.cs) b.t (0, 0)) := hr.blks b hbm
 refine h a w ⟨hr.tmps, hr.size, hr.defers, fun q hq => hr.blks q (hsub q hq), List.pairwise_append.2 ⟨p1, p3, fun q hq q' hq' => p4 q hq q' (List.mem_cons_of_mem _ hq')⟩,
  fun q hq => hr.own q (hsub q hq), ?_, ?_, List.Pairwise.cons (fun r hr' j e e' => ?_) hr.rapart, fun v hv => ?_, hr.chg, fun s hs => ⟨(hr.snaps s hs).size, fun j hj hm => ⟨((hr.snaps s hs).keep j hj hm).1, fun q => ((hr.snaps s hs).keep j hj hm).2 (hM j q)⟩⟩, hr.mem⟩
 ·intro r hr'
  rcases List.mem_cons.1 hr' with rfl | hr'
  ·refine ⟨.inr (.inl ⟨?_, .inr ⟨b.g, cap, dens b.cs, rfl, Nat.zero_le _, hbk, hn, hc, by simpa [dens] using hl, ?_⟩⟩), fun g e => ?_⟩
   ·show ((b.cs.map SC.den).take (n * k)).length = n * k
    rw [List.length_take, List.length_map, hl]
    exact Nat.min_eq_left (Nat.mul_le_mul_right _ hn)
   ·simp only [dens, List.toList_toArray]
   ·rw [hrb g e]
    exact hr.own b hbm
  ·exact hr.rows r hr'
 ·intro r hr' q hq
  rcases List.mem_cons.1 hr' with rfl | hr'
  ·intro e
   exact hne q hq (hrb _ e)
  ·exact hr.apart r hr' q (hsub q hq)
 ·rw [hrb j e] at e'
  exact hr.apart r hr' b hbm e'
 ·obtain ⟨a1, a2, a3⟩ := hr.views v hv
  exact ⟨a1, fun q => a2 (hM _ q), a3⟩
end
end Go.Proofs.YtohdfcnjcpjdcaaGreat
/- Slices whose block is the call's own, written in their midst: cuts, 'append' where there is room, 'copy', 'clear'; calls of functions that are values. Names no program. Conditions: as each law states them. -/
namespace Go.Proofs.YtohdfcnjcpjdcaaGreat
open Go.RowKit
set_option linter.unusedSimpArgs false
section
variable {P : Program} {E : Env} {σ : St} {o : Oper} {a : Act} {w : World}
/-- cells of one's own, stored at a place -/
theorem store_own (hr : Rel E σ a w) {id off : Nat} {b : Bl} (hb : getBl σ.blks id = some b) (cs : List SC) (hl : off + cs.length ≤ b.cs.length) (h1 : ones cs) :
  (storeCells ⟨b.g, off, none⟩ (cs.map SC.den)).run P w = .ok () (w.setRow b.g (dens (putCs b.cs off cs))) := by
 have hB : w.heap[b.g]? = some (.cells (dens b.cs) b.t (0, 0)) := hr.blks b (getBl_mem hb)
 have hst := run_storeCells_at P b.g off b.t (cs.map SC.den) 0 (dens b.cs) w hB (by simpa [dens] using hl) (fun u hu => by
  obtain ⟨x, hx, rfl⟩ := List.mem_map.1 hu
  exact SC.one_den (ones_mem h1 x hx))
 simp only [Nat.add_zero] at hst
 rw [hst]
 congr 2
 rw [putCs_eq _ _ _ hl]
 simp [dens]
theorem set_nil (σ : St) (id off : Nat) : σ.set id off [] = σ := by
 have h : ∀ B : List Bl, putBl B id off [] = B := by
  intro B
  induction B with
  | nil => rfl
  | cons x B ih =>
   show (if x.id = id then { x with cs := putCs x.cs off [] } :: B else x :: putBl B id off []) = x :: B
   split
   ·rw [putCs_eq' x.cs off]
   ·rw [ih]
 show { σ with blks := putBl σ.blks id off [] } = σ
 rw [h]
where putCs_eq' : ∀ (l : List SC) (m : Nat), putCs l m [] = l
 | [], 0 => rfl
 | [], _ + 1 => rfl
 | _ :: _, 0 => rfl
 | x :: r, m + 1 => by
  show x :: putCs r m [] = x :: r
  rw [putCs_eq' r m]
/-- what stands in a block of one's own, as a slice -/
theorem tsl_own {w : World} {b : Bl} (hb : Blk w b.g b.t (dens b.cs)) (k off m c : Nat) (hl : off + m * k ≤ b.cs.length) (h : m ≤ c) (hc : c ≤ maxLen) : TSl w b.t k m (.slice (some ⟨b.g, off, none⟩) m c) (((b.cs.map SC.den).drop off).take (m * k)) := by
 refine ⟨_, c, rfl, h, hc, by simp; omega, fun _ => ⟨b.g, off, dens b.cs, (0, 0), rfl, hb, fun j u hj => ?_⟩⟩
 rw [List.getElem?_take] at hj
 split at hj
 ·rw [List.getElem?_drop] at hj
  simpa [dens] using hj
 ·cases hj
/-- a cut of a slice, whatever it holds -/
theorem cutv_does {t e k : Nat} {x : Operand} {lo hi mx : Option Operand} {A : Option Addr} {n c : Nat} (l n' c' : Nat) (ho : o.op = .slice t x lo hi mx) (ht : tSlice P t = some e) (hk : tSize P e = some k)
  (hx : ev σ x = some (.c (.v (.slice A n c)))) (hlo : cutArg σ lo 0 l) (hhi : cutArg σ hi n (l + n')) (hmx : cutArg σ mx c (l + c')) (hmh : mx.isSome = true → hi.isSome = true) (hd : dOk E o.dst) (h2 : n' ≤ c') (h3 : l + c' ≤ c) :
  Does P E σ o (fun σ' => σ' = σ.put o.dst (.c (.v (.slice (if l + c' = l then A else A.map (·.add (l * k))) n' c')))) := by
 intro a w Q next hr hn
 obtain ⟨inf, hinf, hsz⟩ := tSize_spec hk
 have hx' : a.eval x = .slice A n c := ev_den hr.see hx
 have arg : ∀ (y : Option Operand) (d r : Nat), cutArg σ y d r → (y.map a.eval = none ∧ r = d) ∨ ∃ kk, y.map a.eval = some (.int kk (r : Int)) := by
  intro y d r h
  cases y with
  | none => exact .inl ⟨rfl, h⟩
  | some y =>
   obtain ⟨kk, j, hy, rfl⟩ := h
   exact .inr ⟨kk, congrArg some (ev_den hr.see hy)⟩
 have hrun : (execOp a.eval o).run P w = .ok (.value (.slice (if l + c' = l then A else A.map (·.add (l * k))) n' c')) w := by
  have := run_cut (tSlice_spec ht) hinf w A n c l n' c' _ _ _ (run_bounds w n c l (l + n') (l + c') _ _ _ (arg lo 0 l hlo) (arg hi n (l + n') hhi) (arg mx c (l + c') hmx) (by simpa using hmh) (by omega) (by omega) h3)
  rw [hsz] at this
  unfold execOp
  simp only [ho, hx', Sem.run_bind, this, Result.andThen_ok, Sem.run_pure]
 exact wp_of_value hrun (hn _ _ _ rfl (hr.put o.dst (.c (.v _)) (dOk_lt hd)))
theorem ones_map : ∀ {l : List Value}, (∀ u ∈ l, u.oneCell' = true) → ones (l.map .v)
 | [], _ => trivial
 | u :: r, h => ⟨h u List.mem_cons_self, ones_map fun v hv => h v (List.mem_cons_of_mem _ hv)⟩
theorem dens_put (cs : List SC) (off : Nat) (vs : List Value) (hl : off + vs.length ≤ cs.length) : dens (putCs cs off (vs.map .v)) = ((dens cs).toList.take off ++ vs ++ (dens cs).toList.drop (off + vs.length)).toArray := by
 rw [putCs_eq _ _ _ (by simpa using hl)]
 simp [dens, SC.den, Function.comp_def]
/-- 'append' onto a slice of one's own block, where there is room -/
theorem ownAppend_does {s x : Operand} {t e kc by_ i m c cx id : Nat} {ad : Addr} {news : List Value} {b : Bl} (ho : o.op = .call ⟨.builtin .append, #[s, x], #[t, t]⟩) (ht : tSlice P t = some e) (ha : tApp P e = some (kc, by_))
  (hb : getBl σ.blks id = some b) (hs : ev σ s = some (.c (.v (.slice (some ⟨b.g, 0, none⟩) i c)))) (hx : ev σ x = some (.c (.v (.slice (some ad) m cx)))) (hd : dOk E o.dst) (h1 : ∀ u ∈ news, u.oneCell' = true)
  (hbt : b.t = e) (hroom : i + m ≤ c) (hl : (i + m) * kc ≤ b.cs.length) (hn : ∀ G : GW, Now E σ G → TSl G.w e kc m (.slice (some ad) m cx) news) :
  Does P E σ o (fun σ' => σ' = (σ.set id (i * kc) (news.map .v)).put o.dst (.c (.v (.slice (some ⟨b.g, 0, none⟩) (i + m) c)))) := by
 intro a w Q next hr hnx
 obtain ⟨inf, z, hi, hz, hk, hby, hzs, h0⟩ := tApp_spec ha
 have hs' : a.eval s = .slice (some ⟨b.g, 0, none⟩) i c := ev_den hr.see hs
 have hx' : a.eval x = .slice (some ad) m cx := ev_den hr.see hx
 have hts := hn _ hr.now
 have hlen : news.length = m * kc := by obtain ⟨_, _, _, _, _, h3, _⟩ := hts; exact h3
 have hfit : i * kc + news.length ≤ b.cs.length := by rw [hlen, ← Nat.add_mul]; exact hl
 have hB : w.heap[b.g]? = some (.cells (dens b.cs) b.t (0, 0)) := hr.blks b (getBl_mem hb)
 have hrun := run_append_room (P := P) w t o.type e inf (tSlice_spec ht) hi b.g i c (dens b.cs) (by rw [hB, hbt]) ad m cx news (by rw [hk]; exact hlen) hts.news h1 hroom (by rw [hk]; simpa [dens] using hfit)
 rw [hk, ← dens_put _ _ _ hfit] at hrun
 unfold Oper.wp execOp
 simp only [ho, resolve, invoke, builtin, Sem.run_bind, Sem.run_pure, Result.andThen_ok, List.map_toArray, List.map_cons, List.map_nil, hs', hx', hrun]
 exact hnx _ _ _ rfl ((hr.set hb (by simpa using hfit)).put o.dst (.c (.v (.slice (some ⟨b.g, 0, none⟩) (i + m) c))) (dOk_lt hd))
theorem zero_cells_flat (z : Array Value) (n : Nat) : (Builtin.zeroCells z n).toList = (List.replicate n z.toList).flatten := by
 by_cases h0 : z.size = 0
 ·have hz : z.toList = [] := List.eq_nil_of_length_eq_zero (by rw [Array.length_toList]; exact h0)
  rw [hz]
  unfold Builtin.zeroCells
  simp [h0]
 ·symm
  refine flatten_ext (k := z.size) _ (by omega) (fun cs hc => by rw [(List.mem_replicate.1 hc).2, Array.length_toList]) _ (by unfold Builtin.zeroCells; simp) (fun i j cs hc hj => ?_)
  have hi : i < n := by have := (List.getElem?_eq_some_iff.1 hc).1; simpa using this
  have hcs : cs = z.toList := by
   rw [List.getElem?_replicate, if_pos hi] at hc
   exact (Option.some.inj hc).symm
  subst hcs
  have hlt : i * z.size + j < n * z.size := by
   calc i * z.size + j < i * z.size + z.size := by omega
    _ = (i + 1) * z.size := by rw [Nat.succ_mul]
    _ ≤ n * z.size := Nat.mul_le_mul_right _ hi
  have hmod : (i * z.size + j) % z.size = j := by rw [Nat.mul_comm, Nat.mul_add_mod, Nat.mod_eq_of_lt hj]
  unfold Builtin.zeroCells
  simp [hlt, hmod, hj]
/-- 'clear' of a slice of one's own block -/
theorem ownClear_does {x : Operand} {t e kc n c id off : Nat} {z : List Value} {b : Bl} (ho : o.op = .call ⟨.builtin .clear, #[x], #[t]⟩) (ht : tSlice P t = some e) (hk : tSize P e = some kc) (hz : tZero P e = some z)
  (hb : getBl σ.blks id = some b) (hx : ev σ x = some (.c (.v (.slice (some ⟨b.g, off, none⟩) n c)))) (hd : dOk E o.dst) (h1 : ∀ u ∈ z, u.oneCell' = true) (hzk : z.length = kc) (hl : off + n * kc ≤ b.cs.length) :
  Does P E σ o (fun σ' => σ' = (σ.set id off ((List.replicate n z).flatten.map .v)).put o.dst (.c (.v (.tuple #[])))) := by
 intro a w Q next hr hnx
 obtain ⟨inf, zv, hi, hzv, hzl⟩ := tZero_spec hz
 have hx' : a.eval x = .slice (some ⟨b.g, off, none⟩) n c := ev_den hr.see hx
 have hflat : ∀ u ∈ (List.replicate n z).flatten, u.oneCell' = true := by
  intro u hu
  obtain ⟨l, hl, hu⟩ := List.mem_flatten.1 hu
  rw [(List.mem_replicate.1 hl).2] at hu
  exact h1 u hu
 have hlen : (List.replicate n z).flatten.length = n * kc := by simp [hzk]
 have hst := store_own (P := P) hr hb (off := off) ((List.replicate n z).flatten.map .v) (by rw [List.length_map, hlen]; exact hl) (ones_map hflat)
 have hmm : ∀ l : List Value, (l.map SC.v).map SC.den = l := fun l => by simp [SC.den, Function.comp_def]
 rw [hmm] at hst
 have hset := hr.set (off := off) (cs := (List.replicate n z).flatten.map .v) hb (by rw [List.length_map, hlen]; exact hl)
 have hzc : (Builtin.zeroCells zv.cells n).toList = (List.replicate n z).flatten := by
  rw [← hzl]
  exact zero_cells_flat _ _
 by_cases hn0 : n = 0
 ·subst hn0
  have hrun : (Builtin.clear_ #[t] o.type #[.slice (some ⟨b.g, off, none⟩) 0 c]).run P w = .ok (.tuple #[]) w := by
   simp [Builtin.clear_, run_underlying (tSlice_spec ht)]
  unfold Oper.wp execOp
  simp only [ho, resolve, invoke, builtin, Sem.run_bind, Sem.run_pure, Result.andThen_ok, List.map_toArray, List.map_cons, List.map_nil, hx', hrun]
  have e0 : (List.replicate 0 z).flatten.map SC.v = [] := rfl
  exact hnx _ _ _ rfl (by rw [e0, set_nil]; exact hr.put o.dst (.c (.v (.tuple #[]))) (dOk_lt hd))
 ·have hrun : (Builtin.clear_ #[t] o.type #[.slice (some ⟨b.g, off, none⟩) n c]).run P w = .ok (.tuple #[]) (w.setRow b.g (dens (putCs b.cs off ((List.replicate n z).flatten.map .v)))) := by
   cases n with
   | zero => exact absurd rfl hn0
   | succ n => simp [Builtin.clear_, run_underlying (tSlice_spec ht), zeroValue, typeInfo, hi, hzv, hzc, hst]
  unfold Oper.wp execOp
  simp only [ho, resolve, invoke, builtin, Sem.run_bind, Sem.run_pure, Result.andThen_ok, List.map_toArray, List.map_cons, List.map_nil, hx', hrun]
  exact hnx _ _ _ rfl (hset.put o.dst (.c (.v (.tuple #[]))) (dOk_lt hd))
/-- an element that is looked at ahead of a region -/
theorem preview_ok {α : Type} {R : GW → α → List Value → Prop} {kc : Nat} {A : Option Addr} {n c m : Nat} {l : List α} {y : α} {Φ : Act → World → Prop} (hy : l[m]? = some y) (hs : ∀ G : GW, (∀ s ∈ σ.snaps, s.Le G) → ScR R kc G (.slice A n c) l)
  (h : ∀ g o cs G, A = some ⟨g, o, none⟩ → cs.length = kc → R G y cs → (∀ s ∈ σ.snaps, s.Le G) → Ok E ((σ.seen G).view g (o + m * kc) cs) Φ) : Ok E σ Φ := by
 intro a w hr
 obtain ⟨g, o, cs, rfl, hg, hm, hl, hR, hrg, rfl⟩ := (hs ⟨σ.M E, w⟩ hr.snaps).at_ hy
 exact h g o cs ⟨σ.M E, w⟩ rfl hl hR hr.snaps a w ((hr.called (Chg.refl _ _)).addV hg (fun q => hm q) hrg)
end
end Go.Proofs.YtohdfcnjcpjdcaaGreat
/- Calls of functions that are values; maps of the call's own. Names no program. Conditions: as each law states them. -/
namespace Go.Proofs.YtohdfcnjcpjdcaaGreat
open Go.RowKit
set_option linter.unusedSimpArgs false
section
variable {P : Program} {E : Env} {σ : St} {o : Oper} {a : Act} {w : World}
theorem run_callD {c : Call} {f : FuncId} {vs : List SV} {x : Operand} {fv : SV} {caps : Array Value} (ho : o.op = .call c) (hcal : c.callee = .value x) (hx : ev σ x = some fv) (hfv : fv.den = .func (.func f) #[] caps) (hev : evs σ c.args.toList = some vs) (hf : isFn P f = true) (hr : See σ a w) :
  (execOp a.eval o).run P w = .ok (.enter f ((vs.map SV.den).toArray ++ caps)) w := by
 have h1 := evs_args hr hev
 have h2 : a.eval x = .func (.func f) #[] caps := (ev_den hr hx).trans hfv
 unfold execOp
 simp only [ho, resolve, hcal, h1, h2, Deferred.ofValue, Sem.run_bind, Sem.run_pure, Result.andThen_ok, invoke, Array.empty_append, run_enter hf]
/-- a call of a function that is a value, by its contract -/
theorem callD_does {c : Call} {f : FuncId} {vs : List SV} {x : Operand} {fv : SV} {caps : Array Value} (T : Value → GW → Prop) (ho : o.op = .call c) (hcal : c.callee = .value x) (hx : ev σ x = some fv) (hfv : fv.den = .func (.func f) #[] caps) (hf : isFn P f = true)
  (hev : evs σ c.args.toList = some vs) (hd : dOk E o.dst) (hct : ∀ G : GW, Now E σ G → Calls P f ((vs.map SV.den).toArray ++ caps) G.w (Ret G T)) :
  Does P E σ o (fun σ' => ∃ v G, T v G ∧ Now E σ G ∧ σ' = (σ.seen G).put o.dst (.c (.v v))) := by
 intro a w Q next hr hn
 unfold Oper.wp
 rw [run_callD ho hcal hx hfv hev hf hr.see]
 refine Calls.mono (hct ⟨σ.M E, w⟩ hr.now) fun e w' he => ?_
 obtain ⟨v, rfl, hT, hc⟩ := he
 have hw := (hr.called hc).now
 exact hn _ _ _ ⟨v, _, hT, ⟨fun s hs => hw.le s (List.mem_cons_of_mem _ hs), hw.blks, hw.mine, hw.chg, hw.wf, hw.only, hw.rows, hw.nodup, hw.apart, hw.rapart, hw.mineR⟩, rfl⟩ ((hr.called hc).put o.dst (.c (.v v)) (dOk_lt hd))
/-! ### maps -/
/-- a row's world: its block turned, or new; no other turns -/
theorem Rel.rowTo {w' : World} (h : Rel E σ a w) {R1 R2 : List Rw} {r r' : Rw} (hR : σ.rows = R1 ++ r :: R2) (hg : w.grownBy w' (rb r.v)) (his : RowIs w' r') (hv : r'.v = r.v) : Rel E (σ.rowsTo (R1 ++ r' :: R2)) a w' :=
 h.grow hR hg his (fun g e => .inl (by rw [← hv]; exact e))
/-- a map's entries, as keys and values by turns -/
def flatM (al : List (Value × Value)) : List Value := al.flatMap fun e => [e.1, e.2]
theorem flatM_entries {es : List MapEntry} {al : List (Value × Value)} (h : es.flatMap (fun e => [e.key, e.val]) = flatM al) : es.map (fun e => (e.key, e.val)) = al := by
 unfold flatM at h
 induction es generalizing al with
 | nil =>
  cases al with
  | nil => rfl
  | cons x al => simp at h
 | cons e es ih =>
  cases al with
  | nil => simp at h
  | cons x al =>
   simp only [List.flatMap_cons, List.cons_append, List.nil_append, List.cons.injEq] at h
   obtain ⟨h1, h2, h3⟩ := h
   rw [List.map_cons, ih h3, h1, h2]
theorem entries_flatM (es : List MapEntry) : es.flatMap (fun e => [e.key, e.val]) = flatM (es.map fun e => (e.key, e.val)) := by
 unfold flatM
 rw [List.flatMap_map]
/-- keys that one may look for, all of them different -/
def KeysIn (P : Program) (kt : TypeId) (al : List (Value × Value)) : Prop := (∀ e ∈ al, ∃ l, keyOf P kt e.1 = some l) ∧ al.Pairwise fun e e' => e.1 ≠ e'.1
theorem KeysIn.one {kt : TypeId} {al : List (Value × Value)} (h : KeysIn P kt al) {k u v : Value} (hu : (k, u) ∈ al) (hv : (k, v) ∈ al) : u = v := by
 obtain hp := h.2
 clear h
 induction al with
 | nil => cases hu
 | cons x al ih =>
  obtain ⟨p1, p2⟩ := List.pairwise_cons.1 hp
  rcases List.mem_cons.1 hu with e1 | hu
  ·rcases List.mem_cons.1 hv with e2 | hv
   ·rw [← e1] at e2; cases e2; rfl
   ·exact absurd (by rw [← e1]) (p1 _ hv)
  ·rcases List.mem_cons.1 hv with e2 | hv
   ·exact absurd (by rw [← e2]) (p1 _ hu)
   ·exact ih hu hv p2
theorem map_row {g n : Nat} {al : List (Value × Value)} {t : TypeId} (h : RowIs w ⟨.map (some g), t, 0, n, flatM al⟩) : ∃ es clock, w.heap[g]? = some (.map es clock) ∧ es.size = n ∧ es.toList.map (fun e => (e.key, e.val)) = al := by
 rcases h with ⟨A, e, _⟩ | h | ⟨_, g', e, es, cl, hm, h1, h2⟩
 ·cases e
 ·rcases h.2 with ⟨e, _⟩ | ⟨_, _, _, e, _⟩ <;> cases e
 ·cases e
  exact ⟨es, cl, hm, h1, flatM_entries h2⟩
theorem makeMap_does {t : TypeId} (ho : o.op = .makeMap t none) (hd : dOk E o.dst) :
  Does P E σ o (fun σ' => ∃ g G, σ' = (St.seen (σ.rowsTo (⟨.map (some g), t, 0, 0, flatM []⟩ :: σ.rows)) G).put o.dst (.c (.v (.map (some g))))) := by
 intro a w Q next hr hn
 have hrun : (execOp a.eval o).run P w = .ok (.value (.map (some w.heap.size))) (w.alloc (.map #[] 0)) := by
  unfold execOp
  have h0 := run_makeMap (P := P) t w
  simp only [ho, Option.map_none, Sem.run_bind, h0, Result.andThen_ok, Sem.run_pure]
 have hc : Chg Non w (w.alloc (.map #[] 0)) := ⟨rfl, rfl, rfl, by simp, fun k hk _ => Below.heap_alloc w _ k hk⟩
 have hown : ∀ r ∈ [(⟨.map (some w.heap.size), t, 0, 0, flatM []⟩ : Rw)], RowFresh w (w.alloc (.map #[] 0)) r := by
  intro r hr'
  obtain rfl := List.mem_singleton.1 hr'
  refine ⟨.inr (.inr ⟨rfl, w.heap.size, rfl, #[], 0, heap_alloc_new w _, rfl, rfl⟩), fun g e => ?_⟩
  cases e
  exact Nat.le_refl _
 have hr' := hr.calledO hc hown (List.pairwise_singleton _ _)
 exact wp_of_value hrun (hn _ _ _ ⟨w.heap.size, _, rfl⟩ (hr'.put o.dst (.c (.v (.map (some w.heap.size)))) (dOk_lt hd)))
/-- what is found at a key: what stands there, or the zero value -/
theorem lookup_does {t kt et tr : TypeId} {m x : Operand} {g n : Nat} {al : List (Value × Value)} {kv : SV} {key z v : Value} (ho : o.op = .lookup t m x false) (ht : P.underlying t = some (.map kt et)) (K : Go.Maps.Keyed P kt) (hz : ∀ w, (zeroValue et).run P w = .ok z w)
  (hrow : (⟨.map (some g), tr, 0, n, flatM al⟩ : Rw) ∈ σ.rows) (hm : ev σ m = some (.c (.v (.map (some g))))) (hx : ev σ x = some kv) (hk : kv.den = key) (hkey : ∃ l, keyOf P kt key = some l) (hal : KeysIn P kt al) (hd : dOk E o.dst)
  (hv : (key, v) ∈ al ∨ ((∀ e ∈ al, e.1 ≠ key) ∧ v = z)) :
  Does P E σ o (fun σ' => σ' = σ.put o.dst (.c (.v v))) := by
 intro a w Q next hr hn
 obtain ⟨es, cl, hb, hs, hes⟩ := map_row (hr.rows _ hrow).is
 obtain ⟨kl, hkl⟩ := hkey
 have hm' : a.eval m = .map (some g) := ev_den hr.see hm
 have hx' : a.eval x = key := (ev_den hr.see hx).trans hk
 have hkeys : ∀ e ∈ es.toList, ∃ l, keyOf P kt e.key = some l := fun e he => hal.1 (e.key, e.val) (by rw [← hes]; exact List.mem_map.2 ⟨e, he, rfl⟩)
 have hrun : (Instr.lookup t (.map (some g)) key false).run P w = .ok v w := by
  rcases K.find w hkl es.toList hkeys with ⟨h1, h2⟩ | ⟨j, e0, h1, h2, h3⟩
  ·have : v = z := by
    rcases hv with hv | ⟨_, hv⟩
    ·rw [← hes] at hv
     obtain ⟨e, he, q⟩ := List.mem_map.1 hv
     cases q
     exact absurd rfl (h2 e he)
    ·exact hv
   subst this
   simp [Instr.lookup, run_underlying ht, MapKept.run_getObj_map hb, K.check w es.isEmpty hkl, h1, hz, Result.andThen]
  ·have hin : (key, e0.val) ∈ al := by
    rw [← hes]
    exact List.mem_map.2 ⟨e0, List.mem_of_getElem? h2, by rw [h3]⟩
   have : e0.val = v := by
    rcases hv with hv | ⟨hv, _⟩
    ·exact hal.one hin hv
    ·exact absurd rfl (hv _ hin)
   subst this
   simp [Instr.lookup, run_underlying ht, MapKept.run_getObj_map hb, K.check w es.isEmpty hkl, h1, Result.andThen]
 have hrun2 : (execOp a.eval o).run P w = .ok (.value v) w := by
  unfold execOp
  simp only [ho, hm', hx', Sem.run_bind, hrun, Result.andThen_ok, Sem.run_pure]
 exact wp_of_value hrun2 (hn _ _ _ rfl (hr.put o.dst (.c (.v v)) (dOk_lt hd)))
/-- a store at a key where nothing stands -/
theorem update_new_does {t kt et tr : TypeId} {m x y : Operand} {g n : Nat} {al : List (Value × Value)} {kv yv : SV} {key v : Value} {R1 R2 : List Rw} (ho : o.op = .mapUpdate t m x y) (ht : P.underlying t = some (.map kt et)) (K : Go.Maps.Keyed P kt)
  (hR : σ.rows = R1 ++ ⟨.map (some g), tr, 0, n, flatM al⟩ :: R2) (hm : ev σ m = some (.c (.v (.map (some g))))) (hx : ev σ x = some kv) (hk : kv.den = key) (hy : ev σ y = some yv) (hyv : yv.den = v) (hkey : ∃ l, keyOf P kt key = some l) (hal : KeysIn P kt al) (hd : dOk E o.dst)
  (hno : ∀ e ∈ al, e.1 ≠ key) :
  Does P E σ o (fun σ' => σ' = (σ.rowsTo (R1 ++ ⟨.map (some g), tr, 0, n + 1, flatM (al ++ [(key, v)])⟩ :: R2)).put o.dst (.c (.v undef))) := by
 intro a w Q next hr hn
 have hrm : (⟨.map (some g), tr, 0, n, flatM al⟩ : Rw) ∈ σ.rows := by rw [hR]; simp
 obtain ⟨es, cl, hb, hs, hes⟩ := map_row (hr.rows _ hrm).is
 obtain ⟨kl, hkl⟩ := hkey
 have hm' : a.eval m = .map (some g) := ev_den hr.see hm
 have hx' : a.eval x = key := (ev_den hr.see hx).trans hk
 have hy' : a.eval y = v := (ev_den hr.see hy).trans hyv
 have hkeys : ∀ e ∈ es.toList, ∃ l, keyOf P kt e.key = some l := fun e he => hal.1 (e.key, e.val) (by rw [← hes]; exact List.mem_map.2 ⟨e, he, rfl⟩)
 have hrun : (Instr.mapUpdate t (.map (some g)) key v).run P w = .ok () (Go.ChangeMaps.setBlock w g (.map (es.push ⟨key, v, cl⟩) (cl + 1))) := by
  rcases K.find w hkl es.toList hkeys with ⟨h1, h2⟩ | ⟨j, e0, h1, h2, h3⟩
  ·simp [Instr.mapUpdate, run_underlying ht, MapKept.run_getObj_map hb, K.check w false hkl, h1, MapKept.run_setObj_map _ hb, Result.andThen, Go.ChangeMaps.setBlock]
  ·exact absurd h3 (hno (e0.key, e0.val) (by rw [← hes]; exact List.mem_map.2 ⟨e0, List.mem_of_getElem? h2, rfl⟩))
 have hrun2 : (execOp a.eval o).run P w = .ok .skip (Go.ChangeMaps.setBlock w g (.map (es.push ⟨key, v, cl⟩) (cl + 1))) := by
  unfold execOp
  simp only [ho, hm', hx', hy', Sem.run_bind, hrun, Result.andThen_ok, Sem.run_pure]
 have hg : w.grownBy (Go.ChangeMaps.setBlock w g (.map (es.push ⟨key, v, cl⟩) (cl + 1))) (rb (.map (some g))) :=
  ⟨rfl, rfl, rfl, by simp [Go.ChangeMaps.setBlock], fun k _ hne => Go.ChangeMaps.heap_setBlock_other hb _ (fun e => hne (by rw [e]; rfl))⟩
 refine wp_of_skip hrun2 (hn _ _ _ rfl ((hr.rowTo (r' := ⟨.map (some g), tr, 0, n + 1, flatM (al ++ [(key, v)])⟩) hR hg ?_ rfl).put o.dst (.c (.v undef)) (dOk_lt hd)))
 refine .inr (.inr ⟨rfl, g, rfl, es.push ⟨key, v, cl⟩, cl + 1, Go.ChangeMaps.heap_setBlock_same hb _, by simp [hs], ?_⟩)
 rw [entries_flatM, Array.toList_push, List.map_append, hes]
 rfl
/-- a store at a key where something stands -/
theorem update_old_does {t kt et tr : TypeId} {m x y : Operand} {g n : Nat} {al : List (Value × Value)} {kv yv : SV} {key v v0 : Value} {R1 R2 : List Rw} (ho : o.op = .mapUpdate t m x y) (ht : P.underlying t = some (.map kt et)) (K : Go.Maps.Keyed P kt)
  (hR : σ.rows = R1 ++ ⟨.map (some g), tr, 0, n, flatM al⟩ :: R2) (hm : ev σ m = some (.c (.v (.map (some g))))) (hx : ev σ x = some kv) (hk : kv.den = key) (hy : ev σ y = some yv) (hyv : yv.den = v) (hkey : ∃ l, keyOf P kt key = some l) (hal : KeysIn P kt al) (hd : dOk E o.dst)
  (hin : (key, v0) ∈ al) :
  Does P E σ o (fun σ' => ∃ j, al[j]? = some (key, v0) ∧ σ' = (σ.rowsTo (R1 ++ ⟨.map (some g), tr, 0, n, flatM (al.set j (key, v))⟩ :: R2)).put o.dst (.c (.v undef))) := by
 intro a w Q next hr hn
 have hrm : (⟨.map (some g), tr, 0, n, flatM al⟩ : Rw) ∈ σ.rows := by rw [hR]; simp
 obtain ⟨es, cl, hb, hs, hes⟩ := map_row (hr.rows _ hrm).is
 obtain ⟨kl, hkl⟩ := hkey
 have hm' : a.eval m = .map (some g) := ev_den hr.see hm
 have hx' : a.eval x = key := (ev_den hr.see hx).trans hk
 have hy' : a.eval y = v := (ev_den hr.see hy).trans hyv
 have hkeys : ∀ e ∈ es.toList, ∃ l, keyOf P kt e.key = some l := fun e he => hal.1 (e.key, e.val) (by rw [← hes]; exact List.mem_map.2 ⟨e, he, rfl⟩)
 rcases K.find w hkl es.toList hkeys with ⟨h1, h2⟩ | ⟨j, e0, h1, h2, h3⟩
 ·rw [← hes] at hin
  obtain ⟨e, he, q⟩ := List.mem_map.1 hin
  cases q
  exact absurd rfl (h2 e he)
 ·have hj : es[j]? = some e0 := by simpa using h2
  have hrun : (Instr.mapUpdate t (.map (some g)) key v).run P w = .ok () (Go.ChangeMaps.setBlock w g (.map (es.modify j fun e => { e with key, val := v }) cl)) := by
   simp [Instr.mapUpdate, run_underlying ht, MapKept.run_getObj_map hb, K.check w false hkl, h1, hj, h3, K.stays w hkl, MapKept.run_setObj_map _ hb, Result.andThen, Go.ChangeMaps.setBlock]
  have hrun2 : (execOp a.eval o).run P w = .ok .skip (Go.ChangeMaps.setBlock w g (.map (es.modify j fun e => { e with key, val := v }) cl)) := by
   unfold execOp
   simp only [ho, hm', hx', hy', Sem.run_bind, hrun, Result.andThen_ok, Sem.run_pure]
  have hg : w.grownBy (Go.ChangeMaps.setBlock w g (.map (es.modify j fun e => { e with key, val := v }) cl)) (rb (.map (some g))) :=
   ⟨rfl, rfl, rfl, by simp [Go.ChangeMaps.setBlock], fun k _ hne => Go.ChangeMaps.heap_setBlock_other hb _ (fun e => hne (by rw [e]; rfl))⟩
  have hval : (key, e0.val) ∈ al := by
   rw [← hes]
   exact List.mem_map.2 ⟨e0, List.mem_of_getElem? h2, by rw [h3]⟩
  have hv0 : e0.val = v0 := hal.one hval hin
  have halj : al[j]? = some (key, v0) := by
   rw [← hes, List.getElem?_map, h2]
   show some (e0.key, e0.val) = _
   rw [h3, hv0]
  refine wp_of_skip hrun2 (hn _ _ _ ⟨j, halj, rfl⟩ ((hr.rowTo (r' := ⟨.map (some g), tr, 0, n, flatM (al.set j (key, v))⟩) hR hg ?_ rfl).put o.dst (.c (.v undef)) (dOk_lt hd)))
  refine .inr (.inr ⟨rfl, g, rfl, _, cl, Go.ChangeMaps.heap_setBlock_same hb _, by simp [hs], ?_⟩)
  have hlist : (es.modify j (fun e' => { e' with key := key, val := v })).toList = es.toList.set j { e0 with key := key, val := v } := by rw [Array.toList_modify, Go.ChangeMaps.modify_eq_set _ _ _ _ h2]
  rw [entries_flatM, hlist, List.map_set, hes]
end
end Go.Proofs.YtohdfcnjcpjdcaaGreat
/- A call that is given pointers to blocks that nobody writes meanwhile. Names no program. Conditions: as each law states them. -/
namespace Go.Proofs.YtohdfcnjcpjdcaaGreat
open Go.RowKit
set_option linter.unusedSimpArgs false
/-- a block that nobody writes -/
def BlkG (G : GW) (g : Nat) (cs : List Value) : Prop := g < G.w.heap.size ∧ ¬ G.M g ∧ G.w.rangeAt g 0 cs
theorem BlkG.mono {G G' : GW} {g : Nat} {cs : List Value} (h : BlkG G g cs) (hl : G.Le G') : BlkG G' g cs := by
 obtain ⟨h1, h2, h3⟩ := h
 obtain ⟨e, n⟩ := hl.keep g h1 h2
 exact ⟨Nat.lt_of_lt_of_le h1 hl.size, n, range_block h3 e⟩
@[go_sem] def startV (G : GW) (svs : List SV) (vs : List Vw) : St := ⟨initS 0 svs, [], [], vs, [G], vs.length⟩
/-- the beginning: a call that reads blocks which nobody writes -/
theorem enterV {P : Program} {f : FuncId} {fn : Func} {c : Code} {G : GW} {R : Ending → World → Prop} {n : Nat} (N : Nat) (svs : List SV) (vs : List Vw) (hv : ∀ v ∈ vs, v.g < G.w.heap.size ∧ ¬ G.M v.g ∧ G.w.rangeAt v.g v.o v.cs) (hG : G.Wf) (hf : P.funcs[f]? = some fn) (hb : fn.body = some c) (hn : fn.ntmps = n)
  (hl : svs.length ≤ n) (hw : W P ⟨G.w, Non, G.M, n, true⟩ N (.base (bodyPost P fn R)) (.code c) (startV G svs vs)) : Calls P f (svs.map SV.den).toArray G.w R := by
 refine calls_of_wp hf hb ?_
 refine W_sound N (.base (bodyPost P fn R)) (.code c) _ (QOk_body P fn R) hw trivial _ _ ?_
 refine ⟨fun u v hv => ?_, (by simp [hn]; omega), rfl, (fun b hb => by cases hb), List.Pairwise.nil, (fun b hb => by cases hb), (fun r hr => by cases hr), (fun r hr => by cases hr), List.Pairwise.nil, fun v h => ?_, Chg.refl _ _, ?_, hG⟩
 ·obtain ⟨hx, _⟩ := look_initS _ _ _ _ hv
  have hx' : (svs.map SV.den).toArray[u]? = some v.den := by
   rw [Nat.sub_zero] at hx
   simp [hx]
  rw [Array.getElem?_append_left (by exact (Array.getElem?_eq_some_iff.1 hx').1)]
  exact hx'
 ·obtain ⟨h1, h2, h3⟩ := hv v h
  refine ⟨h1, fun q => ?_, h3⟩
  rcases q with q | ⟨b, hb, _⟩ | ⟨r, hr, _⟩
  ·exact h2 q
  ·cases hb
  ·cases hr
 ·intro s hs
  have : s = G := by simpa [startV] using hs
  subst this
  refine ⟨Nat.le_refl _, fun k _ hm => ⟨rfl, fun q => ?_⟩⟩
  rcases q with q | ⟨b, hb, _⟩ | ⟨r, hr, _⟩
  ·exact hm q
  ·cases hb
  ·cases hr
theorem BlkG.vw {G : GW} {g : Nat} {cs : List Value} (h : BlkG G g cs) : ∀ v ∈ [(⟨0, g, 0, cs⟩ : Vw)], v.g < G.w.heap.size ∧ ¬ G.M v.g ∧ G.w.rangeAt v.g v.o v.cs := by
 intro v hv
 obtain rfl := List.mem_singleton.1 hv
 exact h
/-- a world in which some blocks are not written for a time -/
def GW.sub (G : GW) (ks : List Nat) : GW := ⟨fun k => G.M k ∧ k ∉ ks, G.w⟩
theorem GW.le_sub (G : GW) (ks : List Nat) : G.Le (G.sub ks) := ⟨Nat.le_refl _, fun _ _ h => ⟨rfl, fun q => h q.1⟩⟩
theorem GW.Wf.sub {G : GW} (h : G.Wf) (ks : List Nat) : (G.sub ks).Wf := fun k hk => h k hk.1
theorem Now.blkG {E : Env} {σ : St} {G : GW} (hn : Now E σ G) {b : Bl} (hb : b ∈ σ.blks) {ks : List Nat} (hk : b.g ∈ ks) : BlkG (G.sub ks) b.g (b.cs.map SC.den) := by
 have h := hn.blks b hb
 have := range_of_blk h 0 b.cs.length (by omega)
 rw [List.drop_zero, List.take_length] at this
 exact ⟨h.lt, fun q => q.2 hk, this⟩
theorem flatten_take {k : Nat} : ∀ (css : List (List Value)) (_ : ∀ cs ∈ css, cs.length = k) (m : Nat), css.flatten.take (m * k) = (css.take m).flatten
 | [], _, m => by simp
 | c :: css, h, 0 => by simp
 | c :: css, h, m + 1 => by
  have hc : c.length = k := h c List.mem_cons_self
  rw [List.flatten_cons, List.take_succ_cons, List.flatten_cons, Nat.succ_mul, List.take_append, List.take_of_length_le (by omega)]
  congr 1
  rw [show m * k + k - c.length = m * k from by omega]
  exact flatten_take css (fun cs hcs => h cs (List.mem_cons_of_mem _ hcs)) m
theorem ElG.take {α : Type} {R : GW → α → List Value → Prop} {k : Nat} {G : GW} {css : List (List Value)} {l : List α} (h : ElG R k G css l) (m : Nat) : ElG R k G (css.take m) (l.take m) := by
 obtain ⟨h1, h2, h3⟩ := h
 refine ⟨by simp [h1], fun cs hcs => h2 cs (List.mem_of_mem_take hcs), fun i cs x hi hx => ?_⟩
 rw [List.getElem?_take] at hi hx
 split at hi
 ·rename_i q
  rw [if_pos q] at hx
  exact h3 i cs x hi hx
 ·cases hi
section
variable {P : Program} {E : Env} {σ : St} {o : Oper} {α : Type}
/-- the first ones of a slice -/
theorem cutq_does {R : GW → α → List Value → Prop} {t e k : Nat} {x : Operand} {hi : Option Operand} {A : Option Addr} {n c m : Nat} {l : List α} (hn : n = l.length) (ho : o.op = .slice t x none hi none) (ht : tSlice P t = some e) (hk : tSize P e = some k)
  (hx : ev σ x = some (.c (.v (.slice A n c)))) (hhi : cutArg σ hi n (0 + m)) (hd : dOk E o.dst) (h1 : m ≤ n) (h3 : n ≤ c) :
  Does P E σ o (fun σ' => ∃ A', (∀ G : GW, Sq R e k G (.slice A n c) l → Sq R e k G (.slice A' m c) (l.take m)) ∧ σ' = σ.put o.dst (.c (.v (.slice A' m c)))) := by
 subst hn
 intro a w Q next hr hnx
 refine cutv_does 0 m c ho ht hk hx rfl hhi (show 0 + c = c from Nat.zero_add c) (by simp) hd (by omega) (by omega) a w Q next hr fun σ' a' w' hK hr' => hnx σ' a' w' ⟨_, fun G h => ?_, hK⟩ hr'
 obtain ⟨css, he, hS⟩ := h
 have h4 := hS.cut (l := 0) (n' := m) (c' := c) (by omega) (by omega) (by omega)
 rw [Nat.zero_mul, List.drop_zero, flatten_take css he.2.1 m] at h4
 refine ⟨css.take m, he.take m, ?_⟩
 rw [List.length_take, Nat.min_eq_left h1, Nat.zero_mul]
 exact h4
end
end Go.Proofs.YtohdfcnjcpjdcaaGreat
/- A slice and nil; append to a literal without elements: a row of the call's own. Names no program. Conditions: as each law states them. -/
namespace Go.Proofs.YtohdfcnjcpjdcaaGreat
open Go.RowKit
set_option linter.unusedSimpArgs false
section
variable {P : Program} {E : Env} {σ : St} {o : Oper}
/-- is a slice nil? -/
theorem nilcmp_does {ty t2 e : TypeId} {x y : Operand} {A : Option Addr} {n c : Nat} (ho : o.op = .binOp .eql ty x y t2) (ht : tSlice P ty = some e) (hx : ev σ x = some (.c (.v (.slice A n c)))) (hy : ev σ y = some (.c (.v (.slice none 0 0)))) (hd : dOk E o.dst)
  (hg : ∀ w, (eqGuard .eql ty x y (.slice A n c) (.slice none 0 0)).run P w = .ok () w) :
  Does P E σ o (fun σ' => σ' = σ.put o.dst (.c (.v (.bool A.isNone)))) := by
 intro ac w Q next hr hn
 have hx' : ac.eval x = .slice A n c := ev_den hr.see hx
 have hy' : ac.eval y = .slice none 0 0 := ev_den hr.see hy
 have hb : (binOp .eql ty (.slice A n c) (.slice none 0 0)).run P w = .ok (.bool A.isNone) w := by
  simp only [binOp]
  rw [Sem.run_bind, run_equal_slice_nil w ty e A n c (tSlice_spec ht)]
  rfl
 have hrun : (execOp ac.eval o).run P w = .ok (.value (.bool A.isNone)) w := by
  unfold execOp
  simp only [ho, hx', hy', hg, hb, Sem.run_bind, Sem.run_pure, Result.andThen_ok]
 exact wp_of_value hrun (hn _ _ _ rfl (hr.put o.dst (.c (.v _)) (dOk_lt hd)))
/-- append to a literal that has no elements -/
theorem litRow_append_does {s x : Operand} {t e kc by_ m cx : Nat} {Ax : Option Addr} {news : List Value} {B1 B2 : List Bl} {b : Bl} (ho : o.op = .call ⟨.builtin .append, #[s, x], #[t, t]⟩) (ht : tSlice P t = some e) (ha : tApp P e = some (kc, by_))
  (hB : σ.blks = B1 ++ b :: B2) (hbt : b.t = e) (hbl : b.cs = []) (hs : ev σ s = some (.c (.s b.id b.g 0 0 0))) {xv : SV} (hx : ev σ x = some xv) (hxv : xv.den = .slice Ax m cx) (hd : dOk E o.dst) (h1 : ∀ u ∈ news, u.oneCell' = true)
  (h63 : m ≤ maxLen) (hb : m * by_ ≤ 140737488355328) (hn : ∀ G : GW, (∀ s ∈ σ.snaps, s.Le G) → TSl G.w e kc m (.slice Ax m cx) news) :
  Does P E σ o (fun σ' => ∃ A c, σ' = (St.put { σ with blks := B1 ++ B2, rows := ⟨.slice A m c, e, kc, m, news⟩ :: σ.rows } o.dst (.c (.v (.slice A m c))))) := by
 intro a w Q next hr hnx
 have hs' : a.eval s = .slice (some ⟨b.g, 0, none⟩) 0 0 := ev_den hr.see hs
 have hx' : a.eval x = .slice Ax m cx := (ev_den hr.see hx).trans hxv
 refine blkRowN_ok (Φ := fun a' w' => a' = a → w' = w → o.wp P a w next Q) hB kc 0 0 (by rw [hbl, Nat.zero_mul]; rfl) (by omega) (by omega) ?_ a w hr rfl rfl
 rintro a' w' hr2 rfl rfl
 obtain ⟨i, z, hi, hz, hk, hby, hzs, h0⟩ := tApp_spec ha
 have hrow := hr2.rows _ List.mem_cons_self
 rw [hbt, hbl] at hrow
 obtain ⟨A', c', w2, hrun, hown, hg, hat⟩ := run_append_row (P := P) w' t o.type e i z kc by_ (tSlice_spec ht) hi hz hk hby hzs h0 _ 0 _ hrow.is Ax m cx news (hn _ hr2.snaps) h1 (by omega) (by rw [Nat.zero_add]; exact hb)
 simp only [Nat.zero_add, Nat.zero_mul, List.take_zero, List.nil_append] at hown hg hat hrun
 unfold Oper.wp execOp
 simp only [ho, resolve, invoke, builtin, Sem.run_bind, Sem.run_pure, Result.andThen_ok, List.map_toArray, List.map_cons, List.map_nil, hs', hx', hrun]
 have hr3 := hr2.grow (R1 := []) (r' := ⟨.slice A' m c', e, kc, m, news⟩) rfl hg hown hat
 exact hnx _ _ _ ⟨A', c', rfl⟩ (hr3.put o.dst (.c (.v (.slice A' m c'))) (dOk_lt hd))
theorem cap_does {t e : TypeId} {x : Operand} {A : Option Addr} {n c : Nat} (ho : o.op = .call ⟨.builtin .cap, #[x], #[t]⟩) (ht : tSlice P t = some e) (hx : ev σ x = some (.c (.v (.slice A n c)))) (hd : dOk E o.dst) :
  Does P E σ o (fun σ' => σ' = σ.put o.dst (.c (.v (.int .i64 (c : Int))))) := by
 intro ac w Q next hr hn
 have hx' : ac.eval x = .slice A n c := ev_den hr.see hx
 have hrun : (execOp ac.eval o).run P w = .ok (.value (.int .i64 (c : Int))) w := by
  unfold execOp
  simp [ho, resolve, hx', invoke, builtin, Builtin.cap_, run_underlying (tSlice_spec ht), goInt]
 exact wp_of_value hrun (hn _ _ _ rfl (hr.put o.dst (.c (.v _)) (dOk_lt hd)))
end
/-- behind a piece of code the states are among these: what comes is gone through once -/
theorem cut_code {ι : Type} {P : Program} {E : Env} {k : Cont} {N : Nat} {c : Code} {σ : St} (σI : ι → St) (C : ι → Prop) (hk : k.ok) (h1 : ∀ i, C i → W P E N k .norm (σI i))
  (h2 : Ok E σ (sem P (.inv (Again E σI C (fun _ => 0) 1) k) (.code c))) : Ok E σ (sem P k (.code c)) := fun a w hr =>
 Code.wp_mono (fun e a w h => by
  cases e with
  | normal =>
   obtain ⟨i, ⟨hC, hr⟩, _⟩ := (h : Again E σI C (fun _ => 0) 1 a w)
   exact W_sound N k .norm (σI i) hk (h1 i hC) trivial a w hr
  | _ => exact h) (h2 a w hr)
/-- the same, with all that comes behind out of sight -/
theorem cut_code2 {ι : Type} {P : Program} {E : Env} {k : Cont} {N : Nat} {c : Code} {σ : St} (σI : ι → St) (C : ι → Prop) (hk : k.ok) (h1 : ∀ i, C i → W P E N k .norm (σI i))
  (h2 : ∀ (k' : Cont) (J : Act → World → Prop), k'.ok → (∀ (i : ι) (τ : St), C i → Sub τ (σI i) → Ok E τ J) → Ok E σ (sem P (.inv J k') (.code c))) : Ok E σ (sem P k (.code c)) :=
 cut_code σI C hk h1 (h2 k _ hk fun i _ hC hs => again_ok i hC (by decide) hs)
end Go.Proofs.YtohdfcnjcpjdcaaGreat
/- Rows of the call's own as blocks of elements that are changed in place. Names no program. Conditions: as each law states them. -/
namespace Go.Proofs.YtohdfcnjcpjdcaaGreat
open Go.RowKit
set_option linter.unusedSimpArgs false
theorem drop_at {α : Type} {l : List α} {i : Nat} {x : α} (h : l[i]? = some x) : l.drop i = x :: l.drop (i + 1) := by
 have hlt := (List.getElem?_eq_some_iff.1 h).1
 rw [List.drop_eq_getElem_cons hlt]
 congr 1
 rw [List.getElem?_eq_getElem hlt] at h
 exact Option.some.inj h
def Chunks (k : Nat) (css : List (List Value)) : Prop := ∀ c ∈ css, c.length = k
theorem Chunks.len {k : Nat} {css : List (List Value)} (h : Chunks k css) : css.flatten.length = css.length * k := flatten_len css h
theorem Chunks.app {k : Nat} {a b : List (List Value)} (h1 : Chunks k a) (h2 : Chunks k b) : Chunks k (a ++ b) := fun c hc => (List.mem_append.1 hc).elim (h1 c) (h2 c)
theorem Chunks.take {k : Nat} {a : List (List Value)} (h : Chunks k a) (m : Nat) : Chunks k (a.take m) := fun c hc => h c (List.mem_of_mem_take hc)
theorem Chunks.drop {k : Nat} {a : List (List Value)} (h : Chunks k a) (m : Nat) : Chunks k (a.drop m) := fun c hc => h c (List.mem_of_mem_drop hc)
theorem chunks_map {α : Type} {f : α → List Value} {k : Nat} (hk : ∀ x, (f x).length = k) (l : List α) : Chunks k (l.map f) := fun c hc => by
 obtain ⟨x, _, rfl⟩ := List.mem_map.1 hc
 exact hk x
theorem flatten_drop {k : Nat} : ∀ (css : List (List Value)) (_ : Chunks k css) (m : Nat), css.flatten.drop (m * k) = (css.drop m).flatten
 | [], _, m => by simp
 | c :: css, h, 0 => by simp
 | c :: css, h, m + 1 => by
  have hc : c.length = k := h c List.mem_cons_self
  rw [List.flatten_cons, List.drop_succ_cons, Nat.succ_mul, List.drop_append, List.drop_of_length_le (by omega), List.nil_append, show m * k + k - c.length = m * k from by omega]
  exact flatten_drop css (fun cs hcs => h cs (List.mem_cons_of_mem _ hcs)) m
/-- the cells of an element -/
theorem chunk_get {k : Nat} {css : List (List Value)} (h : Chunks k css) {m : Nat} {c : List Value} (hm : css[m]? = some c) : ((css.flatten.map SC.v).drop (m * k)).take k = c.map SC.v := by
 have hlt := (List.getElem?_eq_some_iff.1 hm).1
 rw [← List.map_drop, flatten_drop css h, List.drop_eq_getElem_cons hlt, List.flatten_cons, ← List.map_take]
 have e : css[m] = c := by rw [List.getElem?_eq_getElem hlt] at hm; exact Option.some.inj hm
 rw [e, List.take_append, List.take_of_length_le (by rw [h c (List.mem_of_getElem? hm)]; exact Nat.le_refl _), h c (List.mem_of_getElem? hm), Nat.sub_self, List.take_zero, List.append_nil]
/-- elements put over others -/
theorem chunk_put {k : Nat} {css ds : List (List Value)} (h : Chunks k css) (hd : Chunks k ds) {m : Nat} (hm : m + ds.length ≤ css.length) :
  putCs (css.flatten.map SC.v) (m * k) (ds.flatten.map SC.v) = (css.take m ++ ds ++ css.drop (m + ds.length)).flatten.map SC.v := by
 have h1 : m * k + ds.length * k ≤ css.length * k := by rw [← Nat.add_mul]; exact Nat.mul_le_mul_right k hm
 rw [putCs_eq _ _ _ (by rw [List.length_map, List.length_map, h.len, hd.len]; exact h1), List.length_map, hd.len, ← Nat.add_mul, ← List.map_take, ← List.map_drop, flatten_take css h, flatten_drop css h]
 simp
theorem set_chunk {α : Type} {f : α → List Value} {l : List α} {tl : List (List Value)} {i : Nat} {x : α} (hi : i < l.length) : (l.map f ++ tl).take i ++ [f x] ++ (l.map f ++ tl).drop (i + 1) = (l.set i x).map f ++ tl := by
 rw [List.append_assoc, List.map_set, ← List.set_append_left _ _ (by simpa using hi), List.set_eq_take_append_cons_drop, if_pos (by simp; omega)]
 rfl
/-- one element put over another -/
theorem chunk_set {α : Type} {f : α → List Value} {k : Nat} {l : List α} {tl : List (List Value)} {i : Nat} {x : α} (hf : ∀ x, (f x).length = k) (ht : Chunks k tl) (hi : i < l.length) :
  putCs ((l.map f ++ tl).flatten.map SC.v) (i * k) ((f x).map SC.v) = ((l.set i x).map f ++ tl).flatten.map SC.v := by
 have h := chunk_put (css := l.map f ++ tl) (ds := [f x]) ((chunks_map hf l).app ht) (fun c hc => by rw [List.mem_singleton.1 hc]; exact hf x) (m := i) (by simp; omega)
 rw [List.flatten_cons, List.flatten_nil, List.append_nil] at h
 rw [h, ← set_chunk hi]
 rfl
theorem den_flat (l : List Value) : (l.map SC.v).map SC.den = l := by simp [SC.den, Function.comp_def]
/-- the elements behind one that is dropped come a place forward -/
theorem chunk_shift {α : Type} {f : α → List Value} {k : Nat} {l : List α} {tl : List (List Value)} {i : Nat} (hf : ∀ x, (f x).length = k) (ht : Chunks k tl) (hi : i < l.length) :
  ∃ c, c.length = k ∧ putCs ((l.map f ++ tl).flatten.map SC.v) (i * k) (((l.drop (i + 1)).flatMap f).map SC.v) = ((l.eraseIdx i).map f ++ (c :: tl)).flatten.map SC.v := by
 have hc := (chunks_map hf l).app ht
 have hx : (l.map f ++ tl)[l.length - 1]? = some (f l[l.length - 1]) := by
  rw [List.getElem?_append_left (by rw [List.length_map]; omega), List.getElem?_map, List.getElem?_eq_getElem (by omega)]
  rfl
 refine ⟨f l[l.length - 1], hf _, ?_⟩
 rw [List.flatMap_def, chunk_put hc (chunks_map hf (l.drop (i + 1))) (m := i) (by rw [List.length_map, List.length_drop, List.length_append, List.length_map]; omega)]
 congr 2
 rw [List.length_map, List.length_drop, show i + (l.length - (i + 1)) = l.length - 1 from by omega, drop_at hx, show l.length - 1 + 1 = (l.map f).length from by rw [List.length_map]; omega, List.drop_left, List.take_append_of_le_length (by rw [List.length_map]; omega), ← List.map_take, ← List.map_append, List.eraseIdx_eq_take_drop_succ]
/-- the elements behind a place, read from the block -/
theorem chunk_tail {α : Type} {f : α → List Value} {k : Nat} {w : World} {id g t i m c : Nat} {ad : Addr} {l : List α} {tl : List (List Value)} (hf : ∀ x, (f x).length = k) (ht : Chunks k tl) (hb : Blk w g t (dens ((l.map f ++ tl).flatten.map SC.v))) (hm : i + m = l.length) (had : m = 0 ∨ ad = ⟨g, i * k, none⟩) (h : m ≤ c) (hc : c ≤ maxLen) :
  TSl w t k m (.slice (some ad) m c) ((l.drop i).flatMap f) := by
 have hch := (chunks_map hf l).app ht
 rcases had with rfl | rfl
 ·have : l.drop i = [] := List.drop_of_length_le (by omega)
  rw [this]
  exact ⟨_, c, rfl, h, hc, by simp, fun q => absurd q (by omega)⟩
 ·have h1 : (i + m) * k ≤ ((l.map f ++ tl).flatten.map SC.v).length := by
   rw [List.length_map, hch.len, List.length_append, List.length_map]
   exact Nat.mul_le_mul_right k (by omega)
  have h2 := tsl_own (b := ⟨id, g, t, (l.map f ++ tl).flatten.map SC.v⟩) hb k (i * k) m c (by show i * k + m * k ≤ _; rw [← Nat.add_mul]; exact h1) h hc
  simp only [den_flat] at h2
  rw [flatten_drop _ hch, flatten_take _ (hch.drop i)] at h2
  have e : ((l.map f ++ tl).drop i).take m = (l.drop i).map f := by
   rw [List.drop_append_of_le_length (by rw [List.length_map]; omega), ← List.map_drop, List.take_left' (by rw [List.length_map, List.length_drop]; omega)]
  rw [e] at h2
  rw [List.flatMap_def]
  exact h2
theorem exists_chunks {k : Nat} (h0 : 0 < k) : ∀ (cap : Nat) (cur : List Value), cur.length = cap * k → ∃ css, css.length = cap ∧ Chunks k css ∧ css.flatten = cur
 | 0, cur, h => ⟨[], rfl, fun c hc => (by cases hc), by have : cur = [] := List.eq_nil_of_length_eq_zero (by omega); rw [this]; rfl⟩
 | cap + 1, cur, h => by
  rw [Nat.succ_mul] at h
  obtain ⟨css, h1, h2, h3⟩ := exists_chunks h0 cap (cur.drop k) (by rw [List.length_drop]; omega)
  refine ⟨cur.take k :: css, by simp [h1], fun c hc => ?_, by rw [List.flatten_cons, h3, List.take_append_drop]⟩
  rcases List.mem_cons.1 hc with rfl | hc
  ·rw [List.length_take]; omega
  ·exact h2 c hc
theorem flatten_inj {k : Nat} (h0 : 0 < k) : ∀ (a b : List (List Value)), Chunks k a → Chunks k b → a.flatten = b.flatten → a = b
 | [], [], _, _, _ => rfl
 | [], c :: b, _, h2, e => by
  have := h2 c List.mem_cons_self
  have e2 := congrArg List.length e
  simp only [List.flatten_nil, List.length_nil, List.flatten_cons, List.length_append] at e2
  omega
 | c :: a, [], h1, _, e => by
  have := h1 c List.mem_cons_self
  have e2 := congrArg List.length e
  simp only [List.flatten_nil, List.length_nil, List.flatten_cons, List.length_append] at e2
  omega
 | c :: a, d :: b, h1, h2, e => by
  have hc := h1 c List.mem_cons_self
  have hd := h2 d List.mem_cons_self
  rw [List.flatten_cons, List.flatten_cons] at e
  obtain ⟨e1, e2⟩ := List.append_inj e (by omega)
  rw [e1, flatten_inj h0 a b (fun x hx => h1 x (List.mem_cons_of_mem _ hx)) (fun x hx => h2 x (List.mem_cons_of_mem _ hx)) e2]
section
variable {E : Env} {σ : St} {α : Type}
/-- a row that is not empty, as a block of elements with room behind them -/
theorem rowChunk_ok {Φ : Act → World → Prop} {R1 R2 : List Rw} {v : Value} {t k n : Nat} {f : α → List Value} {l : List α} (hR : σ.rows = R1 ++ ⟨v, t, k, n, l.flatMap f⟩ :: R2) (hf : ∀ x, (f x).length = k) (h0 : 0 < k) (hn : 0 < n) (hl : n = l.length)
  (h : ∀ (g : Nat) (tl : List (List Value)), v = .slice (some ⟨g, 0, none⟩) n (n + tl.length) → n + tl.length ≤ maxLen → Chunks k tl → Ok E { σ with rows := R1 ++ R2, blks := ⟨σ.next, g, t, (l.map f ++ tl).flatten.map .v⟩ :: σ.blks, next := σ.next + 1 } Φ) : Ok E σ Φ := by
 refine rowBlk_ok hR hn (fun g cap cur hv hcap hmax hlen htk => ?_) (by show k ≠ 0; omega)
 obtain ⟨css, h1, h2, h3⟩ := exists_chunks h0 cap cur hlen
 have h4 : (css.take n).flatten = (l.map f).flatten := by
  rw [← flatten_take css h2, h3, ← List.flatMap_def]
  exact htk
 have h5 := flatten_inj h0 _ _ (h2.take n) (chunks_map hf l) h4
 have hcap' : n ≤ cap := hcap
 have h6 : n + (css.drop n).length = cap := by rw [List.length_drop]; omega
 have h7 := h g (css.drop n) (by rw [h6]; exact hv) (by rw [h6]; exact hmax) (h2.drop n)
 rw [← h5, List.take_append_drop, h3] at h7
 exact h7
/-- and back -/
theorem chunkRow_ok {Φ : Act → World → Prop} {B1 B2 : List Bl} {id g t : Nat} (k n : Nat) (f : α → List Value) (l : List α) (tl : List (List Value)) (hB : σ.blks = B1 ++ ⟨id, g, t, (l.map f ++ tl).flatten.map .v⟩ :: B2) (hf : ∀ x, (f x).length = k) (ht : Chunks k tl) (hl : n = l.length) (hm : n + tl.length ≤ maxLen)
  (h : Ok E { σ with blks := B1 ++ B2, rows := ⟨.slice (some ⟨g, 0, none⟩) n (n + tl.length), t, k, n, l.flatMap f⟩ :: σ.rows } Φ) : Ok E σ Φ := by
 have hc := (chunks_map hf l).app ht
 refine blkRowN_ok hB k n (n + tl.length) (by show ((l.map f ++ tl).flatten.map SC.v).length = _; rw [List.length_map, hc.len, List.length_append, List.length_map, hl]) (Nat.le_add_right _ _) hm ?_
 have e : (((l.map f ++ tl).flatten.map SC.v).map SC.den).take (n * k) = l.flatMap f := by
  have e1 : (((l.map f ++ tl).flatten.map SC.v).map SC.den) = (l.map f ++ tl).flatten := by simp [SC.den, Function.comp_def]
  rw [e1, flatten_take _ hc, List.take_left' (by simp [hl]), List.flatMap_def]
 show Ok E { σ with blks := B1 ++ B2, rows := ⟨.slice (some ⟨g, 0, none⟩) n (n + tl.length), t, k, n, (((l.map f ++ tl).flatten.map SC.v).map SC.den).take (n * k)⟩ :: σ.rows } Φ
 rw [e]
 exact h
end
section
variable {P : Program} {E : Env} {σ : St} {o : Oper}
theorem take_cutA {rec_ : Cmd → St → Prop} {dr : Dr} {q : Nat} {p : Plan} {t e k : Nat} {A A' : Option Addr} {x : Operand} {lo hi mx : Option Operand} {n c : Nat} (l n' c' : Nat) (hA : (if l + c' = l then A else A.map (·.add (l * k))) = A') (ho : o.op = .slice t x lo hi mx) (ht : tSlice P t = some e) (hk : tSize P e = some k)
  (hx : ev σ x = some (.c (.v (.slice A n c)))) (hlo : cutArg σ lo 0 l) (hhi : cutArg σ hi n (l + n')) (hmx : cutArg σ mx c (l + c')) (hmh : mx.isSome = true → hi.isSome = true) (hd : dOk E o.dst) (h2 : n' ≤ c') (h3 : l + c' ≤ c)
  (h : rec_ (dr.next q p) (σ.put o.dst (.c (.v (.slice A' n' c'))))) : TakeStop P E rec_ dr q p o σ := by
 subst hA
 refine ⟨.c (.v (.slice (if l + c' = l then A else A.map (·.add (l * k))) n' c')), hd, fun a w hr => ?_, h⟩
 obtain ⟨inf, hinf, hsz⟩ := tSize_spec hk
 have hx' : a.eval x = .slice A n c := ev_den hr hx
 have arg : ∀ (y : Option Operand) (d r : Nat), cutArg σ y d r → (y.map a.eval = none ∧ r = d) ∨ ∃ kk, y.map a.eval = some (.int kk (r : Int)) := by
  intro y d r h
  cases y with
  | none => exact .inl ⟨rfl, h⟩
  | some y =>
   obtain ⟨kk, j, hy, rfl⟩ := h
   exact .inr ⟨kk, congrArg some (ev_den hr hy)⟩
 have := run_cut (tSlice_spec ht) hinf w A n c l n' c' _ _ _ (run_bounds w n c l (l + n') (l + c') _ _ _ (arg lo 0 l hlo) (arg hi n (l + n') hhi) (arg mx c (l + c') hmx) (by simpa using hmh) (by omega) (by omega) h3)
 rw [hsz] at this
 show (execOp a.eval o).run P w = .ok (.value (.slice (if l + c' = l then A else A.map (·.add (l * k))) n' c')) w
 unfold execOp
 simp only [ho, hx', Sem.run_bind, this, Result.andThen_ok, Sem.run_pure]
end
theorem RetH.fresh {P : Program} {f : FuncId} {args : Array Value} {G : GW} {T : Value → List (List Value) → List Rw → GW → Prop} (N : Nat) (hN : N ≤ G.w.heap.size) (h : Calls P f args G.w (RetH G ⟨[], []⟩ T)) :
  Calls P f args G.w (RetH G ⟨[], []⟩ fun v css R G' => T v css R G' ∧ ∀ r ∈ R, ∀ k, rb r.v = some k → N ≤ k) :=
 Calls.mono h fun _ _ ⟨v, css, R, he, hl, hr, ha, hT, hg⟩ => ⟨v, css, R, he, hl, hr, ha, ⟨hT, fun r hr' k e => by
  rcases (hr r hr').2 k e with ⟨q, hq, _⟩ | h
  ·cases hq
  ·omega⟩, hg⟩
theorem RetH.anyM {P : Program} {f : FuncId} {args : Array Value} {w : World} {M M' : Nat → Prop} {h : Hands} {T : Value → List (List Value) → List Rw → Prop} (hc : Calls P f args w (RetH ⟨M', w⟩ h fun v css R _ => T v css R)) : Calls P f args w (RetH ⟨M, w⟩ h fun v css R _ => T v css R) := Calls.mono hc fun _ _ h => h
end Go.Proofs.YtohdfcnjcpjdcaaGreat
