/- Slices whose block is the call's own, written in their midst: cuts, 'append' where there is room, 'copy', 'clear'; calls of functions that are values. Names no program. Conditions: as each law states them. -/
import Derived.Test.YtohdfcnjcpjdcaaDoorP4q
namespace Go.Proofs.YtohdfcnjcpjdcaaDoor
open Go.RowKit
set_option linter.unusedSimpArgs false
section
variable {P : Program} {E : Env} {σ : St} {o : Oper} {a : Act} {w : World}
/-- cells of one's own, stored at a place -/
theorem store_own (hr : Rel E σ a w) {id off : Nat} {b : Bl} (hb : getBl σ.blks id = some b) (cs : List SC) (hl : off + cs.length ≤ b.cs.length) (h1 : ones cs) :
    (storeCells ⟨b.g, off, none⟩ (cs.map SC.den)).run P w = .ok () (w.setRow b.g (dens (putCs b.cs off cs))) := by
  have hB : w.heap[b.g]? = some (.cells (dens b.cs) b.t (0, 0)) := hr.blks b (getBl_mem hb)
  have hst := run_storeCells_at P b.g off b.t (cs.map SC.den) 0 (dens b.cs) w hB (by simpa [dens] using hl) (fun u hu => by
    obtain ⟨x, hx, rfl⟩ := List.mem_map.1 hu
    exact SC.one_den (ones_mem h1 x hx))
  simp only [Nat.add_zero] at hst
  rw [hst]
  congr 2
  rw [putCs_eq _ _ _ hl]
  simp [dens]
theorem set_nil (σ : St) (id off : Nat) : σ.set id off [] = σ := by
  have h : ∀ B : List Bl, putBl B id off [] = B := by
    intro B
    induction B with
    | nil => rfl
    | cons x B ih =>
      show (if x.id = id then { x with cs := putCs x.cs off [] } :: B else x :: putBl B id off []) = x :: B
      split
      · rw [putCs_eq' x.cs off]
      · rw [ih]
  show { σ with blks := putBl σ.blks id off [] } = σ
  rw [h]
where putCs_eq' : ∀ (l : List SC) (m : Nat), putCs l m [] = l
  | [], 0 => rfl
  | [], _ + 1 => rfl
  | _ :: _, 0 => rfl
  | x :: r, m + 1 => by
    show x :: putCs r m [] = x :: r
    rw [putCs_eq' r m]
/-- what stands in a block of one's own, as a slice -/
theorem tsl_own {w : World} {b : Bl} (hb : Blk w b.g b.t (dens b.cs)) (k off m c : Nat) (hl : off + m * k ≤ b.cs.length) (h : m ≤ c) (hc : c ≤ maxLen) : TSl w b.t k m (.slice (some ⟨b.g, off, none⟩) m c) (((b.cs.map SC.den).drop off).take (m * k)) := by
  refine ⟨_, c, rfl, h, hc, by simp; omega, fun _ => ⟨b.g, off, dens b.cs, (0, 0), rfl, hb, fun j u hj => ?_⟩⟩
  rw [List.getElem?_take] at hj
  split at hj
  · rw [List.getElem?_drop] at hj
    simpa [dens] using hj
  · cases hj
/-- a cut of a slice, whatever it holds -/
theorem cutv_does {t e k : Nat} {x : Operand} {lo hi mx : Option Operand} {A : Option Addr} {n c : Nat} (l n' c' : Nat) (ho : o.op = .slice t x lo hi mx) (ht : tSlice P t = some e) (hk : tSize P e = some k)
    (hx : ev σ x = some (.c (.v (.slice A n c)))) (hlo : cutArg σ lo 0 l) (hhi : cutArg σ hi n (l + n')) (hmx : cutArg σ mx c (l + c')) (hmh : mx.isSome = true → hi.isSome = true) (hd : dOk E o.dst) (h2 : n' ≤ c') (h3 : l + c' ≤ c) :
    Does P E σ o (fun σ' => σ' = σ.put o.dst (.c (.v (.slice (if l + c' = l then A else A.map (·.add (l * k))) n' c')))) := by
  intro a w Q next hr hn
  obtain ⟨inf, hinf, hsz⟩ := tSize_spec hk
  have hx' : a.eval x = .slice A n c := ev_den hr.see hx
  have arg : ∀ (y : Option Operand) (d r : Nat), cutArg σ y d r → (y.map a.eval = none ∧ r = d) ∨ ∃ kk, y.map a.eval = some (.int kk (r : Int)) := by
    intro y d r h
    cases y with
    | none => exact .inl ⟨rfl, h⟩
    | some y =>
      obtain ⟨kk, j, hy, rfl⟩ := h
      exact .inr ⟨kk, congrArg some (ev_den hr.see hy)⟩
  have hrun : (execOp a.eval o).run P w = .ok (.value (.slice (if l + c' = l then A else A.map (·.add (l * k))) n' c')) w := by
    have := run_cut (tSlice_spec ht) hinf w A n c l n' c' _ _ _ (run_bounds w n c l (l + n') (l + c') _ _ _ (arg lo 0 l hlo) (arg hi n (l + n') hhi) (arg mx c (l + c') hmx) (by simpa using hmh) (by omega) (by omega) h3)
    rw [hsz] at this
    unfold execOp
    simp only [ho, hx', Sem.run_bind, this, Result.andThen_ok, Sem.run_pure]
  exact wp_of_value hrun (hn _ _ _ rfl (hr.put o.dst (.c (.v _)) (dOk_lt hd)))
theorem ones_map : ∀ {l : List Value}, (∀ u ∈ l, u.oneCell' = true) → ones (l.map .v)
  | [], _ => trivial
  | u :: r, h => ⟨h u List.mem_cons_self, ones_map fun v hv => h v (List.mem_cons_of_mem _ hv)⟩
theorem dens_put (cs : List SC) (off : Nat) (vs : List Value) (hl : off + vs.length ≤ cs.length) : dens (putCs cs off (vs.map .v)) = ((dens cs).toList.take off ++ vs ++ (dens cs).toList.drop (off + vs.length)).toArray := by
  rw [putCs_eq _ _ _ (by simpa using hl)]
  simp [dens, SC.den, Function.comp_def]
/-- 'append' onto a slice of one's own block, where there is room -/
theorem ownAppend_does {s x : Operand} {t e kc by_ i m c cx id : Nat} {ad : Addr} {news : List Value} {b : Bl} (ho : o.op = .call ⟨.builtin .append, #[s, x], #[t, t]⟩) (ht : tSlice P t = some e) (ha : tApp P e = some (kc, by_))
    (hb : getBl σ.blks id = some b) (hs : ev σ s = some (.c (.v (.slice (some ⟨b.g, 0, none⟩) i c)))) (hx : ev σ x = some (.c (.v (.slice (some ad) m cx)))) (hd : dOk E o.dst) (h1 : ∀ u ∈ news, u.oneCell' = true)
    (hbt : b.t = e) (hroom : i + m ≤ c) (hl : (i + m) * kc ≤ b.cs.length) (hn : ∀ G : GW, Now E σ G → TSl G.w e kc m (.slice (some ad) m cx) news) :
    Does P E σ o (fun σ' => σ' = (σ.set id (i * kc) (news.map .v)).put o.dst (.c (.v (.slice (some ⟨b.g, 0, none⟩) (i + m) c)))) := by
  intro a w Q next hr hnx
  obtain ⟨inf, z, hi, hz, hk, hby, hzs, h0⟩ := tApp_spec ha
  have hs' : a.eval s = .slice (some ⟨b.g, 0, none⟩) i c := ev_den hr.see hs
  have hx' : a.eval x = .slice (some ad) m cx := ev_den hr.see hx
  have hts := hn _ hr.now
  have hlen : news.length = m * kc := by obtain ⟨_, _, _, _, _, h3, _⟩ := hts; exact h3
  have hfit : i * kc + news.length ≤ b.cs.length := by rw [hlen, ← Nat.add_mul]; exact hl
  have hB : w.heap[b.g]? = some (.cells (dens b.cs) b.t (0, 0)) := hr.blks b (getBl_mem hb)
  have hrun := run_append_room (P := P) w t o.type e inf (tSlice_spec ht) hi b.g i c (dens b.cs) (by rw [hB, hbt]) ad m cx news (by rw [hk]; exact hlen) hts.news h1 hroom (by rw [hk]; simpa [dens] using hfit)
  rw [hk, ← dens_put _ _ _ hfit] at hrun
  unfold Oper.wp execOp
  simp only [ho, resolve, invoke, builtin, Sem.run_bind, Sem.run_pure, Result.andThen_ok, List.map_toArray, List.map_cons, List.map_nil, hs', hx', hrun]
  exact hnx _ _ _ rfl ((hr.set hb (by simpa using hfit)).put o.dst (.c (.v (.slice (some ⟨b.g, 0, none⟩) (i + m) c))) (dOk_lt hd))
theorem zero_cells_flat (z : Array Value) (n : Nat) : (Builtin.zeroCells z n).toList = (List.replicate n z.toList).flatten := by
  by_cases h0 : z.size = 0
  · have hz : z.toList = [] := List.eq_nil_of_length_eq_zero (by rw [Array.length_toList]; exact h0)
    rw [hz]
    unfold Builtin.zeroCells
    simp [h0]
  · symm
    refine flatten_ext (k := z.size) _ (by omega) (fun cs hc => by rw [(List.mem_replicate.1 hc).2, Array.length_toList]) _ (by unfold Builtin.zeroCells; simp) (fun i j cs hc hj => ?_)
    have hi : i < n := by have := (List.getElem?_eq_some_iff.1 hc).1; simpa using this
    have hcs : cs = z.toList := by
      rw [List.getElem?_replicate, if_pos hi] at hc
      exact (Option.some.inj hc).symm
    subst hcs
    have hlt : i * z.size + j < n * z.size := by
      calc i * z.size + j < i * z.size + z.size := by omega
        _ = (i + 1) * z.size := by rw [Nat.succ_mul]
        _ ≤ n * z.size := Nat.mul_le_mul_right _ hi
    have hmod : (i * z.size + j) % z.size = j := by rw [Nat.mul_comm, Nat.mul_add_mod, Nat.mod_eq_of_lt hj]
    unfold Builtin.zeroCells
    simp [hlt, hmod, hj]
/-- 'clear' of a slice of one's own block -/
theorem ownClear_does {x : Operand} {t e kc n c id off : Nat} {z : List Value} {b : Bl} (ho : o.op = .call ⟨.builtin .clear, #[x], #[t]⟩) (ht : tSlice P t = some e) (hk : tSize P e = some kc) (hz : tZero P e = some z)
    (hb : getBl σ.blks id = some b) (hx : ev σ x = some (.c (.v (.slice (some ⟨b.g, off, none⟩) n c)))) (hd : dOk E o.dst) (h1 : ∀ u ∈ z, u.oneCell' = true) (hzk : z.length = kc) (hl : off + n * kc ≤ b.cs.length) :
    Does P E σ o (fun σ' => σ' = (σ.set id off ((List.replicate n z).flatten.map .v)).put o.dst (.c (.v (.tuple #[])))) := by
  intro a w Q next hr hnx
  obtain ⟨inf, zv, hi, hzv, hzl⟩ := tZero_spec hz
  have hx' : a.eval x = .slice (some ⟨b.g, off, none⟩) n c := ev_den hr.see hx
  have hflat : ∀ u ∈ (List.replicate n z).flatten, u.oneCell' = true := by
    intro u hu
    obtain ⟨l, hl, hu⟩ := List.mem_flatten.1 hu
    rw [(List.mem_replicate.1 hl).2] at hu
    exact h1 u hu
  have hlen : (List.replicate n z).flatten.length = n * kc := by simp [hzk]
  have hst := store_own (P := P) hr hb (off := off) ((List.replicate n z).flatten.map .v) (by rw [List.length_map, hlen]; exact hl) (ones_map hflat)
  have hmm : ∀ l : List Value, (l.map SC.v).map SC.den = l := fun l => by simp [SC.den, Function.comp_def]
  rw [hmm] at hst
  have hset := hr.set (off := off) (cs := (List.replicate n z).flatten.map .v) hb (by rw [List.length_map, hlen]; exact hl)
  have hzc : (Builtin.zeroCells zv.cells n).toList = (List.replicate n z).flatten := by
    rw [← hzl]
    exact zero_cells_flat _ _
  by_cases hn0 : n = 0
  · subst hn0
    have hrun : (Builtin.clear_ #[t] o.type #[.slice (some ⟨b.g, off, none⟩) 0 c]).run P w = .ok (.tuple #[]) w := by
      simp [Builtin.clear_, run_underlying (tSlice_spec ht)]
    unfold Oper.wp execOp
    simp only [ho, resolve, invoke, builtin, Sem.run_bind, Sem.run_pure, Result.andThen_ok, List.map_toArray, List.map_cons, List.map_nil, hx', hrun]
    have e0 : (List.replicate 0 z).flatten.map SC.v = [] := rfl
    exact hnx _ _ _ rfl (by rw [e0, set_nil]; exact hr.put o.dst (.c (.v (.tuple #[]))) (dOk_lt hd))
  · have hrun : (Builtin.clear_ #[t] o.type #[.slice (some ⟨b.g, off, none⟩) n c]).run P w = .ok (.tuple #[]) (w.setRow b.g (dens (putCs b.cs off ((List.replicate n z).flatten.map .v)))) := by
      cases n with
      | zero => exact absurd rfl hn0
      | succ n => simp [Builtin.clear_, run_underlying (tSlice_spec ht), zeroValue, typeInfo, hi, hzv, hzc, hst]
    unfold Oper.wp execOp
    simp only [ho, resolve, invoke, builtin, Sem.run_bind, Sem.run_pure, Result.andThen_ok, List.map_toArray, List.map_cons, List.map_nil, hx', hrun]
    exact hnx _ _ _ rfl (hset.put o.dst (.c (.v (.tuple #[]))) (dOk_lt hd))
/-- an element that is looked at ahead of a region -/
theorem preview_ok {α : Type} {R : GW → α → List Value → Prop} {kc : Nat} {A : Option Addr} {n c m : Nat} {l : List α} {y : α} {Φ : Act → World → Prop} (hy : l[m]? = some y) (hs : ∀ G : GW, (∀ s ∈ σ.snaps, s.Le G) → ScR R kc G (.slice A n c) l)
    (h : ∀ g o cs G, A = some ⟨g, o, none⟩ → cs.length = kc → R G y cs → (∀ s ∈ σ.snaps, s.Le G) → Ok E ((σ.seen G).view g (o + m * kc) cs) Φ) : Ok E σ Φ := by
  intro a w hr
  obtain ⟨g, o, cs, rfl, hg, hm, hl, hR, hrg, rfl⟩ := (hs ⟨σ.M E, w⟩ hr.snaps).at_ hy
  exact h g o cs ⟨σ.M E, w⟩ rfl hl hR hr.snaps a w ((hr.called (Chg.refl _ _)).addV hg (fun q => hm q) hrg)
end
end Go.Proofs.YtohdfcnjcpjdcaaDoor
