/- slices.DeleteFunc over asks; forget. Conditions: as each law states them. -/
import Derived.Test.YtohdfcnjcpjdcaaGreatS17w
import Derived.Test.YtohdfcnjcpjdcaaGreatPAw
namespace Go.Proofs.YtohdfcnjcpjdcaaGreat
open Go.RowKit
set_option linter.unusedSimpArgs false
theorem askC_len (x : Ask) : (askC x).length = 3 := rfl
theorem asks_of {G : GW} {v : Value} {l : List Ask} (h : Sl G 68 3 l.length v (l.flatMap askC)) : AsksG G v l := sq_of_flat (f := askC) (fun _ _ => rfl) askC_len h
theorem take_succ_filter {α : Type} {q : α → Bool} {l : List α} {j : Nat} {x : α} (hx : l[j]? = some x) : (l.take (j + 1)).filter q = (l.take j).filter q ++ if q x = true then [x] else [] := by
 rw [List.take_add_one, hx, List.filter_append]
 congr 1
 simp [List.filter_cons]
theorem List.take_succ_set {α : Type} {l : List α} {i : Nat} {x : α} (hi : i < l.length) : (l.set i x).take (i + 1) = l.take i ++ [x] := by
 rw [List.take_add_one, List.take_set_of_le (Nat.le_refl _), List.getElem?_set_self hi]
 rfl
theorem filter_all {α : Type} {p : α → Bool} {l : List α} (h : ∀ x ∈ l, p x = true) : l.filter p = l := List.filter_eq_self.2 h
set_option maxRecDepth 100000 in
set_option maxHeartbeats 16000000 in
theorem deleteFunc_does {l : List Ask} {lv : Value} {f : FuncId} {caps : Array Value} {p : Ask → Bool} {G0 : GW} (hW : G0.Wf) (hh : HandsOk G0.w ⟨[], [askRow lv l]⟩) (hM : ∀ k, Hands.A ⟨[], [askRow lv l]⟩ k → G0.M k) (hl : l.length ≤ 1000) (hf : isFn Tryz.prog f = true)
  (hc : ∀ G x, x ∈ l → G0.Le G → G.Wf → Calls Tryz.prog f (#[.agg #[.int .i64 x.ver, .int .i64 x.days, .int .i64 x.cls]] ++ caps) G.w (Ret G fun v _ => v = .bool (p x))) :
  Calls Tryz.prog 159 #[lv, .func (.func f) #[] caps] G0.w (RetH G0 ⟨[], [askRow lv l]⟩ fun v _ R _ => ∃ A c, v = .slice A (l.filter fun x => !p x).length c ∧ R = [askRow (.slice A (l.filter fun x => !p x).length c) (l.filter fun x => !p x)]) := by
 have hml := max_le
 obtain ⟨A, c, e0, hc1, hc2⟩ := row_form (hh.rows (askRow lv l) (by simp)) (by show (3 : Nat) ≠ 0; decide)
 obtain rfl : lv = .slice A l.length c := e0
 have hc1' : l.length ≤ c := hc1
 refine enterH (n := 42) 3000 ([.c (.v (.slice A l.length c)), .c (.v (.func (.func f) #[] caps))]) ([]) rfl hW hh hM Tryz.func159 rfl Tryz.ntmps159 (by simp) ?_
 simp only [go_sem, simprocAttr]
 refine pk (call_does (fun v _ => v = .int .i64 (firstI p l)) rfl rfl (by kernel_rfl) rfl (dk rfl) (fun G hG => Ret.anyM (M' := (G.less [askRow (.slice A l.length c) l]).M) (indexAsk_does (G0 := G.less [askRow (.slice A l.length c) l]) (hG.wf.less _) (asks_of (hG.sl (r := askRow (.slice A l.length c) l) (by simp) (by show (3 : Nat) ≠ 0; decide))) hf (fun G' x hx hle hw => hc G' x hx (((hG.le G0 (by simp)).trans (GW.le_less _ _)).trans hle) hw)))) ?_
 rintro _ ⟨_, G1, rfl, hn1, rfl⟩
 clear hn1
 rcases first_or p l with ⟨i0, x0, hx0, hp0, hno⟩ | hno
 ·have hi0 : firstI p l = (i0 : Int) := firstI_at hx0 hp0 hno
  have hlt0 := (List.getElem?_eq_some_iff.1 hx0).1
  have q : decide ((i0 : Int) = -1) = false := decide_eq_false (by omega)
  rw [hi0]
  simp only [go_sem, simprocAttr, q]
  refine ⟨by omega, ?_⟩
  refine rowChunk_ok (R1 := []) (R2 := []) (f := askC) (l := l) rfl askC_len (by omega) (by omega) rfl fun g tl hv hmx htl => ?_
  simp only [List.append_nil]
  cases hv
  refine loop_ok (N := 3000) (ι := Nat × Nat × List Ask) (fun i => match i with | (i, j, m) => ⟨[(0, .c (.v (.slice (some ⟨g, 0, none⟩) l.length (l.length + tl.length)))), (1, .c (.v (.func (.func f) #[] caps))), (5, .c (.v (.int .i64 (i : Int)))), (6, .c (.v (.int .i64 (j : Int))))],
    [⟨0, g, 68, (m.map askC ++ tl).flatten.map .v⟩], [], [], [G1, G0], 1⟩)
   (fun i => match i with | (i, j, m) => i < j ∧ j ≤ l.length ∧ m.length = l.length ∧ m.take i = (l.take j).filter (fun x => !p x) ∧ m.drop j = l.drop j)
   (fun i => l.length - i.2.1) (QOk_body _ _ _) (i0, i0 + 1, l) ⟨by omega, by omega, rfl, ?_, rfl⟩ (by simp only [go_sem, simprocAttr]; simp) ?_
  ·rw [take_succ_filter hx0, hp0]
   simp only [Bool.not_true, Bool.false_eq_true, if_false, List.append_nil]
   exact (filter_all fun y hy => by
    obtain ⟨k, hk⟩ := List.mem_iff_getElem?.1 hy
    rw [List.getElem?_take] at hk
    split at hk
    ·rename_i hlt
     rw [hno k y hlt hk]; rfl
    ·cases hk).symm
  rintro ⟨i, j, m⟩ ⟨hij, hj, hml2, hpre, hdr⟩
  simp only
  by_cases hlt : j < l.length
  ·have q1 : decide ((j : Int) < (l.length : Int)) = true := decide_eq_true (by omega)
   obtain ⟨x, hx⟩ : ∃ x, l[j]? = some x := ⟨_, List.getElem?_eq_getElem hlt⟩
   have hmx : m[j]? = some x := by
    have := congrArg (fun t => t[0]?) hdr
    simpa [List.getElem?_drop, hx] using this
   have hch : Chunks 3 (m.map askC ++ tl) := (chunks_map askC_len m).app htl
   have hget := chunk_get hch (m := j) (c := askC x) (by rw [List.getElem?_append_left (by simp; omega), List.getElem?_map, hmx]; rfl)
   have hlen : j * 3 + 3 ≤ ((m.map askC ++ tl).flatten.map SC.v).length := by rw [List.length_map, hch.len, List.length_append, List.length_map]; omega
   simp only [askC, List.map_cons, List.map_nil] at hget
   simp only [go_sem, simprocAttr, q1]
   refine pk (own_elem_does (id := 0) (m := j) rfl tySlice27 tySize68 rfl rfl (dk rfl) rfl hlt) ?_
   rintro _ rfl
   simp only [go_sem, simprocAttr, hlen, hget]
   intro g2
   refine pk (callD_does (fun r _ => r = .bool (p x)) rfl rfl rfl rfl hf rfl (dk rfl) (fun G hG => hc G x (List.mem_of_getElem? hx) (hG.le G0 (by simp)) hG.wf)) ?_
   rintro _ ⟨_, G3, rfl, hn3, rfl⟩
   clear hn3
   simp only [go_sem, simprocAttr]
   refine Wb_mk (fun hp => ?_) (fun hp => ?_)
   ·have hp' : p x = false := nt hp
    have hlen2 : i * 3 + 3 ≤ ((m.map askC ++ tl).flatten.map SC.v).length := by omega
    have hput := chunk_set (x := x) askC_len htl (l := m) (i := i) (by omega)
    simp only [askC, List.map_cons, List.map_nil] at hput
    refine pk (own_elem_does (id := 0) (m := i) rfl tySlice27 tySize68 rfl rfl (dk rfl) rfl (by omega)) ?_
    rintro _ rfl
    simp only [go_sem, simprocAttr, hlen2, hput]
    refine ⟨by omega, by omega, ?_⟩
    refine again_ok (i + 1, j + 1, m.set i x) ⟨by show i + 1 < j + 1; omega, by show j + 1 ≤ l.length; omega, by simpa using hml2, ?_, ?_⟩ (by show l.length - (j + 1) < l.length - j; omega) (by simp only [go_sem, simprocAttr, askC]; simp)
    ·show (m.set i x).take (i + 1) = _
     rw [List.take_succ_set (by omega), hpre, take_succ_filter hx, hp']
     rfl
    ·show (m.set i x).drop (j + 1) = _
     rw [List.drop_set_of_lt (by omega), ← List.drop_drop, hdr, List.drop_drop]
   ·have hp' : p x = true := nf hp
    refine ⟨by omega, ?_⟩
    refine again_ok (i, j + 1, m) ⟨by show i < j + 1; omega, by show j + 1 ≤ l.length; omega, hml2, ?_, ?_⟩ (by show l.length - (j + 1) < l.length - j; omega) (by simp only [go_sem, simprocAttr]; simp)
    ·show m.take i = _
     rw [hpre, take_succ_filter hx, hp']
     simp
    ·show m.drop (j + 1) = _
     rw [← List.drop_drop, hdr, List.drop_drop]
  ·have hjl : j = l.length := by omega
   subst hjl
   have q1 : decide ((l.length : Int) < (l.length : Int)) = false := decide_eq_false (by omega)
   rw [List.take_length] at hpre
   have hkl : (l.filter fun x => !p x).length = i := by rw [← hpre, List.length_take]; omega
   simp only [go_sem, simprocAttr, q1]
   refine pk (cutv_does i (l.length - i) (l.length + tl.length - i) rfl tySlice27 tySize68 rfl ⟨_, _, rfl, rfl⟩ (show i + (l.length - i) = l.length from by omega) (show i + (l.length + tl.length - i) = l.length + tl.length from by omega) (by simp) (dk rfl) (by omega) (by omega)) ?_
   rintro _ rfl
   rw [if_neg (show ¬ i + (l.length + tl.length - i) = i from by omega)]
   simp only [Option.map_some, Addr.add_mid, Nat.zero_add]
   simp only [go_sem, simprocAttr]
   refine pk (ownClear_does (id := 0) (off := i * 3) (n := l.length - i) (z := [.int .i64 0, .int .i64 0, .int .i64 0]) rfl tySlice27 tySize68 tyZero68 rfl rfl (dk rfl) (by intro u hu; simp at hu; rw [hu]; rfl) rfl (by show i * 3 + (l.length - i) * 3 ≤ ((m.map askC ++ tl).flatten.map SC.v).length; rw [List.length_map, ((chunks_map askC_len m).app htl).len, List.length_append, List.length_map]; omega)) ?_
   rintro _ rfl
   have hz : Chunks 3 (List.replicate (l.length - i) ([.int .i64 0, .int .i64 0, .int .i64 0] : List Value)) := fun c hc => by rw [(List.mem_replicate.1 hc).2]; rfl
   have hput := chunk_put ((chunks_map askC_len m).app htl) hz (m := i) (by rw [List.length_replicate, List.length_append, List.length_map]; omega)
   rw [List.take_append_of_le_length (by rw [List.length_map]; omega), List.length_replicate, show i + (l.length - i) = (m.map askC).length from by rw [List.length_map]; omega, List.drop_left, ← List.map_take, hpre, List.append_assoc] at hput
   simp only [go_sem, simprocAttr, hput]
   refine pk (cutv_does 0 i (l.length + tl.length) rfl tySlice27 tySize68 rfl rfl ⟨_, _, rfl, by omega⟩ (show 0 + (l.length + tl.length) = l.length + tl.length from by omega) (by simp) (dk rfl) (by omega) (by omega)) ?_
   rintro _ rfl
   rw [if_neg (show ¬ 0 + (l.length + tl.length) = 0 from by omega)]
   simp only [Option.map_some, Addr.add_mid, Nat.zero_mul, Nat.add_zero]
   simp only [go_sem, simprocAttr]
   refine chunkRow_ok (B1 := []) 3 i askC (l.filter fun x => !p x) (List.replicate (l.length - i) [.int .i64 0, .int .i64 0, .int .i64 0] ++ tl) rfl askC_len (hz.app htl) hkl.symm (by rw [List.length_append, List.length_replicate]; omega) ?_
   refine fin_retH (G := G0) Tryz.results159 ?_
   simp only [go_sem, simprocAttr]
   intro aa w' _ _
   have e9 : i + (List.replicate (l.length - i) ([.int .i64 0, .int .i64 0, .int .i64 0] : List Value) ++ tl).length = l.length + tl.length := by rw [List.length_append, List.length_replicate]; omega
   rw [e9]
   refine ⟨some ⟨g, 0, none⟩, l.length + tl.length, by rw [hkl], ?_⟩
   unfold askRow
   rw [hkl]
 ·have hi0 : firstI p l = -1 := firstI_no hno
  have q : decide ((-1 : Int) = -1) = true := rfl
  have hfl : (l.filter fun x => !p x) = l := filter_all fun y hy => by
   obtain ⟨k, hk⟩ := List.mem_iff_getElem?.1 hy
   rw [hno k y hk]; rfl
  rw [hi0]
  simp only [go_sem, simprocAttr, q]
  refine fin_retH (G := G0) Tryz.results159 ?_
  simp only [go_sem, simprocAttr]
  intro aa w' _ _
  rw [hfl]
  exact ⟨A, c, rfl, rfl⟩
/-! ### forget -/
theorem Now.subM {E : Env} {σ : St} {G : GW} (hn : Now E σ G) {rs : List Rw} (hr : ∀ r ∈ rs, r ∈ σ.rows) {b : Bl} (hb : b ∈ σ.blks) (hM : ∀ k, Hands.A ⟨[], rs⟩ k → G.M k) : ∀ k, Hands.A ⟨[], rs⟩ k → (G.sub [b.g]).M k := fun k hk => by
 refine ⟨hM k hk, fun q => ?_⟩
 rw [List.mem_singleton] at q
 subst q
 rcases hk with ⟨c, hc, _⟩ | ⟨r, hr2, e⟩
 ·cases hc
 ·exact hn.apart r (hr r hr2) b hb e
set_option maxRecDepth 100000 in
set_option maxHeartbeats 4000000 in
theorem forget1_does {x : Ask} {id : Int} {g : Nat} {G0 : GW} (hW : G0.Wf) (hb : BlkG G0 g [.int .i64 id]) :
  Calls Tryz.prog 160 #[.agg #[.int .i64 x.ver, .int .i64 x.days, .int .i64 x.cls], .pointer (some ⟨g, 0, none⟩)] G0.w (Ret G0 fun v _ => v = .bool (decide (x.ver = id))) := by
 refine enterV (G := G0) (n := 8) 3000 [.c (.v (.agg #[.int .i64 x.ver, .int .i64 x.days, .int .i64 x.cls])), .c (.q 0 g 0 0)] [⟨0, g, 0, [.int .i64 id]⟩] hb.vw hW Tryz.func160 rfl Tryz.ntmps160 (by simp) ?_
 simp only [go_sem, simprocAttr]
 intro g1
 refine fin_ret (G := G0) Tryz.results160 ?_
 simp only [go_sem, simprocAttr]
 intro aa w' _ _
 rfl
def forgetS (s : Sta) (id : Int) : Sta := { s with queue := s.queue.filter fun a => !decide (a.ver = id) }
set_option maxRecDepth 100000 in
set_option maxHeartbeats 8000000 in
theorem forget_does {g : Nat} {s : Sta} {o : OwnSt} {id : Int} {G0 : GW} (hW : G0.Wf) (hh : HandsOk G0.w (o.hands g s)) (hM : ∀ k, (o.hands g s).A k → G0.M k) (hq : s.queue.length ≤ 1000) :
  Calls Tryz.prog 130 #[.pointer (some ⟨g, 0, none⟩), .int .i64 id] G0.w (RetH G0 (o.hands g s) fun v css R _ => v = .tuple #[] ∧ ∃ qv, css = [OwnSt.cells (forgetS s id) { o with qv := qv }] ∧ R = OwnSt.rows (forgetS s id) { o with qv := qv }) := by
 have hml := max_le
 obtain ⟨bv, qv, gv, vv, uv, vx, ux⟩ := o
 obtain ⟨Aq, cq, q1, _⟩ := row_form (hh.rows (askRow qv s.queue) (by simp [OwnSt.hands, OwnSt.rows])) (by show (3 : Nat) ≠ 0; decide)
 obtain rfl : qv = .slice Aq s.queue.length cq := q1
 refine enterH (n := 13) 3000 ([.c (.p 0 g 0), .c (.v (.int .i64 id))]) ([⟨0, g, 30, [.v (.int .i64 s.next), .v (.int .i64 s.clock), .v bv, .v vv, .v uv, .v (.slice Aq s.queue.length cq), .v gv]⟩]) rfl hW hh hM Tryz.func130 rfl Tryz.ntmps130 (by simp) ?_
 simp only [go_sem, simprocAttr, OwnSt.rows]
 intro g1
 refine pk (callH_does ([]) (((ux.map UX.row).reverse ++ [uplRow uv ux, verRow vv vx, intRow gv s.gone])) ([askRow (.slice Aq s.queue.length cq) s.queue]) ([bktRow bv s.bkts]) (fun v _ R _ => ∃ A c, v = .slice A (s.queue.filter fun a => !decide (a.ver = id)).length c ∧ R = [askRow (.slice A (s.queue.filter fun a => !decide (a.ver = id)).length c) (s.queue.filter fun a => !decide (a.ver = id))]) upV rfl rfl (by kernel_rfl) rfl (dk rfl) rfl (by simp) (by simp [ids, Diff]) (by simp) (fun G hG hh hM => RetH.anyM (T := fun v _ R => ∃ A c, v = .slice A (s.queue.filter fun a => !decide (a.ver = id)).length c ∧ R = [askRow (.slice A (s.queue.filter fun a => !decide (a.ver = id)).length c) (s.queue.filter fun a => !decide (a.ver = id))]) (M' := (G.sub [g1]).M) (deleteFunc_does (lv := .slice Aq s.queue.length cq) (G0 := G.sub [g1]) (p := fun a => decide (a.ver = id)) (hG.wf.sub _) hh (hG.subM (b := ⟨1, g1, 3, [.v (.int .i64 id)]⟩) (by simp) (by simp) hM) hq (by kernel_rfl) (fun G' x hx hle hw => forget1_does hw ((hG.blkG (b := ⟨1, g1, 3, [.v (.int .i64 id)]⟩) (ks := [g1]) (by simp) (by simp)).mono hle)))) (fun v css R G _ _ => upV_den css)) ?_
 rintro _ ⟨_, css, _, G3, ⟨A2, c2, rfl, rfl⟩, hcs, hle, rfl⟩
 clear hcs hle
 simp only [go_sem, simprocAttr]
 refine fin_retH (G := G0) Tryz.results130 ?_
 simp only [go_sem, simprocAttr]
 intro aa w' _ _
 first
 | exact ⟨.slice A2 (s.queue.filter fun a => !decide (a.ver = id)).length c2, rfl, by simp [forgetS]⟩
 | exact ⟨trivial, .slice A2 (s.queue.filter fun a => !decide (a.ver = id)).length c2, rfl, by simp [forgetS]⟩
end Go.Proofs.YtohdfcnjcpjdcaaGreat
