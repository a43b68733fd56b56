/- change. Conditions: as each law states them. -/
import Derived.Test.YtohdfcnjcpjdcaaGreatS28w
namespace Go.Proofs.YtohdfcnjcpjdcaaGreat
open Go.RowKit
set_option linter.unusedSimpArgs false
/-- what a call with one block handed leaves in it: as many cells -/
theorem RetH.len {P : Program} {f : FuncId} {args : Array Value} {G : GW} {b : HB} {rs : List Rw} {T : Value → List (List Value) → List Rw → GW → Prop} (hc : Calls P f args G.w (RetH G ⟨[b], rs⟩ T)) : Calls P f args G.w (RetH G ⟨[b], rs⟩ fun v css R G' => T v css R G' ∧ ∃ cs : List Value, css = [cs] ∧ cs.length = b.cs.length) :=
 Calls.mono hc fun _ _ ⟨v, css, R, he, hl, hr, ha, hT, hg⟩ => ⟨v, css, R, he, hl, hr, ha, ⟨hT, by
  match css, hl with
  | [cs], h => exact ⟨cs, rfl, h.1⟩
  | [], h => exact h.elim
  | _ :: _ :: _, h => exact h.2.2.elim⟩, hg⟩
/-! ### sizes of texts -/
structure SizeS (s : Sta) : Prop where
 b : ∀ b ∈ s.bkts, b.name.size ≤ maxLen ∧ b.rule.pre.size ≤ maxLen
 v : ∀ v ∈ s.vers, v.bucket.size ≤ maxLen ∧ v.key.size ≤ maxLen
 u : ∀ u ∈ s.upls, u.bucket.size ≤ maxLen ∧ u.key.size ≤ maxLen
structure RecOk (r : Rec) : Prop where
 name : r.name.size ≤ maxLen
 key : r.key.size ≤ maxLen
 pre : r.rule.pre.size ≤ maxLen
 vb : r.ver.bucket.size ≤ maxLen
 vk : r.ver.key.size ≤ maxLen
 vl : r.ver.secs.length ≤ 1000
 pl : r.part.secs.length ≤ 1000
 sl : r.secs.length ≤ 1000
 n : i64 r.n
theorem insert_mem {α : Type} {x y : α} : ∀ {l : List α} {i : Nat}, y ∈ l.insertIdx i x → y = x ∨ y ∈ l
 | l, 0, h => by simpa using h
 | [], i + 1, h => by simp at h
 | a :: r, i + 1, h => by
  rw [List.insertIdx_succ_cons] at h
  rcases List.mem_cons.1 h with rfl | h
  ·exact .inr List.mem_cons_self
  ·rcases insert_mem h with h | h
   ·exact .inl h
   ·exact .inr (List.mem_cons_of_mem _ h)
theorem SizeS.drop {s : Sta} (h : SizeS s) (i : Nat) (id : Int) : SizeS (dropS s i id) := ⟨h.b, fun v hv => h.v v (List.mem_of_mem_eraseIdx hv), h.u⟩
theorem SizeS.null {s : Sta} (h : SizeS s) (v : Ver) : SizeS (nullS s v) := by
 unfold nullS
 split
 ·split
  ·exact h.drop _ _
  ·exact h
 ·exact h
theorem SizeS.change {s : Sta} {r : Rec} (h : SizeS s) (hr : RecOk r) : SizeS (changeS s r).2 := by
 have hv : ∀ i x, s.vers[i]? = some x → ∀ y : Ver, y.bucket = x.bucket → y.key = x.key → SizeS (setVer s i y) := fun i x hx y e1 e2 => ⟨h.b, fun v hv => by
  rcases List.mem_or_eq_of_mem_set hv with hv | rfl
  ·exact h.v v hv
  ·rw [e1, e2]; exact h.v x (List.mem_of_getElem? hx), h.u⟩
 unfold changeS
 split
 ·unfold addS
  split
  ·split
   ·exact h
   ·split
    ·exact h
    ·refine ⟨fun b hb => ?_, h.v, h.u⟩
     rcases insert_mem hb with rfl | hb
     ·exact ⟨hr.name, Nat.zero_le _⟩
     ·exact h.b b hb
  ·exact h
 split
 ·unfold setS
  split
  ·exact h
  ·unfold setB
   split
   ·exact h
   ·rename_i b hb
    have hm := List.mem_of_getElem? hb
    unfold setC
    split
    ·split
     ·refine ⟨fun x hx => ?_, h.v, h.u⟩
      rcases List.mem_or_eq_of_mem_set hx with hx | rfl
      ·exact h.b x hx
      ·exact ⟨(h.b b hm).1, hr.pre⟩
     ·exact h
    ·split
     ·exact h
     ·split
      ·exact h
      ·refine ⟨fun x hx => ?_, h.v, h.u⟩
       rcases List.mem_or_eq_of_mem_set hx with hx | rfl
       ·exact h.b x hx
       ·exact h.b b hm
 split
 ·unfold comeS
  have hn := h.null r.ver
  split
  ·exact h
  ·split
   ·exact h
   ·refine ⟨hn.b, fun v hv => ?_, hn.u⟩
    rcases List.mem_append.1 hv with hv | hv
    ·exact hn.v v hv
    ·rw [List.mem_singleton.1 hv]; exact ⟨hr.vb, hr.vk⟩
 split
 ·unfold dropOneS
  split
  ·exact h
  ·unfold dropV
   split
   ·exact h
   ·exact h.drop _ _
 split
 ·unfold turnS
  split
  ·exact h
  ·unfold turnV
   split
   ·exact h
   ·rename_i v hx
    unfold turnB
    split
    ·exact h
    ·split
     ·exact hv _ _ hx _ rfl rfl
     ·split
      ·split
       ·have := hv _ _ hx (thwV v r.secs r.n) rfl rfl
        exact ⟨this.b, this.v, this.u⟩
       ·exact h
      ·split
       ·exact hv _ _ hx _ rfl rfl
       ·exact h
 split
 ·unfold askS
  repeat' split
  all_goals exact ⟨h.b, h.v, h.u⟩
 split
 ·unfold beginS
  split
  ·exact h
  ·split
   ·exact h
   ·refine ⟨h.b, h.v, fun u hu => ?_⟩
    rcases List.mem_append.1 hu with hu | hu
    ·exact h.u u hu
    ·rw [List.mem_singleton.1 hu]; exact ⟨hr.name, hr.key⟩
 split
 ·unfold sendS
  split
  ·exact h
  ·unfold sendU
   split
   ·exact h
   ·rename_i u hx
    have hm := List.mem_of_getElem? hx
    unfold sendC
    split
    ·exact ⟨h.b, h.v, fun u hu => h.u u (List.mem_of_mem_eraseIdx hu)⟩
    ·refine ⟨h.b, h.v, fun y hy => ?_⟩
     rcases List.mem_or_eq_of_mem_set hy with hy | rfl
     ·exact h.u y hy
     ·exact h.u u hm
 split
 ·unfold passS
  repeat' split
  all_goals exact ⟨h.b, h.v, h.u⟩
 split
 ·unfold giveS
  repeat' split
  all_goals exact ⟨h.b, h.v, h.u⟩
 ·exact h
set_option maxRecDepth 100000 in
set_option maxHeartbeats 32000000 in
theorem change_does {g : Nat} {s : Sta} {o : OwnSt} {r : Rec} {vs ps ss : Value} {G0 : GW} (hW : G0.Wf) (hh : HandsOk G0.w (o.hands g s)) (hM : ∀ k, (o.hands g s).A k → G0.M k) (ho : o.Ok G0 s) (hS : OkS s) (hz : SizeS s) (hr : RecOk r) (hvs : IntsG G0 vs r.ver.secs) (hps : IntsG G0 ps r.part.secs) (hss : IntsG G0 ss r.secs) :
  Calls Tryz.prog 70 #[.pointer (some ⟨g, 0, none⟩), .agg (recV r vs ps ss).toArray] G0.w (RetH G0 (o.hands g s) (ChgT (changeS s r))) := by
 have hml := max_le
 have b1 := hS.bkts_len
 have b2 := hS.vers_len
 have b3 := hS.upls_len
 have b4 := hS.queue_len
 have b5 := hS.gone_len
 have d1 := hS.n1
 have d2 := hS.n2
 have d3 := hS.c1
 have d4 := hS.c2
 obtain ⟨bv, qv, gv, vv, uv, vx, ux⟩ := o
 refine enterH (n := 78) 3000 ([.c (.p 0 g 0), .c (.v (.agg (recV r vs ps ss).toArray))]) ([⟨0, g, 30, [.v (.int .i64 s.next), .v (.int .i64 s.clock), .v bv, .v vv, .v uv, .v qv, .v gv]⟩]) rfl hW hh hM Tryz.func70 rfl Tryz.ntmps70 (by simp) ?_
 simp only [go_sem, simprocAttr, recV, OwnSt.rows]
 intro g1
 refine Wb_mk (fun k1' => ?_) (fun k1' => ?_)
 ·have k1 := of_decide_eq_true k1'
  refine pk (callH_does ([0]) ([]) (((ux.map UX.row).reverse ++ [uplRow uv ux, verRow vv vx, intRow gv s.gone, askRow qv s.queue, bktRow bv s.bkts])) ([]) (fun v css R G => ChgT (addS s r) v css R G ∧ ∃ cs : List Value, css = [cs] ∧ cs.length = 7) upV rfl rfl (by kernel_rfl) rfl (dk rfl) rfl (by simp) (by simp [ids, Diff]) (by simp) (fun G hG hh hM => RetH.len (add_does (o := ⟨bv, qv, gv, vv, uv, vx, ux⟩) hG.wf hh hM (ho.mono (hG.le G0 (by simp))) (by omega) hz.b hS.bkts_ordered hr.name)) (fun v css R G _ _ => upV_den css)) ?_
  rintro _ ⟨_, css, R9, G3, ⟨⟨rfl, hok⟩, cs, rfl, hcl⟩, hcs, hle, rfl⟩
  clear hcs hle
  simp only [go_sem, simprocAttr]
  refine fin_retH (G := G0) Tryz.results70 ?_
  simp only [go_sem, simprocAttr, List.length_map, hcl]
  intro aa w' _ hle
  have hT : changeS s r = addS s r := by unfold changeS; rw [if_pos k1]
  rw [hT]
  refine ⟨rfl, fun q => ?_⟩
  obtain ⟨o2, e1, e2, e3⟩ := hok q
  exact ⟨o2, e1, by simp [e2], e3.mono (hle G3 (by simp))⟩
 have k1 := of_decide_eq_false k1'
 refine Wb_mk (fun k2' => ?_) (fun k2' => ?_)
 ·have k2 := of_decide_eq_true k2'
  refine pk (callH_does ([0]) ([]) (((ux.map UX.row).reverse ++ [uplRow uv ux, verRow vv vx, intRow gv s.gone, askRow qv s.queue, bktRow bv s.bkts])) ([]) (fun v css R G => ChgT (setS s r) v css R G ∧ ∃ cs : List Value, css = [cs] ∧ cs.length = 7) upV rfl rfl (by kernel_rfl) rfl (dk rfl) rfl (by simp) (by simp [ids, Diff]) (by simp) (fun G hG hh hM => RetH.len (set_does (o := ⟨bv, qv, gv, vv, uv, vx, ux⟩) hG.wf hh hM (ho.mono (hG.le G0 (by simp))) (by omega) hz.b hS.bkts_ordered hr.pre)) (fun v css R G _ _ => upV_den css)) ?_
  rintro _ ⟨_, css, R9, G3, ⟨⟨rfl, hok⟩, cs, rfl, hcl⟩, hcs, hle, rfl⟩
  clear hcs hle
  simp only [go_sem, simprocAttr]
  refine fin_retH (G := G0) Tryz.results70 ?_
  simp only [go_sem, simprocAttr, List.length_map, hcl]
  intro aa w' _ hle
  have hT : changeS s r = setS s r := by unfold changeS; rw [if_neg k1, if_pos (.inl k2)]
  rw [hT]
  refine ⟨rfl, fun q => ?_⟩
  obtain ⟨o2, e1, e2, e3⟩ := hok q
  exact ⟨o2, e1, by simp [e2], e3.mono (hle G3 (by simp))⟩
 have k2 := of_decide_eq_false k2'
 refine Wb_mk (fun k3' => ?_) (fun k3' => ?_)
 ·have k3 := of_decide_eq_true k3'
  refine pk (callH_does ([0]) ([]) (((ux.map UX.row).reverse ++ [uplRow uv ux, verRow vv vx, intRow gv s.gone, askRow qv s.queue, bktRow bv s.bkts])) ([]) (fun v css R G => ChgT (setS s r) v css R G ∧ ∃ cs : List Value, css = [cs] ∧ cs.length = 7) upV rfl rfl (by kernel_rfl) rfl (dk rfl) rfl (by simp) (by simp [ids, Diff]) (by simp) (fun G hG hh hM => RetH.len (set_does (o := ⟨bv, qv, gv, vv, uv, vx, ux⟩) hG.wf hh hM (ho.mono (hG.le G0 (by simp))) (by omega) hz.b hS.bkts_ordered hr.pre)) (fun v css R G _ _ => upV_den css)) ?_
  rintro _ ⟨_, css, R9, G3, ⟨⟨rfl, hok⟩, cs, rfl, hcl⟩, hcs, hle, rfl⟩
  clear hcs hle
  simp only [go_sem, simprocAttr]
  refine fin_retH (G := G0) Tryz.results70 ?_
  simp only [go_sem, simprocAttr, List.length_map, hcl]
  intro aa w' _ hle
  have hT : changeS s r = setS s r := by unfold changeS; rw [if_neg k1, if_pos (.inr k3)]
  rw [hT]
  refine ⟨rfl, fun q => ?_⟩
  obtain ⟨o2, e1, e2, e3⟩ := hok q
  exact ⟨o2, e1, by simp [e2], e3.mono (hle G3 (by simp))⟩
 have k3 := of_decide_eq_false k3'
 refine Wb_mk (fun k4' => ?_) (fun k4' => ?_)
 ·have k4 := of_decide_eq_true k4'
  refine pk (callH_does ([0]) ([]) (((ux.map UX.row).reverse ++ [uplRow uv ux, verRow vv vx, intRow gv s.gone, askRow qv s.queue, bktRow bv s.bkts])) ([]) (fun v css R G => ChgT (comeS s r.ver) v css R G ∧ ∃ cs : List Value, css = [cs] ∧ cs.length = 7) upV rfl rfl (by kernel_rfl) rfl (dk rfl) rfl (by simp) (by simp [ids, Diff]) (by simp) (fun G hG hh hM => RetH.len (come_does (o := ⟨bv, qv, gv, vv, uv, vx, ux⟩) hG.wf hh hM (ho.mono (hG.le G0 (by simp))) (by omega) (by omega) (by omega) (by omega) hz.v (hvs.mono (hG.le G0 (by simp))) hr.vl)) (fun v css R G _ _ => upV_den css)) ?_
  rintro _ ⟨_, css, R9, G3, ⟨⟨rfl, hok⟩, cs, rfl, hcl⟩, hcs, hle, rfl⟩
  clear hcs hle
  simp only [go_sem, simprocAttr]
  refine fin_retH (G := G0) Tryz.results70 ?_
  simp only [go_sem, simprocAttr, List.length_map, hcl]
  intro aa w' _ hle
  have hT : changeS s r = comeS s r.ver := by unfold changeS; rw [if_neg k1, if_neg (by omega), if_pos k4]
  rw [hT]
  refine ⟨rfl, fun q => ?_⟩
  obtain ⟨o2, e1, e2, e3⟩ := hok q
  exact ⟨o2, e1, by simp [e2], e3.mono (hle G3 (by simp))⟩
 have k4 := of_decide_eq_false k4'
 refine Wb_mk (fun k5' => ?_) (fun k5' => ?_)
 ·have k5 := of_decide_eq_true k5'
  have hT : changeS s r = dropOneS s r.id := by unfold changeS; rw [if_neg k1, if_neg (by omega), if_neg k4, if_pos k5]
  obtain ⟨Av, cv, q1, _⟩ := row_form (hh.rows (verRow vv vx) (by simp [OwnSt.hands, OwnSt.rows])) (by show (12 : Nat) ≠ 0; decide)
  obtain rfl : vv = .slice Av vx.length cv := q1
  have hve : s.vers = vx.map (·.1) := ho.vers
  have hzv : ∀ p ∈ vx, p.1.bucket.size ≤ maxLen ∧ p.1.key.size ≤ maxLen := fun p hp => hz.v p.1 (by rw [hve]; exact List.mem_map_of_mem hp)
  refine draw_ok (N := 3000) (.take 0 (.take 1 (.take 2 (.take 3 (.take 4 (.alt 5 (.take 6 (.take 7 (.take 8 (.take 9 (.take 10 .done))))) .last)))))) [] (QOk_body _ _ _) follows_mixed (by kernel_rfl) (by kernel_rfl) ?_
  simp only [go_sem, simprocAttr]
  refine anyc_ok (N := 3000) (call_does (fun x _ => x = .tuple #[.int .i64 (verAt s r.id : Int), .bool (verIn s r.id)]) rfl rfl (by kernel_rfl) rfl (dk rfl) (fun G hG => Ret.anyM (M' := (G.less ((ux.map UX.row).reverse ++ [uplRow uv ux, verRow (.slice Av vx.length cv) vx, intRow gv s.gone, askRow qv s.queue, bktRow bv s.bkts])).M) (version_does (G0 := (G.less ((ux.map UX.row).reverse ++ [uplRow uv ux, verRow (.slice Av vx.length cv) vx, intRow gv s.gone, askRow qv s.queue, bktRow bv s.bkts]))) (s := s) (hG.wf.less _) (by rw [hve]; exact vers_of (hG.sl (r := verRow (.slice Av vx.length cv) vx) (by simp) (by show (12 : Nat) ≠ 0; decide)) (fun p hp => (ho.vok p hp).mono ((hG.le G0 (by simp)).trans (GW.le_less _ _))) hzv) (hS.vers_ordered _) (by omega)))) (QOk_body _ _ _) rfl (by first | exact .inl rfl | exact .inr ⟨_, _, rfl, rfl⟩) ?_
  rintro _ ⟨_, G2, rfl, hn2, rfl⟩
  clear hn2
  simp only [go_sem, simprocAttr]
  refine Wb_mk (fun hin => ?_) (fun hin => ?_)
  ·have hin' := nt hin
   refine fin_retH (G := G0) Tryz.results70 ?_
   simp only [go_sem, simprocAttr]
   intro aa w' _ _
   rw [hT]
   unfold dropOneS
   rw [if_pos hin']
   exact ⟨rfl, fun q => by simp at q⟩
  ·have hin' := nf hin
   have hinn : ¬ verIn s r.id = false := by rw [hin']; simp
   obtain ⟨v, hv, _⟩ := hit_some hin'
   have hv' : s.vers[verAt s r.id]? = some v := hv
   have hT2 : dropOneS s r.id = (0, dropS s (verAt s r.id) v.id) := by unfold dropOneS; rw [if_neg hinn, hv']; rfl
   refine pk (callH_does ([0]) ([]) (((ux.map UX.row).reverse ++ [uplRow uv ux, verRow (.slice Av vx.length cv) vx, intRow gv s.gone, askRow qv s.queue, bktRow bv s.bkts])) ([]) (fun v' css R G => v' = .tuple #[] ∧ ∃ o' : OwnSt, css = [o'.cells (dropS s (verAt s r.id) v.id)] ∧ R = o'.rows (dropS s (verAt s r.id) v.id) ∧ o'.Ok G (dropS s (verAt s r.id) v.id) ∧ ∃ A c, o'.vv = .slice A o'.vx.length c) upV rfl rfl (by kernel_rfl) rfl (dk rfl) rfl (by simp) (by simp [ids, Diff]) (by simp) (fun G hG hh hM => drop_does (o := ⟨bv, qv, gv, .slice Av vx.length cv, uv, vx, ux⟩) hG.wf hh hM (ho.mono (hG.le G0 (by simp))) (by omega) (by omega) hv') (fun v css R G _ _ => upV_den css)) ?_
   rintro _ ⟨_, css, _, G3, ⟨rfl, o2, rfl, rfl, ho2, _⟩, hcs, hle, rfl⟩
   clear hcs hle
   simp only [go_sem, simprocAttr]
   refine fin_retH (G := G0) Tryz.results70 ?_
   simp only [go_sem, simprocAttr]
   intro aa w' _ hle
   rw [hT, hT2]
   exact ⟨rfl, fun _ => ⟨o2, rfl, by simp, ho2.mono (hle G3 (by simp))⟩⟩
 have k5 := of_decide_eq_false k5'
 refine Wb_mk (fun k6' => ?_) (fun k6' => ?_)
 ·have k6 := of_decide_eq_true k6'
  refine pk (callH_does ([0]) ([]) (((ux.map UX.row).reverse ++ [uplRow uv ux, verRow vv vx, intRow gv s.gone, askRow qv s.queue, bktRow bv s.bkts])) ([]) (fun v css R G => ChgT (turnS s r) v css R G ∧ ∃ cs : List Value, css = [cs] ∧ cs.length = 7) upV rfl rfl (by kernel_rfl) rfl (dk rfl) rfl (by simp) (by simp [ids, Diff]) (by simp) (fun G hG hh hM => RetH.len (turn_does (o := ⟨bv, qv, gv, vv, uv, vx, ux⟩) hG.wf hh hM (ho.mono (hG.le G0 (by simp))) (by omega) (by omega) hz.v hS.vers_ordered (hss.mono (hG.le G0 (by simp))) hr.sl)) (fun v css R G _ _ => upV_den css)) ?_
  rintro _ ⟨_, css, R9, G3, ⟨⟨rfl, hok⟩, cs, rfl, hcl⟩, hcs, hle, rfl⟩
  clear hcs hle
  simp only [go_sem, simprocAttr]
  refine fin_retH (G := G0) Tryz.results70 ?_
  simp only [go_sem, simprocAttr, List.length_map, hcl]
  intro aa w' _ hle
  have hT : changeS s r = turnS s r := by unfold changeS; rw [if_neg k1, if_neg (by omega), if_neg k4, if_neg k5, if_pos (.inl k6)]
  rw [hT]
  refine ⟨rfl, fun q => ?_⟩
  obtain ⟨o2, e1, e2, e3⟩ := hok q
  exact ⟨o2, e1, by simp [e2], e3.mono (hle G3 (by simp))⟩
 have k6 := of_decide_eq_false k6'
 refine Wb_mk (fun k8' => ?_) (fun k8' => ?_)
 ·have k8 := of_decide_eq_true k8'
  refine pk (callH_does ([0]) ([]) (((ux.map UX.row).reverse ++ [uplRow uv ux, verRow vv vx, intRow gv s.gone, askRow qv s.queue, bktRow bv s.bkts])) ([]) (fun v css R G => ChgT (turnS s r) v css R G ∧ ∃ cs : List Value, css = [cs] ∧ cs.length = 7) upV rfl rfl (by kernel_rfl) rfl (dk rfl) rfl (by simp) (by simp [ids, Diff]) (by simp) (fun G hG hh hM => RetH.len (turn_does (o := ⟨bv, qv, gv, vv, uv, vx, ux⟩) hG.wf hh hM (ho.mono (hG.le G0 (by simp))) (by omega) (by omega) hz.v hS.vers_ordered (hss.mono (hG.le G0 (by simp))) hr.sl)) (fun v css R G _ _ => upV_den css)) ?_
  rintro _ ⟨_, css, R9, G3, ⟨⟨rfl, hok⟩, cs, rfl, hcl⟩, hcs, hle, rfl⟩
  clear hcs hle
  simp only [go_sem, simprocAttr]
  refine fin_retH (G := G0) Tryz.results70 ?_
  simp only [go_sem, simprocAttr, List.length_map, hcl]
  intro aa w' _ hle
  have hT : changeS s r = turnS s r := by unfold changeS; rw [if_neg k1, if_neg (by omega), if_neg k4, if_neg k5, if_pos (.inr (.inl k8))]
  rw [hT]
  refine ⟨rfl, fun q => ?_⟩
  obtain ⟨o2, e1, e2, e3⟩ := hok q
  exact ⟨o2, e1, by simp [e2], e3.mono (hle G3 (by simp))⟩
 have k8 := of_decide_eq_false k8'
 refine Wb_mk (fun k9' => ?_) (fun k9' => ?_)
 ·have k9 := of_decide_eq_true k9'
  refine pk (callH_does ([0]) ([]) (((ux.map UX.row).reverse ++ [uplRow uv ux, verRow vv vx, intRow gv s.gone, askRow qv s.queue, bktRow bv s.bkts])) ([]) (fun v css R G => ChgT (turnS s r) v css R G ∧ ∃ cs : List Value, css = [cs] ∧ cs.length = 7) upV rfl rfl (by kernel_rfl) rfl (dk rfl) rfl (by simp) (by simp [ids, Diff]) (by simp) (fun G hG hh hM => RetH.len (turn_does (o := ⟨bv, qv, gv, vv, uv, vx, ux⟩) hG.wf hh hM (ho.mono (hG.le G0 (by simp))) (by omega) (by omega) hz.v hS.vers_ordered (hss.mono (hG.le G0 (by simp))) hr.sl)) (fun v css R G _ _ => upV_den css)) ?_
  rintro _ ⟨_, css, R9, G3, ⟨⟨rfl, hok⟩, cs, rfl, hcl⟩, hcs, hle, rfl⟩
  clear hcs hle
  simp only [go_sem, simprocAttr]
  refine fin_retH (G := G0) Tryz.results70 ?_
  simp only [go_sem, simprocAttr, List.length_map, hcl]
  intro aa w' _ hle
  have hT : changeS s r = turnS s r := by unfold changeS; rw [if_neg k1, if_neg (by omega), if_neg k4, if_neg k5, if_pos (.inr (.inr k9))]
  rw [hT]
  refine ⟨rfl, fun q => ?_⟩
  obtain ⟨o2, e1, e2, e3⟩ := hok q
  exact ⟨o2, e1, by simp [e2], e3.mono (hle G3 (by simp))⟩
 have k9 := of_decide_eq_false k9'
 refine Wb_mk (fun k7' => ?_) (fun k7' => ?_)
 ·have k7 := of_decide_eq_true k7'
  refine pk (callH_does ([0]) ([]) (((ux.map UX.row).reverse ++ [uplRow uv ux, verRow vv vx, intRow gv s.gone, askRow qv s.queue, bktRow bv s.bkts])) ([]) (fun v css R G => ChgT (askS s r.ask) v css R G ∧ ∃ cs : List Value, css = [cs] ∧ cs.length = 7) upV rfl rfl (by kernel_rfl) rfl (dk rfl) rfl (by simp) (by simp [ids, Diff]) (by simp) (fun G hG hh hM => RetH.len (ask_does (o := ⟨bv, qv, gv, vv, uv, vx, ux⟩) hG.wf hh hM (ho.mono (hG.le G0 (by simp))) (by omega) (by omega) hz.v hS.vers_ordered)) (fun v css R G _ _ => upV_den css)) ?_
  rintro _ ⟨_, css, R9, G3, ⟨⟨rfl, hok⟩, cs, rfl, hcl⟩, hcs, hle, rfl⟩
  clear hcs hle
  simp only [go_sem, simprocAttr]
  refine fin_retH (G := G0) Tryz.results70 ?_
  simp only [go_sem, simprocAttr, List.length_map, hcl]
  intro aa w' _ hle
  have hT : changeS s r = askS s r.ask := by unfold changeS; rw [if_neg k1, if_neg (by omega), if_neg k4, if_neg k5, if_neg (by omega), if_pos k7]
  rw [hT]
  refine ⟨rfl, fun q => ?_⟩
  obtain ⟨o2, e1, e2, e3⟩ := hok q
  exact ⟨o2, e1, by simp [e2], e3.mono (hle G3 (by simp))⟩
 have k7 := of_decide_eq_false k7'
 refine Wb_mk (fun k10' => ?_) (fun k10' => ?_)
 ·have k10 := of_decide_eq_true k10'
  refine pk (callH_does ([0]) ([]) (((ux.map UX.row).reverse ++ [uplRow uv ux, verRow vv vx, intRow gv s.gone, askRow qv s.queue, bktRow bv s.bkts])) ([]) (fun v css R G => ChgT (beginS s r.id r.name r.key) v css R G ∧ ∃ cs : List Value, css = [cs] ∧ cs.length = 7) upV rfl rfl (by kernel_rfl) rfl (dk rfl) rfl (by simp) (by simp [ids, Diff]) (by simp) (fun G hG hh hM => RetH.len (begin_does (o := ⟨bv, qv, gv, vv, uv, vx, ux⟩) (r := r) (vs := vs) (ps := ps) (ss := ss) hG.wf hh hM (ho.mono (hG.le G0 (by simp))) (by omega) (by omega) (by omega))) (fun v css R G _ _ => upV_den css)) ?_
  rintro _ ⟨_, css, R9, G3, ⟨⟨rfl, hok⟩, cs, rfl, hcl⟩, hcs, hle, rfl⟩
  clear hcs hle
  simp only [go_sem, simprocAttr]
  refine fin_retH (G := G0) Tryz.results70 ?_
  simp only [go_sem, simprocAttr, List.length_map, hcl]
  intro aa w' _ hle
  have hT : changeS s r = beginS s r.id r.name r.key := by unfold changeS; rw [if_neg k1, if_neg (by omega), if_neg k4, if_neg k5, if_neg (by omega), if_neg k7, if_pos k10]
  rw [hT]
  refine ⟨rfl, fun q => ?_⟩
  obtain ⟨o2, e1, e2, e3⟩ := hok q
  exact ⟨o2, e1, by simp [e2], e3.mono (hle G3 (by simp))⟩
 have k10 := of_decide_eq_false k10'
 refine Wb_mk (fun k11' => ?_) (fun k11' => ?_)
 ·have k11 := of_decide_eq_true k11'
  refine pk (callH_does ([0]) ([]) (((ux.map UX.row).reverse ++ [uplRow uv ux, verRow vv vx, intRow gv s.gone, askRow qv s.queue, bktRow bv s.bkts])) ([]) (fun v css R G => ChgT (sendS s r) v css R G ∧ ∃ cs : List Value, css = [cs] ∧ cs.length = 7) upV rfl rfl (by kernel_rfl) rfl (dk rfl) rfl (by simp) (by simp [ids, Diff]) (by simp) (fun G hG hh hM => RetH.len (send_does (o := ⟨bv, qv, gv, vv, uv, vx, ux⟩) hG.wf hh hM (ho.mono (hG.le G0 (by simp))) (by omega) hz.u hS.upls_ordered (fun x hx => by have := hS.parts_len x hx; omega) (fun x hx t => let ⟨_, q⟩ := hS.parts x hx; prts_ordered q t) (hps.mono (hG.le G0 (by simp))) hr.pl)) (fun v css R G _ _ => upV_den css)) ?_
  rintro _ ⟨_, css, R9, G3, ⟨⟨rfl, hok⟩, cs, rfl, hcl⟩, hcs, hle, rfl⟩
  clear hcs hle
  simp only [go_sem, simprocAttr]
  refine fin_retH (G := G0) Tryz.results70 ?_
  simp only [go_sem, simprocAttr, List.length_map, hcl]
  intro aa w' _ hle
  have hT : changeS s r = sendS s r := by unfold changeS; rw [if_neg k1, if_neg (by omega), if_neg k4, if_neg k5, if_neg (by omega), if_neg k7, if_neg k10, if_pos (.inl k11)]
  rw [hT]
  refine ⟨rfl, fun q => ?_⟩
  obtain ⟨o2, e1, e2, e3⟩ := hok q
  exact ⟨o2, e1, by simp [e2], e3.mono (hle G3 (by simp))⟩
 have k11 := of_decide_eq_false k11'
 refine Wb_mk (fun k12' => ?_) (fun k12' => ?_)
 ·have k12 := of_decide_eq_true k12'
  refine pk (callH_does ([0]) ([]) (((ux.map UX.row).reverse ++ [uplRow uv ux, verRow vv vx, intRow gv s.gone, askRow qv s.queue, bktRow bv s.bkts])) ([]) (fun v css R G => ChgT (sendS s r) v css R G ∧ ∃ cs : List Value, css = [cs] ∧ cs.length = 7) upV rfl rfl (by kernel_rfl) rfl (dk rfl) rfl (by simp) (by simp [ids, Diff]) (by simp) (fun G hG hh hM => RetH.len (send_does (o := ⟨bv, qv, gv, vv, uv, vx, ux⟩) hG.wf hh hM (ho.mono (hG.le G0 (by simp))) (by omega) hz.u hS.upls_ordered (fun x hx => by have := hS.parts_len x hx; omega) (fun x hx t => let ⟨_, q⟩ := hS.parts x hx; prts_ordered q t) (hps.mono (hG.le G0 (by simp))) hr.pl)) (fun v css R G _ _ => upV_den css)) ?_
  rintro _ ⟨_, css, R9, G3, ⟨⟨rfl, hok⟩, cs, rfl, hcl⟩, hcs, hle, rfl⟩
  clear hcs hle
  simp only [go_sem, simprocAttr]
  refine fin_retH (G := G0) Tryz.results70 ?_
  simp only [go_sem, simprocAttr, List.length_map, hcl]
  intro aa w' _ hle
  have hT : changeS s r = sendS s r := by unfold changeS; rw [if_neg k1, if_neg (by omega), if_neg k4, if_neg k5, if_neg (by omega), if_neg k7, if_neg k10, if_pos (.inr k12)]
  rw [hT]
  refine ⟨rfl, fun q => ?_⟩
  obtain ⟨o2, e1, e2, e3⟩ := hok q
  exact ⟨o2, e1, by simp [e2], e3.mono (hle G3 (by simp))⟩
 have k12 := of_decide_eq_false k12'
 refine Wb_mk (fun k13' => ?_) (fun k13' => ?_)
 ·have k13 := of_decide_eq_true k13'
  refine pk (callH_does ([0]) ([]) (((ux.map UX.row).reverse ++ [uplRow uv ux, verRow vv vx, intRow gv s.gone, askRow qv s.queue, bktRow bv s.bkts])) ([]) (fun v css R G => ChgT (passS s r.n) v css R G ∧ ∃ cs : List Value, css = [cs] ∧ cs.length = 7) upV rfl rfl (by kernel_rfl) rfl (dk rfl) rfl (by simp) (by simp [ids, Diff]) (by simp) (fun G hG hh hM => RetH.len (pass_does (o := ⟨bv, qv, gv, vv, uv, vx, ux⟩) hG.wf hh hM (ho.mono (hG.le G0 (by simp))) (by omega) (by omega) hr.n)) (fun v css R G _ _ => upV_den css)) ?_
  rintro _ ⟨_, css, R9, G3, ⟨⟨rfl, hok⟩, cs, rfl, hcl⟩, hcs, hle, rfl⟩
  clear hcs hle
  simp only [go_sem, simprocAttr]
  refine fin_retH (G := G0) Tryz.results70 ?_
  simp only [go_sem, simprocAttr, List.length_map, hcl]
  intro aa w' _ hle
  have hT : changeS s r = passS s r.n := by unfold changeS; rw [if_neg k1, if_neg (by omega), if_neg k4, if_neg k5, if_neg (by omega), if_neg k7, if_neg k10, if_neg (by omega), if_pos k13]
  rw [hT]
  refine ⟨rfl, fun q => ?_⟩
  obtain ⟨o2, e1, e2, e3⟩ := hok q
  exact ⟨o2, e1, by simp [e2], e3.mono (hle G3 (by simp))⟩
 have k13 := of_decide_eq_false k13'
 refine Wb_mk (fun k14' => ?_) (fun k14' => ?_)
 ·have k14 := of_decide_eq_true k14'
  refine pk (callH_does ([0]) ([]) (((ux.map UX.row).reverse ++ [uplRow uv ux, verRow vv vx, intRow gv s.gone, askRow qv s.queue, bktRow bv s.bkts])) ([]) (fun v css R G => ChgT (giveS s r.vol) v css R G ∧ ∃ cs : List Value, css = [cs] ∧ cs.length = 7) upV rfl rfl (by kernel_rfl) rfl (dk rfl) rfl (by simp) (by simp [ids, Diff]) (by simp) (fun G hG hh hM => RetH.len (give_does (o := ⟨bv, qv, gv, vv, uv, vx, ux⟩) hG.wf hh hM (ho.mono (hG.le G0 (by simp))) (by omega) hS.gone_ordered)) (fun v css R G _ _ => upV_den css)) ?_
  rintro _ ⟨_, css, R9, G3, ⟨⟨rfl, hok⟩, cs, rfl, hcl⟩, hcs, hle, rfl⟩
  clear hcs hle
  simp only [go_sem, simprocAttr]
  refine fin_retH (G := G0) Tryz.results70 ?_
  simp only [go_sem, simprocAttr, List.length_map, hcl]
  intro aa w' _ hle
  have hT : changeS s r = giveS s r.vol := by unfold changeS; rw [if_neg k1, if_neg (by omega), if_neg k4, if_neg k5, if_neg (by omega), if_neg k7, if_neg k10, if_neg (by omega), if_neg k13, if_pos k14]
  rw [hT]
  refine ⟨rfl, fun q => ?_⟩
  obtain ⟨o2, e1, e2, e3⟩ := hok q
  exact ⟨o2, e1, by simp [e2], e3.mono (hle G3 (by simp))⟩
 have k14 := of_decide_eq_false k14'
 refine fin_retH (G := G0) Tryz.results70 ?_
 simp only [go_sem, simprocAttr]
 intro aa w' _ _
 have hT : changeS s r = (3, s) := by unfold changeS; rw [if_neg k1, if_neg (by omega), if_neg k4, if_neg k5, if_neg (by omega), if_neg k7, if_neg k10, if_neg (by omega), if_neg k13, if_neg k14]
 rw [hT]
 exact ⟨rfl, fun q => by simp at q⟩
end Go.Proofs.YtohdfcnjcpjdcaaGreat
