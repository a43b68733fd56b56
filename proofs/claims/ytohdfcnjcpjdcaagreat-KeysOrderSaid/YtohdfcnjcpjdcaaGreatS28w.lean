/- send. Conditions: as each law states them. -/
import Derived.Test.YtohdfcnjcpjdcaaGreatS27w
namespace Go.Proofs.YtohdfcnjcpjdcaaGreat
open Go.RowKit
set_option linter.unusedSimpArgs false
theorem prts_of {G : GW} {v : Value} {l : List (Prt × Value)} (h : Sl G 70 3 l.length v (l.flatMap prtX)) (hk : ∀ p ∈ l, PxOk G p) : PrtsG G v (l.map (·.1)) := by
 refine ⟨l.map prtX, ⟨by simp, chunks_map prtX_len l, fun i cs x h1 h2 => ?_⟩, by rw [List.length_map, ← List.flatMap_def]; exact h⟩
 rw [List.getElem?_map] at h1 h2
 cases hp : l[i]? with
 | none => rw [hp] at h2; cases h2
 | some p =>
  rw [hp] at h1 h2
  cases h1
  cases h2
  exact ⟨p.2, rfl, hk p (List.mem_of_getElem? hp)⟩
theorem upls_of {G : GW} {v : Value} {l : List UX} (h : Sl G 89 4 l.length v (l.flatMap uplX)) (hp : ∀ x ∈ l, Sl G 70 3 x.px.length x.pv (x.px.flatMap prtX)) (hk : ∀ x ∈ l, UxOk G x) (hz : ∀ x ∈ l, x.u.bucket.size ≤ maxLen ∧ x.u.key.size ≤ maxLen) : UplsG G v (l.map (·.u)) := by
 refine ⟨l.map uplX, ⟨by simp, chunks_map uplX_len l, fun i cs x h1 h2 => ?_⟩, by rw [List.length_map, ← List.flatMap_def]; exact h⟩
 rw [List.getElem?_map] at h1 h2
 cases hp' : l[i]? with
 | none => rw [hp'] at h2; cases h2
 | some p =>
  rw [hp'] at h1 h2
  cases h1
  cases h2
  have hm := List.mem_of_getElem? hp'
  refine ⟨p.pv, rfl, ?_, hz p hm⟩
  rw [(hk p hm).1]
  exact prts_of (hp p hm) (hk p hm).2
theorem split_at {α : Type} {l : List α} {i : Nat} {x : α} (h : l[i]? = some x) : ∃ l1 l2, l = l1 ++ x :: l2 ∧ l1.length = i := by
 have hi := (List.getElem?_eq_some_iff.1 h).1
 refine ⟨l.take i, l.drop (i + 1), ?_, by rw [List.length_take]; omega⟩
 rw [← drop_at h, List.take_append_drop]
theorem perm_two {α : Type} {a b : α} {A B C : List α} : (a :: b :: (A ++ B ++ C)).Perm ((A ++ b :: B) ++ a :: C) := by
 refine List.Perm.trans ?_ List.perm_middle.symm
 refine List.Perm.cons a ?_
 rw [List.append_assoc, List.append_assoc, List.cons_append]
 exact List.perm_middle.symm
theorem set_mid {α : Type} {l1 l2 : List α} {x y : α} {i : Nat} (h : l1.length = i) : (l1 ++ x :: l2).set i y = l1 ++ y :: l2 := by
 subst h
 rw [List.set_append_right _ _ (Nat.le_refl _), Nat.sub_self]
 rfl
theorem erase_mid {α : Type} {l1 l2 : List α} {x : α} {i : Nat} (h : l1.length = i) : (l1 ++ x :: l2).eraseIdx i = l1 ++ l2 := by
 subst h
 rw [List.eraseIdx_append_of_length_le (Nat.le_refl _), Nat.sub_self]
 rfl
set_option maxRecDepth 100000 in
set_option maxHeartbeats 16000000 in
theorem send_does {g : Nat} {s : Sta} {o : OwnSt} {r : Rec} {vs ps ss : Value} {G0 : GW} (hW : G0.Wf) (hh : HandsOk G0.w (o.hands g s)) (hM : ∀ k, (o.hands g s).A k → G0.M k) (ho : o.Ok G0 s) (hu : s.upls.length ≤ 100) (hz : ∀ x ∈ s.upls, x.bucket.size ≤ maxLen ∧ x.key.size ≤ maxLen) (huo : ∀ t, Ordered (ltUpl t) s.upls)
  (hpn : ∀ x ∈ s.upls, x.parts.length ≤ 100) (hpo : ∀ x ∈ s.upls, ∀ t, Ordered (ltPrt t) x.parts) (hps : IntsG G0 ps r.part.secs) (hpl : r.part.secs.length ≤ 1000) :
  Calls Tryz.prog 105 #[.pointer (some ⟨g, 0, none⟩), .agg (recV r vs ps ss).toArray] G0.w (RetH G0 (o.hands g s) (ChgT (sendS s r))) := by
 have hml := max_le
 obtain ⟨bv, qv, gv, vv, uv, vx, ux⟩ := o
 obtain ⟨Au, cu, q1, _⟩ := row_form (hh.rows (uplRow uv ux) (by simp [OwnSt.hands, OwnSt.rows])) (by show (4 : Nat) ≠ 0; decide)
 obtain rfl : uv = .slice Au ux.length cu := q1
 have hue : s.upls = ux.map (·.u) := ho.upls
 have hul : s.upls.length = ux.length := by rw [hue, List.length_map]
 have hzu : ∀ x ∈ ux, x.u.bucket.size ≤ maxLen ∧ x.u.key.size ≤ maxLen := fun x hx => hz x.u (by rw [hue]; exact List.mem_map_of_mem hx)
 have hpf : ∀ x ∈ ux, ∃ A c, x.pv = .slice A x.px.length c := fun x hx => by
  obtain ⟨A, c, e, _⟩ := row_form (hh.rows x.row (by simp only [OwnSt.hands, OwnSt.rows]; exact List.mem_append_left _ (List.mem_reverse.2 (List.mem_map_of_mem hx)))) (by show (3 : Nat) ≠ 0; decide)
  exact ⟨A, c, e⟩
 obtain ⟨Aw, cw, rfl, _⟩ := Sq.form hps
 refine enterH (n := 76) 3000 ([.c (.p 0 g 0), .c (.v (.agg (recV r vs (.slice Aw r.part.secs.length cw) ss).toArray))]) ([⟨0, g, 30, [.v (.int .i64 s.next), .v (.int .i64 s.clock), .v bv, .v vv, .v (.slice Au ux.length cu), .v qv, .v gv]⟩]) rfl hW hh hM Tryz.func105 rfl Tryz.ntmps105 (by simp) ?_
 simp only [go_sem, simprocAttr, recV]
 intro g1
 refine draw_ok (N := 3000) (.take 0 (.take 1 (.take 2 (.take 3 (.take 4 (.alt 5 (.take 6 (.take 7 (.take 8 (.take 9 (.take 10 .done))))) .last)))))) [] (QOk_body _ _ _) follows_mixed (by kernel_rfl) (by kernel_rfl) ?_
 simp only [go_sem, simprocAttr, OwnSt.rows]
 refine anyc_ok (N := 3000) (call_does (fun x _ => x = .tuple #[.int .i64 (uplAt s r.id : Int), .bool (uplIn s r.id)]) rfl rfl (by kernel_rfl) rfl (dk rfl) (fun G hG => Ret.anyM (M' := (G.less ((ux.map UX.row).reverse ++ [uplRow (.slice Au ux.length cu) ux, verRow vv vx, intRow gv s.gone, askRow qv s.queue, bktRow bv s.bkts])).M) (upload_does (G0 := G.less ((ux.map UX.row).reverse ++ [uplRow (.slice Au ux.length cu) ux, verRow vv vx, intRow gv s.gone, askRow qv s.queue, bktRow bv s.bkts])) (s := s) (hG.wf.less _) (by rw [hue]; exact upls_of (hG.sl (r := uplRow (.slice Au ux.length cu) ux) (by simp) (by show (4 : Nat) ≠ 0; decide)) (fun x hx => hG.sl (r := x.row) (List.mem_append_left _ (List.mem_reverse.2 (List.mem_map_of_mem hx))) (by show (3 : Nat) ≠ 0; decide)) (fun x hx => (ho.uok x hx).mono ((hG.le G0 (by simp)).trans (GW.le_less _ _))) hzu) (huo _) (by omega)))) (QOk_body _ _ _) rfl (by first | exact .inl rfl | exact .inr ⟨_, _, rfl, rfl⟩) ?_
 rintro _ ⟨_, G2, rfl, hn2, rfl⟩
 clear hn2
 simp only [go_sem, simprocAttr]
 refine Wb_mk (fun hin => ?_) (fun hin => ?_)
 ·have hin' := nt hin
  refine fin_retH (G := G0) Tryz.results105 ?_
  simp only [go_sem, simprocAttr]
  intro aa w' _ _
  unfold sendS
  rw [if_pos hin']
  exact ⟨rfl, fun q => by simp at q⟩
 ·have hin' := nf hin
  obtain ⟨u, hu0, _⟩ := hit_some hin'
  have hu1 : s.upls[uplAt s r.id]? = some u := hu0
  have hinn : ¬ uplIn s r.id = false := by rw [hin']; simp
  obtain ⟨i, hi⟩ : ∃ i, i = uplAt s r.id := ⟨_, rfl⟩
  have hT : sendS s r = sendC s r i u := by unfold sendS; rw [if_neg hinn, hu1, hi]; rfl
  rw [hT]
  rw [← hi] at hu1 ⊢
  have hil : i < ux.length := by rw [← hul]; exact (List.getElem?_eq_some_iff.1 hu1).1
  obtain ⟨x, hx⟩ : ∃ x, ux[i]? = some x := ⟨_, List.getElem?_eq_getElem hil⟩
  obtain rfl : x.u = u := by rw [hue, List.getElem?_map, hx] at hu1; exact Option.some.inj hu1
  have hxm : x ∈ ux := List.mem_of_getElem? hx
  obtain ⟨l1, l2, hux, hl1⟩ := split_at hx
  have hrev : (ux.map UX.row).reverse = (l2.map UX.row).reverse ++ x.row :: (l1.map UX.row).reverse := by rw [hux]; simp
  obtain ⟨Ap, cp, hpv⟩ := hpf x hxm
  obtain ⟨xu, xpv, xpx⟩ := x
  simp only at hpv
  subst hpv
  have hm1 : ∀ y ∈ l1, y ∈ ux := fun y hy => by rw [hux]; exact List.mem_append_left _ hy
  have hm2 : ∀ y ∈ l2, y ∈ ux := fun y hy => by rw [hux]; exact List.mem_append_right _ (List.mem_cons_of_mem _ hy)
  obtain ⟨hxp, hxk⟩ := ho.uok _ hxm
  simp only at hxp hxk
  refine Wb_mk (fun hk => ?_) (fun hk => ?_)
  ·have hk' := of_decide_eq_true hk
   refine ⟨by omega, ?_⟩
   have h1 : ∀ v ∈ ux.flatMap uplX, v.oneCell' = true := by
    intro v hv
    obtain ⟨⟨a, pv, px⟩, hy, hv⟩ := List.mem_flatMap.1 hv
    obtain ⟨A, c, e⟩ := hpf _ hy
    simp only at e
    subst e
    exact uplX_one _ _ _ _ _ v hv
   refine pk (callH_does ([]) ((ux.map UX.row).reverse) ([uplRow (.slice Au ux.length cu) ux]) ([verRow vv vx, intRow gv s.gone, askRow qv s.queue, bktRow bv s.bkts]) (fun v _ R _ => ∃ A c, v = .slice A (ux.length - 1) c ∧ R = [uplRow (.slice A (ux.length - 1) c) (ux.eraseIdx i)]) upV rfl rfl (by kernel_rfl) rfl (dk rfl) rfl (by simp) (by simp [ids, Diff]) (by simp) (fun G hG hh hM => deleteUpl_does (lv := .slice Au ux.length cu) hG.wf hh hM (by omega) hil h1) (fun v css R G _ _ => upV_den css)) ?_
   rintro _ ⟨_, css, _, G5, ⟨A9, c9, rfl, rfl⟩, hcs, hle, rfl⟩
   clear hcs hle
   simp only [go_sem, simprocAttr]
   refine dropRow_ok ((l2.map UX.row).reverse) ((l1.map UX.row).reverse ++ [uplRow (.slice A9 (ux.length - 1) c9) (ux.eraseIdx i)] ++ [verRow vv vx, intRow gv s.gone, askRow qv s.queue, bktRow bv s.bkts]) (r := UX.row ⟨xu, .slice Ap xpx.length cp, xpx⟩) (by rw [hrev]; simp) ?_
   refine fin_retH (G := G0) Tryz.results105 ?_
   simp only [go_sem, simprocAttr]
   intro aa w' _ hle
   have h0 := ho.mono (hle G0 (by simp))
   have e1 : ux.eraseIdx i = l1 ++ l2 := by rw [hux]; exact erase_mid hl1
   have e2 : s.upls.eraseIdx i = (l1 ++ l2).map (·.u) := by rw [hue, hux, List.map_append, List.map_append, List.map_cons]; exact erase_mid (by rw [List.length_map]; exact hl1)
   unfold sendC
   rw [if_pos hk', e1, e2]
   rw [e1] at h0
   have e3 : ux.length - 1 = (l1 ++ l2).length := by rw [hux, List.length_append, List.length_append, List.length_cons]; omega
   refine ⟨rfl, fun _ => ⟨⟨bv, qv, gv, vv, .slice A9 (ux.length - 1) c9, vx, l1 ++ l2⟩, rfl, ?_, ⟨ho.vers, rfl, h0.vok, fun y hy => h0.uok y ?_⟩⟩⟩
   ·simp [OwnSt.rows]
   ·show y ∈ ux
    rw [hux]
    rcases List.mem_append.1 hy with hy | hy
    ·exact List.mem_append_left _ hy
    ·exact List.mem_append_right _ (List.mem_cons_of_mem _ hy)
  ·have hk' := of_decide_eq_false hk
   refine rowChunk_ok (R1 := (ux.map UX.row).reverse) (R2 := [verRow vv vx, intRow gv s.gone, askRow qv s.queue, bktRow bv s.bkts]) (v := .slice Au ux.length cu) (t := 89) (k := 4) (n := ux.length) (f := uplX) (l := ux) (by simp [uplRow]) uplX_len (by omega) (by omega) rfl fun gb tl hva hmx htl => ?_
   cases hva
   have hch : Chunks 4 (ux.map uplX ++ tl) := (chunks_map uplX_len ux).app htl
   have hcx : (ux.map uplX ++ tl)[i]? = some (uplX ⟨xu, .slice Ap xpx.length cp, xpx⟩) := by rw [List.getElem?_append_left (by rw [List.length_map]; exact hil), List.getElem?_map, hx]; rfl
   have hc3 := chunk_cell hch (j := 3) (u := .slice Ap xpx.length cp) hcx rfl
   refine pk (own_elem_does (id := 2) (m := i) rfl tySlice26 tySize89 rfl rfl (dk rfl) rfl hil) ?_
   rintro _ rfl
   simp only [go_sem, simprocAttr]
   intro g3
   refine pk (callH_does ([]) ([]) ([]) (((ux.map UX.row).reverse ++ [verRow vv vx, intRow gv s.gone, askRow qv s.queue, bktRow bv s.bkts])) (fun v _ R _ => (∃ A c, v = .slice A r.part.secs.length c ∧ R = [intRow (.slice A r.part.secs.length c) r.part.secs]) ∧ ∀ q ∈ R, ∀ k, rb q.v = some k → G0.w.heap.size ≤ k) upV rfl rfl (by kernel_rfl) rfl (dk rfl) rfl (by simp) (by simp [ids, Diff]) (by simp) (fun G hG hh hM => RetH.fresh G0.w.heap.size hG.chg.size (cloneInt_does hG.wf (hps.mono (hG.le G0 (by simp))) (by omega))) (fun v css R G _ _ => upV_den css)) ?_
   rintro _ ⟨_, css, _, G7, ⟨⟨As, cas, rfl, rfl⟩, hfr⟩, hcs, hle, rfl⟩
   clear hcs hle
   simp only [go_sem, simprocAttr]
   refine read_ok (R1 := []) rfl (fun G8 hle8 hsl8 => ?_) (fun k e h => ?_) (by show (1 : Nat) ≠ 0; decide)
   ·have hsecs : IntsG G8 (.slice As r.part.secs.length cas) r.part.secs := sq_of_flat (f := intC) (fun _ _ => rfl) (fun _ => rfl) hsl8
    have hle08 : G0.Le G8 := hle8 G0 (by simp)
    clear hsl8 hle8
    refine draw_ok (N := 3000) (.take 0 (.take 1 (.take 2 (.take 3 (.take 4 (.take 5 (.alt 6 (.take 7 (.take 8 (.take 9 (.take 10 (.take 11 .done))))) .last))))))) [] (QOk_body _ _ _) follows_mixed (by kernel_rfl) (by kernel_rfl) ?_
    simp only [go_sem, simprocAttr, hc3]
    refine anyc_ok (N := 3000) (call_does (fun y _ => y = .tuple #[.int .i64 (ahead (ltPrt r.part.n) xu.parts : Int), .bool (hit (ltPrt r.part.n) (eqPrt r.part.n) xu.parts)]) rfl rfl (by kernel_rfl) rfl (dk rfl) (fun G hG => Ret.anyM (M' := (G.less ((ux.map UX.row).reverse ++ [verRow vv vx, intRow gv s.gone, askRow qv s.queue, bktRow bv s.bkts])).M) (bsPrt_does (G0 := G.less ((ux.map UX.row).reverse ++ [verRow vv vx, intRow gv s.gone, askRow qv s.queue, bktRow bv s.bkts])) (l := xu.parts) (hG.wf.less _) (by rw [hxp]; exact prts_of (hG.sl (r := UX.row ⟨xu, .slice Ap xpx.length cp, xpx⟩) (List.mem_append_left _ (List.mem_reverse.2 (List.mem_map_of_mem hxm))) (by show (3 : Nat) ≠ 0; decide)) (fun p hp => (hxk p hp).mono ((hG.le G0 (by simp)).trans (GW.le_less _ _)))) (hpo xu (List.mem_of_getElem? hu1) _) (by have := hpn xu (List.mem_of_getElem? hu1); omega)))) (QOk_body _ _ _) rfl (by first | exact .inl rfl | exact .inr ⟨_, _, rfl, rfl⟩) ?_
    rintro _ ⟨_, G9, rfl, hn9, rfl⟩
    clear hn9
    obtain ⟨k, hkk⟩ : ∃ k, k = ahead (ltPrt r.part.n) xu.parts := ⟨_, rfl⟩
    have hxpl : xu.parts.length = xpx.length := by rw [hxp, List.length_map]
    have hkl : k ≤ xpx.length := by rw [hkk, ← hxpl]; exact ahead_le _ _
    have hxpn : xpx.length ≤ 100 := by rw [← hxpl]; exact hpn xu (List.mem_of_getElem? hu1)
    rw [← hkk]
    simp only [go_sem, simprocAttr]
    refine Wb_mk (fun hhit => ?_) (fun hhit => ?_)
    ·have hpp : putPrt xu.parts r.part = xu.parts.set k r.part := by unfold putPrt; rw [if_pos hhit, hkk]
     have hkl2 : k < xpx.length := by
      obtain ⟨z, hz9, _⟩ := hit_some hhit
      rw [← hxpl, hkk]
      exact (List.getElem?_eq_some_iff.1 hz9).1
     refine rowChunk_ok (R1 := (l2.map UX.row).reverse) (R2 := (l1.map UX.row).reverse ++ [verRow vv vx, intRow gv s.gone, askRow qv s.queue, bktRow bv s.bkts]) (v := .slice Ap xpx.length cp) (t := 70) (k := 3) (n := xpx.length) (f := prtX) (l := xpx) (by rw [hrev]; simp [UX.row, prtRow]) prtX_len (by omega) (by omega) rfl fun gp tlp hvp hmp htp => ?_
     cases hvp
     have hlp : k * 3 + 3 ≤ ((xpx.map prtX ++ tlp).flatten.map SC.v).length := chunk_fit (l := xpx) (i := k) (j := 0) (n := 3) prtX_len htp hkl2 (by omega)
     have hput := chunk_set (x := (r.part, .slice As r.part.secs.length cas)) prtX_len htp (l := xpx) (i := k) hkl2
     simp only [prtX, List.map_cons, List.map_nil] at hput
     refine draw_ok (N := 3000) (.take 0 (.take 1 (.take 2 (.take 3 (.take 4 (.take 5 (.alt 6 (.alt 7 .done .last) .last))))))) [4] (QOk_body _ _ _) follows_mixed (by kernel_rfl) (by kernel_rfl) ?_
     simp only [go_sem, simprocAttr, hc3]
     refine any_ok2 (N := 3000) (own_elem_does (id := 4) (m := k) rfl tySlice87 tySize70 rfl rfl (dk rfl) rfl hkl2) (QOk_body _ _ _) rfl (by first | exact .inl rfl | exact .inr ⟨_, _, rfl, rfl⟩) (by intro _ hK; first | (obtain ⟨_, _, _, _, rfl⟩ := hK; exact ⟨rfl, fun _ h => h⟩) | (obtain ⟨_, _, rfl⟩ := hK; exact ⟨rfl, fun _ h => h⟩) | (obtain ⟨_, _, _, _, _, _, rfl⟩ := hK; exact ⟨rfl, fun _ h => List.mem_cons_of_mem _ h⟩) | (obtain ⟨_, _, _, _, _, _, _, rfl⟩ := hK; exact ⟨rfl, fun _ h => List.mem_cons_of_mem _ h⟩) | (obtain rfl := hK; exact ⟨rfl, fun _ h => h⟩)) ?_
     rintro _ rfl
     simp only [go_sem, simprocAttr, hput, hlp]
     refine chunkRow_ok (B1 := []) 3 xpx.length prtX (xpx.set k (r.part, .slice As r.part.secs.length cas)) tlp rfl prtX_len htp (by rw [List.length_set]) hmp ?_
     obtain ⟨X2, hX2⟩ : ∃ X2 : UX, X2 = ⟨{ xu with parts := xu.parts.set k r.part }, .slice (some ⟨gp, 0, none⟩) xpx.length (xpx.length + tlp.length), xpx.set k (r.part, .slice As r.part.secs.length cas)⟩ := ⟨_, rfl⟩
     have eux : ux.map uplX = (l1 ++ X2 :: l2).map uplX := by rw [hux, hX2]; simp [uplX]
     have hl9 : ux.length = (l1 ++ X2 :: l2).length := by rw [hux]; simp
     rw [eux]
     refine chunkRow_ok (B1 := [⟨3, g3, 70, [.v (.int .i64 r.part.n), .v (.int .i64 r.part.size), .v (.slice As r.part.secs.length cas)]⟩]) 4 ux.length uplX (l1 ++ X2 :: l2) tl rfl uplX_len htl hl9 hmx ?_
     have e1 : ((l1 ++ X2 :: l2).map UX.row).reverse = (l2.map UX.row).reverse ++ X2.row :: (l1.map UX.row).reverse := by simp
     have e2 : X2.row = ⟨.slice (some ⟨gp, 0, none⟩) xpx.length (xpx.length + tlp.length), 70, 3, xpx.length, (xpx.set k (r.part, .slice As r.part.secs.length cas)).flatMap prtX⟩ := by rw [hX2]; simp [UX.row, prtRow]
     have e3 : uplRow (.slice (some ⟨gb, 0, none⟩) ux.length (ux.length + tl.length)) (l1 ++ X2 :: l2) = ⟨(.slice (some ⟨gb, 0, none⟩) ux.length (ux.length + tl.length)), 89, 4, ux.length, (l1 ++ X2 :: l2).flatMap uplX⟩ := by unfold uplRow; rw [← hl9]
     refine rowsPerm_ok (R := ((l1 ++ X2 :: l2).map UX.row).reverse ++ uplRow (.slice (some ⟨gb, 0, none⟩) ux.length (ux.length + tl.length)) (l1 ++ X2 :: l2) :: [verRow vv vx, intRow gv s.gone, askRow qv s.queue, bktRow bv s.bkts]) ?_ ?_
     ·rw [e1, e2, e3]
      have := perm_two (a := (⟨(.slice (some ⟨gb, 0, none⟩) ux.length (ux.length + tl.length)), 89, 4, ux.length, (l1 ++ X2 :: l2).flatMap uplX⟩ : Rw)) (b := ⟨.slice (some ⟨gp, 0, none⟩) xpx.length (xpx.length + tlp.length), 70, 3, xpx.length, (xpx.set k (r.part, .slice As r.part.secs.length cas)).flatMap prtX⟩) (A := (l2.map UX.row).reverse) (B := (l1.map UX.row).reverse) (C := [verRow vv vx, intRow gv s.gone, askRow qv s.queue, bktRow bv s.bkts])
      rw [List.append_assoc] at this
      exact this
     have hA : ∀ GN : GW, G8.Le GN → (∀ y ∈ ux, UxOk GN y) → UxOk GN X2 := fun GN h8 hu => by
      rw [hX2]
      refine ⟨by show xu.parts.set k r.part = (xpx.set k (r.part, .slice As r.part.secs.length cas)).map (·.1); rw [List.map_set, hxp], fun p hp => ?_⟩
      rcases List.mem_or_eq_of_mem_set hp with hp | rfl
      ·exact (hu _ hxm).2 p hp
      ·exact hsecs.mono h8
     refine fin_retH (G := G0) Tryz.results105 ?_
     simp only [go_sem, simprocAttr]
     intro aa w' _ hle
     have h0 := ho.mono (hle G0 (by simp))
     have h8 := hle G8 (by simp)
     unfold sendC
     rw [if_neg hk', hpp]
     refine ⟨rfl, fun _ => ⟨⟨bv, qv, gv, vv, (.slice (some ⟨gb, 0, none⟩) ux.length (ux.length + tl.length)), vx, l1 ++ X2 :: l2⟩, rfl, rfl, ⟨ho.vers, ?_, h0.vok, fun y hy => ?_⟩⟩⟩
     ·show s.upls.set i _ = _
      rw [hue, hux, List.map_append, List.map_cons, set_mid (by rw [List.length_map]; exact hl1), List.map_append, List.map_cons, hX2]
     ·rcases List.mem_append.1 hy with hy | hy
      ·exact h0.uok y (hm1 y hy)
      ·rcases List.mem_cons.1 hy with rfl | hy
       ·exact hA _ h8 h0.uok
       ·exact h0.uok y (hm2 y hy)
    ·have hpp : putPrt xu.parts r.part = xu.parts.insertIdx k r.part := by unfold putPrt; rw [if_neg (by rw [hhit]; simp), hkk]
     refine draw_ok (N := 3000) (.take 0 (.take 1 (.take 2 (.take 3 (.take 5 (.take 6 (.alt 4 (.alt 7 (.alt 8 (.take 9 (.take 10 (.alt 11 .done .last))) .last) .last) (.alt 7 (.alt 4 (.alt 8 (.take 9 (.take 10 (.alt 11 .done .last))) .last) .last) .last)))))))) [2] (QOk_body _ _ _) follows_mixed (by kernel_rfl) (by kernel_rfl) ?_
     have hone : ∀ v ∈ xpx.flatMap prtX, v.oneCell' = true := by
      intro v hv
      obtain ⟨⟨a, pv⟩, hy, hv⟩ := List.mem_flatMap.1 hv
      obtain ⟨A, c, e, _⟩ := Sq.form (hxk _ hy)
      simp only at e
      subst e
      exact prtX_one _ _ _ _ v hv
     simp only [go_sem, simprocAttr, hc3]
     refine ⟨?_, fun g4 => ?_⟩
     ·intro g4
      refine anyH_ok (N := 3000) (callH_does [] ((l2.map UX.row).reverse) [prtRow (.slice Ap xpx.length cp) xpx] ((l1.map UX.row).reverse ++ [verRow vv vx, intRow gv s.gone, askRow qv s.queue, bktRow bv s.bkts]) (fun v _ R _ => ∃ A c, v = .slice A (xpx.length + 1) c ∧ R = [prtRow (.slice A (xpx.length + 1) c) (xpx.insertIdx k (r.part, .slice As r.part.secs.length cas))]) upV rfl rfl (by kernel_rfl) rfl (dk rfl) rfl (by rw [hrev]; simp [UX.row]) (by simp [ids, Diff]) (by simp) (fun G hG hh hM => RetH.anyM (T := fun v _ R => ∃ A c, v = .slice A (xpx.length + 1) c ∧ R = [prtRow (.slice A (xpx.length + 1) c) (xpx.insertIdx k (r.part, .slice As r.part.secs.length cas))]) (M' := (G.sub [g4]).M) (insertPrt_does (lv := .slice Ap xpx.length cp) (l := xpx) (G0 := G.sub [g4]) (i := k) (x := (r.part, .slice As r.part.secs.length cas)) (hG.wf.sub _) hh (hG.subM (b := ⟨4, g4, 70, [.v (.int .i64 r.part.n), .v (.int .i64 r.part.size), .v (.slice As r.part.secs.length cas)]⟩) (fun q hq => by rw [List.mem_singleton.1 hq]; exact List.mem_append_left _ (List.mem_reverse.2 (List.mem_map_of_mem (f := UX.row) hxm))) (by simp) hM) (by omega) hkl hone (prtX_one _ _ _ _) (hG.varG (b := ⟨4, g4, 70, [.v (.int .i64 r.part.n), .v (.int .i64 r.part.size), .v (.slice As r.part.secs.length cas)]⟩) (ks := [g4]) (by simp) (by simp)))) (fun v css R G _ _ => upV_den css)) (QOk_body _ _ _) rfl (by first | exact .inl rfl | exact .inr ⟨_, _, rfl, rfl⟩) ?_
      rintro _ ⟨_, _, G10, ⟨A2, c2, rfl, rfl⟩, hle10, rfl⟩
      clear hle10
      have hs3 := chunk_setc (l := ux) (x := ⟨xu, .slice Ap xpx.length cp, xpx⟩) (y := ⟨{ xu with parts := xu.parts.insertIdx k r.part }, .slice A2 (xpx.length + 1) c2, xpx.insertIdx k (r.part, .slice As r.part.secs.length cas)⟩) (u := .slice A2 (xpx.length + 1) c2) (i := i) (j := 3) uplX_len htl hx (by omega) rfl
      have hf3 := chunk_fit (l := ux) (i := i) (j := 3) (n := 1) uplX_len htl hil (by omega)
      simp only [go_sem, simprocAttr, hs3, hf3]
      have e0 : ux.set i ⟨{ xu with parts := xu.parts.insertIdx k r.part }, .slice A2 (xpx.length + 1) c2, xpx.insertIdx k (r.part, .slice As r.part.secs.length cas)⟩ = l1 ++ ⟨{ xu with parts := xu.parts.insertIdx k r.part }, .slice A2 (xpx.length + 1) c2, xpx.insertIdx k (r.part, .slice As r.part.secs.length cas)⟩ :: l2 := by rw [hux]; exact set_mid hl1
      obtain ⟨X2, hX2⟩ : ∃ X2 : UX, X2 = ⟨{ xu with parts := xu.parts.insertIdx k r.part }, .slice A2 (xpx.length + 1) c2, xpx.insertIdx k (r.part, .slice As r.part.secs.length cas)⟩ := ⟨_, rfl⟩
      rw [← hX2] at e0 ⊢
      rw [e0]
      have hl9 : ux.length = (l1 ++ X2 :: l2).length := by rw [hux]; simp
      refine chunkRow_ok (B1 := [⟨4, g4, 70, [.v (.int .i64 r.part.n), .v (.int .i64 r.part.size), .v (.slice As r.part.secs.length cas)]⟩, ⟨3, g3, 70, [.v (.int .i64 r.part.n), .v (.int .i64 r.part.size), .v (.slice As r.part.secs.length cas)]⟩]) 4 ux.length uplX (l1 ++ X2 :: l2) tl rfl uplX_len htl hl9 hmx ?_
      have e1 : ((l1 ++ X2 :: l2).map UX.row).reverse = (l2.map UX.row).reverse ++ X2.row :: (l1.map UX.row).reverse := by simp
      have e2 : X2.row = prtRow (.slice A2 (xpx.length + 1) c2) (xpx.insertIdx k (r.part, .slice As r.part.secs.length cas)) := by rw [hX2]; rfl
      have e3 : uplRow (.slice (some ⟨gb, 0, none⟩) ux.length (ux.length + tl.length)) (l1 ++ X2 :: l2) = ⟨(.slice (some ⟨gb, 0, none⟩) ux.length (ux.length + tl.length)), 89, 4, ux.length, (l1 ++ X2 :: l2).flatMap uplX⟩ := by unfold uplRow; rw [← hl9]
      refine rowsPerm_ok (R := ((l1 ++ X2 :: l2).map UX.row).reverse ++ uplRow (.slice (some ⟨gb, 0, none⟩) ux.length (ux.length + tl.length)) (l1 ++ X2 :: l2) :: [verRow vv vx, intRow gv s.gone, askRow qv s.queue, bktRow bv s.bkts]) ?_ ?_
      ·rw [e1, e2, e3]
       have := (List.perm_middle (a := (⟨(.slice (some ⟨gb, 0, none⟩) ux.length (ux.length + tl.length)), 89, 4, ux.length, (l1 ++ X2 :: l2).flatMap uplX⟩ : Rw)) (l₁ := (l2.map UX.row).reverse ++ prtRow (.slice A2 (xpx.length + 1) c2) (xpx.insertIdx k (r.part, .slice As r.part.secs.length cas)) :: (l1.map UX.row).reverse) (l₂ := [verRow vv vx, intRow gv s.gone, askRow qv s.queue, bktRow bv s.bkts])).symm
       simpa using this
      have hA : ∀ GN : GW, G8.Le GN → (∀ y ∈ ux, UxOk GN y) → UxOk GN X2 := fun GN h8 hu => by
       rw [hX2]
       refine ⟨by show xu.parts.insertIdx k r.part = (xpx.insertIdx k (r.part, .slice As r.part.secs.length cas)).map (·.1); rw [insert_split _ _ _ hkl, hxp, insert_split _ _ _ (by rw [List.length_map]; exact hkl)]; simp, fun p hp => ?_⟩
       have hp' : p ∈ xpx.insertIdx k (r.part, .slice As r.part.secs.length cas) := hp
       rw [insert_split _ _ _ hkl] at hp'
       rcases List.mem_append.1 hp' with hp | hp
       ·exact (hu _ hxm).2 p (List.mem_of_mem_take hp)
       ·rcases List.mem_cons.1 hp with rfl | hp
        ·exact hsecs.mono h8
        ·exact (hu _ hxm).2 p (List.mem_of_mem_drop hp)
      refine fin_retH (G := G0) Tryz.results105 ?_
      simp only [go_sem, simprocAttr]
      intro aa w' _ hle
      have h0 := ho.mono (hle G0 (by simp))
      have h8 := hle G8 (by simp)
      unfold sendC
      rw [if_neg hk', hpp]
      refine ⟨rfl, fun _ => ⟨⟨bv, qv, gv, vv, (.slice (some ⟨gb, 0, none⟩) ux.length (ux.length + tl.length)), vx, l1 ++ X2 :: l2⟩, rfl, rfl, ⟨ho.vers, ?_, h0.vok, fun y hy => ?_⟩⟩⟩
      ·show s.upls.set i _ = _
       rw [hue, hux, List.map_append, List.map_cons, set_mid (by rw [List.length_map]; exact hl1), List.map_append, List.map_cons, hX2]
      ·rcases List.mem_append.1 hy with hy | hy
       ·exact h0.uok y (hm1 y hy)
       ·rcases List.mem_cons.1 hy with rfl | hy
        ·exact hA _ h8 h0.uok
        ·exact h0.uok y (hm2 y hy)
     ·refine anyH_ok (N := 3000) (callH_does [] ((l2.map UX.row).reverse) [prtRow (.slice Ap xpx.length cp) xpx] ((l1.map UX.row).reverse ++ [verRow vv vx, intRow gv s.gone, askRow qv s.queue, bktRow bv s.bkts]) (fun v _ R _ => ∃ A c, v = .slice A (xpx.length + 1) c ∧ R = [prtRow (.slice A (xpx.length + 1) c) (xpx.insertIdx k (r.part, .slice As r.part.secs.length cas))]) upV rfl rfl (by kernel_rfl) rfl (dk rfl) rfl (by rw [hrev]; simp [UX.row]) (by simp [ids, Diff]) (by simp) (fun G hG hh hM => RetH.anyM (T := fun v _ R => ∃ A c, v = .slice A (xpx.length + 1) c ∧ R = [prtRow (.slice A (xpx.length + 1) c) (xpx.insertIdx k (r.part, .slice As r.part.secs.length cas))]) (M' := (G.sub [g4]).M) (insertPrt_does (lv := .slice Ap xpx.length cp) (l := xpx) (G0 := G.sub [g4]) (i := k) (x := (r.part, .slice As r.part.secs.length cas)) (hG.wf.sub _) hh (hG.subM (b := ⟨4, g4, 70, [.v (.int .i64 r.part.n), .v (.int .i64 r.part.size), .v (.slice As r.part.secs.length cas)]⟩) (fun q hq => by rw [List.mem_singleton.1 hq]; exact List.mem_append_left _ (List.mem_reverse.2 (List.mem_map_of_mem (f := UX.row) hxm))) (by simp) hM) (by omega) hkl hone (prtX_one _ _ _ _) (hG.varG (b := ⟨4, g4, 70, [.v (.int .i64 r.part.n), .v (.int .i64 r.part.size), .v (.slice As r.part.secs.length cas)]⟩) (ks := [g4]) (by simp) (by simp)))) (fun v css R G _ _ => upV_den css)) (QOk_body _ _ _) rfl (by first | exact .inl rfl | exact .inr ⟨_, _, rfl, rfl⟩) ?_
      rintro _ ⟨_, _, G10, ⟨A2, c2, rfl, rfl⟩, hle10, rfl⟩
      clear hle10
      have hs3 := chunk_setc (l := ux) (x := ⟨xu, .slice Ap xpx.length cp, xpx⟩) (y := ⟨{ xu with parts := xu.parts.insertIdx k r.part }, .slice A2 (xpx.length + 1) c2, xpx.insertIdx k (r.part, .slice As r.part.secs.length cas)⟩) (u := .slice A2 (xpx.length + 1) c2) (i := i) (j := 3) uplX_len htl hx (by omega) rfl
      have hf3 := chunk_fit (l := ux) (i := i) (j := 3) (n := 1) uplX_len htl hil (by omega)
      simp only [go_sem, simprocAttr, hs3, hf3]
      have e0 : ux.set i ⟨{ xu with parts := xu.parts.insertIdx k r.part }, .slice A2 (xpx.length + 1) c2, xpx.insertIdx k (r.part, .slice As r.part.secs.length cas)⟩ = l1 ++ ⟨{ xu with parts := xu.parts.insertIdx k r.part }, .slice A2 (xpx.length + 1) c2, xpx.insertIdx k (r.part, .slice As r.part.secs.length cas)⟩ :: l2 := by rw [hux]; exact set_mid hl1
      obtain ⟨X2, hX2⟩ : ∃ X2 : UX, X2 = ⟨{ xu with parts := xu.parts.insertIdx k r.part }, .slice A2 (xpx.length + 1) c2, xpx.insertIdx k (r.part, .slice As r.part.secs.length cas)⟩ := ⟨_, rfl⟩
      rw [← hX2] at e0 ⊢
      rw [e0]
      have hl9 : ux.length = (l1 ++ X2 :: l2).length := by rw [hux]; simp
      refine chunkRow_ok (B1 := [⟨4, g4, 70, [.v (.int .i64 r.part.n), .v (.int .i64 r.part.size), .v (.slice As r.part.secs.length cas)]⟩, ⟨3, g3, 70, [.v (.int .i64 r.part.n), .v (.int .i64 r.part.size), .v (.slice As r.part.secs.length cas)]⟩]) 4 ux.length uplX (l1 ++ X2 :: l2) tl rfl uplX_len htl hl9 hmx ?_
      have e1 : ((l1 ++ X2 :: l2).map UX.row).reverse = (l2.map UX.row).reverse ++ X2.row :: (l1.map UX.row).reverse := by simp
      have e2 : X2.row = prtRow (.slice A2 (xpx.length + 1) c2) (xpx.insertIdx k (r.part, .slice As r.part.secs.length cas)) := by rw [hX2]; rfl
      have e3 : uplRow (.slice (some ⟨gb, 0, none⟩) ux.length (ux.length + tl.length)) (l1 ++ X2 :: l2) = ⟨(.slice (some ⟨gb, 0, none⟩) ux.length (ux.length + tl.length)), 89, 4, ux.length, (l1 ++ X2 :: l2).flatMap uplX⟩ := by unfold uplRow; rw [← hl9]
      refine rowsPerm_ok (R := ((l1 ++ X2 :: l2).map UX.row).reverse ++ uplRow (.slice (some ⟨gb, 0, none⟩) ux.length (ux.length + tl.length)) (l1 ++ X2 :: l2) :: [verRow vv vx, intRow gv s.gone, askRow qv s.queue, bktRow bv s.bkts]) ?_ ?_
      ·rw [e1, e2, e3]
       have := (List.perm_middle (a := (⟨(.slice (some ⟨gb, 0, none⟩) ux.length (ux.length + tl.length)), 89, 4, ux.length, (l1 ++ X2 :: l2).flatMap uplX⟩ : Rw)) (l₁ := (l2.map UX.row).reverse ++ prtRow (.slice A2 (xpx.length + 1) c2) (xpx.insertIdx k (r.part, .slice As r.part.secs.length cas)) :: (l1.map UX.row).reverse) (l₂ := [verRow vv vx, intRow gv s.gone, askRow qv s.queue, bktRow bv s.bkts])).symm
       simpa using this
      have hA : ∀ GN : GW, G8.Le GN → (∀ y ∈ ux, UxOk GN y) → UxOk GN X2 := fun GN h8 hu => by
       rw [hX2]
       refine ⟨by show xu.parts.insertIdx k r.part = (xpx.insertIdx k (r.part, .slice As r.part.secs.length cas)).map (·.1); rw [insert_split _ _ _ hkl, hxp, insert_split _ _ _ (by rw [List.length_map]; exact hkl)]; simp, fun p hp => ?_⟩
       have hp' : p ∈ xpx.insertIdx k (r.part, .slice As r.part.secs.length cas) := hp
       rw [insert_split _ _ _ hkl] at hp'
       rcases List.mem_append.1 hp' with hp | hp
       ·exact (hu _ hxm).2 p (List.mem_of_mem_take hp)
       ·rcases List.mem_cons.1 hp with rfl | hp
        ·exact hsecs.mono h8
        ·exact (hu _ hxm).2 p (List.mem_of_mem_drop hp)
      refine fin_retH (G := G0) Tryz.results105 ?_
      simp only [go_sem, simprocAttr]
      intro aa w' _ hle
      have h0 := ho.mono (hle G0 (by simp))
      have h8 := hle G8 (by simp)
      unfold sendC
      rw [if_neg hk', hpp]
      refine ⟨rfl, fun _ => ⟨⟨bv, qv, gv, vv, (.slice (some ⟨gb, 0, none⟩) ux.length (ux.length + tl.length)), vx, l1 ++ X2 :: l2⟩, rfl, rfl, ⟨ho.vers, ?_, h0.vok, fun y hy => ?_⟩⟩⟩
      ·show s.upls.set i _ = _
       rw [hue, hux, List.map_append, List.map_cons, set_mid (by rw [List.length_map]; exact hl1), List.map_append, List.map_cons, hX2]
      ·rcases List.mem_append.1 hy with hy | hy
       ·exact h0.uok y (hm1 y hy)
       ·rcases List.mem_cons.1 hy with rfl | hy
        ·exact hA _ h8 h0.uok
        ·exact h0.uok y (hm2 y hy)
   ·have e1 := hfr _ (by simp) k e
    have e2 := hW k (hM k h)
    omega
end Go.Proofs.YtohdfcnjcpjdcaaGreat
