/- turn. Conditions: as each law states them. -/
import Derived.Test.YtohdfcnjcpjdcaaGreatS23w
import Derived.Test.YtohdfcnjcpjdcaaGreatP10w
namespace Go.Proofs.YtohdfcnjcpjdcaaGreat
open Go.RowKit
set_option linter.unusedSimpArgs false
theorem flat_set {k : Nat} : ∀ {css : List (List Value)} (_ : Chunks k css) {i j : Nat} {c : List Value} {u : Value}, css[i]? = some c → j < k → css.flatten.set (i * k + j) u = (css.set i (c.set j u)).flatten
 | [], _, i, j, c, u, h, _ => by simp at h
 | a :: r, h, 0, j, c, u, hi, hj => by
  simp at hi
  subst hi
  rw [Nat.zero_mul, Nat.zero_add, List.flatten_cons, List.set_append_left _ _ (by rw [h a List.mem_cons_self]; exact hj)]
  rfl
 | a :: r, h, i + 1, j, c, u, hi, hj => by
  have ha := h a List.mem_cons_self
  rw [List.flatten_cons, List.set_append_right _ _ (by rw [ha, Nat.succ_mul]; omega), ha, show (i + 1) * k + j - k = i * k + j from by rw [Nat.succ_mul]; omega, flat_set (fun c hc => h c (List.mem_cons_of_mem _ hc)) (by simpa using hi) hj]
  rfl
/-- one cell of an element put over another -/
theorem chunk_setc {α : Type} {f : α → List Value} {k : Nat} {l : List α} {tl : List (List Value)} {i j : Nat} {x y : α} {u : Value} (hf : ∀ x, (f x).length = k) (ht : Chunks k tl) (hx : l[i]? = some x) (hj : j < k) (hy : f y = (f x).set j u) :
  ((l.map f ++ tl).flatten).set (i * k + j) u = ((l.set i y).map f ++ tl).flatten := by
 have hi := (List.getElem?_eq_some_iff.1 hx).1
 rw [flat_set ((chunks_map hf l).app ht) (c := f x) (by rw [List.getElem?_append_left (by rw [List.length_map]; exact hi), List.getElem?_map, hx]; rfl) hj, ← hy, List.set_append_left _ _ (by rw [List.length_map]; exact hi), List.map_set]
theorem chunk_fit {α : Type} {f : α → List Value} {k : Nat} {l : List α} {tl : List (List Value)} {i j n : Nat} (hf : ∀ x, (f x).length = k) (ht : Chunks k tl) (hi : i < l.length) (hj : j + n ≤ k) : i * k + j + n ≤ ((l.map f ++ tl).flatten.map SC.v).length := by
 rw [List.length_map, ((chunks_map hf l).app ht).len, List.length_append, List.length_map]
 calc i * k + j + n ≤ i * k + k := by omega
  _ = (i + 1) * k := by rw [Nat.succ_mul]
  _ ≤ _ := Nat.mul_le_mul_right k (by omega)
set_option maxRecDepth 100000 in
set_option maxHeartbeats 16000000 in
theorem turn_does {g : Nat} {s : Sta} {o : OwnSt} {r : Rec} {vs ps ss : Value} {G0 : GW} (hW : G0.Wf) (hh : HandsOk G0.w (o.hands g s)) (hM : ∀ k, (o.hands g s).A k → G0.M k) (ho : o.Ok G0 s) (hu : s.vers.length ≤ 100) (hq : s.queue.length ≤ 1000) (hz : ∀ v ∈ s.vers, v.bucket.size ≤ maxLen ∧ v.key.size ≤ maxLen) (hvo : ∀ t, Ordered (ltVer t) s.vers)
  (hss : IntsG G0 ss r.secs) (hsl : r.secs.length ≤ 1000) :
  Calls Tryz.prog 102 #[.pointer (some ⟨g, 0, none⟩), .agg (recV r vs ps ss).toArray] G0.w (RetH G0 (o.hands g s) (ChgT (turnS s r))) := by
 have hml := max_le
 obtain ⟨bv, qv, gv, vv, uv, vx, ux⟩ := o
 obtain ⟨Av, cv, q1, _⟩ := row_form (hh.rows (verRow vv vx) (by simp [OwnSt.hands, OwnSt.rows])) (by show (12 : Nat) ≠ 0; decide)
 obtain rfl : vv = .slice Av vx.length cv := q1
 have hve : s.vers = vx.map (·.1) := ho.vers
 have hvl : s.vers.length = vx.length := by rw [hve, List.length_map]
 have hzv : ∀ p ∈ vx, p.1.bucket.size ≤ maxLen ∧ p.1.key.size ≤ maxLen := fun p hp => hz p.1 (by rw [hve]; exact List.mem_map_of_mem hp)
 obtain ⟨Aw, cw, rfl, _⟩ := Sq.form hss
 refine enterH (n := 96) 3000 ([.c (.p 0 g 0), .c (.v (.agg (recV r vs ps (.slice Aw r.secs.length cw)).toArray))]) ([⟨0, g, 30, [.v (.int .i64 s.next), .v (.int .i64 s.clock), .v bv, .v (.slice Av vx.length cv), .v uv, .v qv, .v gv]⟩]) rfl hW hh hM Tryz.func102 rfl Tryz.ntmps102 (by simp) ?_
 simp only [go_sem, simprocAttr, recV]
 intro g1
 refine draw_ok (N := 3000) (.take 0 (.take 1 (.take 2 (.take 3 (.take 4 (.alt 5 (.take 6 (.take 7 (.take 8 (.take 9 (.take 10 .done))))) .last)))))) [] (QOk_body _ _ _) follows_mixed (by kernel_rfl) (by kernel_rfl) ?_
 simp only [go_sem, simprocAttr, OwnSt.rows]
 refine anyc_ok (N := 3000) (call_does (fun x _ => x = .tuple #[.int .i64 (verAt s r.id : Int), .bool (verIn s r.id)]) rfl rfl (by kernel_rfl) rfl (dk rfl) (fun G hG => Ret.anyM (M' := (G.less ((ux.map UX.row).reverse ++ [uplRow uv ux, verRow (.slice Av vx.length cv) vx, intRow gv s.gone, askRow qv s.queue, bktRow bv s.bkts])).M) (version_does (G0 := G.less ((ux.map UX.row).reverse ++ [uplRow uv ux, verRow (.slice Av vx.length cv) vx, intRow gv s.gone, askRow qv s.queue, bktRow bv s.bkts])) (s := s) (hG.wf.less _) (by rw [hve]; exact vers_of (hG.sl (r := verRow (.slice Av vx.length cv) vx) (by simp) (by show (12 : Nat) ≠ 0; decide)) (fun p hp => (ho.vok p hp).mono ((hG.le G0 (by simp)).trans (GW.le_less _ _))) hzv) (hvo _) (by omega)))) (QOk_body _ _ _) rfl (by first | exact .inl rfl | exact .inr ⟨_, _, rfl, rfl⟩) ?_
 rintro _ ⟨_, G2, rfl, hn2, rfl⟩
 clear hn2
 simp only [go_sem, simprocAttr]
 refine Wb_mk (fun hin => ?_) (fun hin => ?_)
 ·have hin' := nt hin
  refine fin_retH (G := G0) Tryz.results102 ?_
  simp only [go_sem, simprocAttr]
  intro aa w' _ _
  unfold turnS
  rw [if_pos hin']
  exact ⟨rfl, fun q => by simp at q⟩
 ·have hin' := nf hin
  obtain ⟨v, hv, _⟩ := hit_some hin'
  have hv' : s.vers[verAt s r.id]? = some v := hv
  have hil : verAt s r.id < vx.length := by rw [← hvl]; exact (List.getElem?_eq_some_iff.1 hv').1
  obtain ⟨⟨v0, sv⟩, hvx⟩ : ∃ p, vx[verAt s r.id]? = some p := ⟨_, List.getElem?_eq_getElem hil⟩
  obtain rfl : v0 = v := by rw [hve, List.getElem?_map, hvx] at hv'; exact Option.some.inj hv'
  have hinn : ¬ verIn s r.id = false := by rw [hin']; simp
  obtain ⟨i, hi⟩ : ∃ i, i = verAt s r.id := ⟨_, rfl⟩
  have hT : turnS s r = turnB s r i v0 := by unfold turnS; rw [if_neg hinn, hv', hi]; rfl
  rw [hT]
  rw [← hi] at hil hvx
  refine rowChunk_ok (R1 := (ux.map UX.row).reverse ++ [uplRow uv ux]) (R2 := [intRow gv s.gone, askRow qv s.queue, bktRow bv s.bkts]) (v := .slice Av vx.length cv) (t := 38) (k := 12) (n := vx.length) (f := verX) (l := vx) (by simp [verRow]) verX_len (by omega) (by omega) rfl fun gb tl hva hmx htl => ?_
  cases hva
  have hch : Chunks 12 (vx.map verX ++ tl) := (chunks_map verX_len vx).app htl
  have hcx : (vx.map verX ++ tl)[i]? = some (verX (v0, sv)) := by rw [List.getElem?_append_left (by rw [List.length_map]; exact hil), List.getElem?_map, hvx]; rfl
  have hc4 := chunk_cell hch (j := 4) (u := .bool v0.marker) hcx rfl
  have hc7 := chunk_cell hch (j := 7) (u := .int .i64 v0.tier) hcx rfl
  rw [← hi]
  simp only [go_sem, simprocAttr]
  refine pk (own_elem_does (id := 2) (m := i) rfl tySlice25 tySize38 rfl rfl (dk rfl) rfl hil) ?_
  rintro _ rfl
  simp only [go_sem, simprocAttr, hc4]
  refine Wb_mk (fun hmk => ?_) (fun hmk => ?_)
  ·refine fin_retH (G := G0) Tryz.results102 ?_
   simp only [go_sem, simprocAttr]
   intro aa w' _ _
   unfold turnB
   rw [if_pos hmk]
   exact ⟨rfl, fun q => by simp at q⟩
  ·have hnm : ¬ v0.marker = true := by rw [hmk]; simp
   refine Wb_mk (fun hk6 => ?_) (fun hk6 => ?_)
   ·have k6 := of_decide_eq_true hk6
    simp only [go_sem, simprocAttr, hc7]
    refine Wb_mk (fun ht1 => ?_) (fun ht1 => ?_)
    ·have ht1' := of_decide_eq_true ht1
     have hspa0 := chunk_setc (l := vx) (x := (v0, sv)) (y := ({ v0 with tier := 2 }, sv)) (u := .int .i64 2) (i := i) (j := 7) verX_len htl hvx (by omega) rfl
     have hfpa0 := chunk_fit (l := vx) (i := i) (j := 7) (n := 1) verX_len htl (by simpa using hil) (by omega)
     have hspa1 := chunk_setc (l := (vx.set i ({ v0 with tier := 2 }, sv))) (x := ({ v0 with tier := 2 }, sv)) (y := ({ v0 with tier := 2, secs := [] }, .slice none 0 0)) (u := .slice none 0 0) (i := i) (j := 8) verX_len htl (List.getElem?_set_self (by simpa using hil)) (by omega) rfl
     have hfpa1 := chunk_fit (l := (vx.set i ({ v0 with tier := 2 }, sv))) (i := i) (j := 8) (n := 1) verX_len htl (by simpa using hil) (by omega)
     simp only [go_sem, simprocAttr, hspa0, hfpa0, hspa1, hfpa1]
     have hspb0 := chunk_setc (l := ((vx.set i ({ v0 with tier := 2 }, sv)).set i ({ v0 with tier := 2, secs := [] }, .slice none 0 0))) (x := ({ v0 with tier := 2, secs := [] }, .slice none 0 0)) (y := ({ v0 with tier := 2, secs := [], vol := r.vol }, .slice none 0 0)) (u := .int .i64 r.vol) (i := i) (j := 9) verX_len htl (List.getElem?_set_self (by simpa using hil)) (by omega) rfl
     have hfpb0 := chunk_fit (l := ((vx.set i ({ v0 with tier := 2 }, sv)).set i ({ v0 with tier := 2, secs := [] }, .slice none 0 0))) (i := i) (j := 9) (n := 1) verX_len htl (by simpa using hil) (by omega)
     have hspb1 := chunk_setc (l := (((vx.set i ({ v0 with tier := 2 }, sv)).set i ({ v0 with tier := 2, secs := [] }, .slice none 0 0)).set i ({ v0 with tier := 2, secs := [], vol := r.vol }, .slice none 0 0))) (x := ({ v0 with tier := 2, secs := [], vol := r.vol }, .slice none 0 0)) (y := ({ v0 with tier := 2, secs := [], vol := r.vol, at_ := r.at_ }, .slice none 0 0)) (u := .int .i64 r.at_) (i := i) (j := 10) verX_len htl (List.getElem?_set_self (by simpa using hil)) (by omega) rfl
     have hfpb1 := chunk_fit (l := (((vx.set i ({ v0 with tier := 2 }, sv)).set i ({ v0 with tier := 2, secs := [] }, .slice none 0 0)).set i ({ v0 with tier := 2, secs := [], vol := r.vol }, .slice none 0 0))) (i := i) (j := 10) (n := 1) verX_len htl (by simpa using hil) (by omega)
     refine draw_ok (N := 3000) (.take 0 (.take 1 (.take 2 (.take 3 (.take 4 (.take 5 (.take 6 (.take 7 (.alt 8 (.take 9 (.take 10 (.alt 11 .done .last))) .last))))))))) [2] (QOk_body _ _ _) follows_mixed (by kernel_rfl) (by kernel_rfl) ?_
     simp only [go_sem, simprocAttr, hspb0, hfpb0, hspb1, hfpb1]
     obtain ⟨vx2, hx2⟩ : ∃ m, m = ((((vx.set i ({ v0 with tier := 2 }, sv)).set i ({ v0 with tier := 2, secs := [] }, .slice none 0 0)).set i ({ v0 with tier := 2, secs := [], vol := r.vol }, .slice none 0 0)).set i ({ v0 with tier := 2, secs := [], vol := r.vol, at_ := r.at_ }, .slice none 0 0)) := ⟨_, rfl⟩
     rw [← hx2]
     have hx3 : vx2 = vx.set i ({ v0 with tier := 2, secs := [], vol := r.vol, at_ := r.at_ }, .slice none 0 0) := by rw [hx2]; simp only [List.set_set]
     clear hx2
     have hl2 : vx.length = vx2.length := by rw [hx3, List.length_set]
     have hm2 : vx2.length + tl.length ≤ maxLen := by omega
     rw [hl2]
     refine chunkRow_ok (B1 := []) 12 vx2.length verX vx2 tl rfl verX_len htl rfl hm2 ?_
     refine rowsPerm_ok (R := ((ux.map UX.row).reverse ++ [uplRow uv ux, verRow (.slice (some ⟨gb, 0, none⟩) vx2.length (vx2.length + tl.length)) vx2, intRow gv s.gone, askRow qv s.queue, bktRow bv s.bkts])) ?_ ?_
     ·refine (List.perm_middle (l₁ := (ux.map UX.row).reverse ++ [uplRow uv ux]) (l₂ := [intRow gv s.gone, askRow qv s.queue, bktRow bv s.bkts])).symm.trans ?_
      rw [List.append_assoc]
      exact List.Perm.refl _
     simp only [go_sem, simprocAttr]
     refine fin_retH (G := G0) Tryz.results102 ?_
     simp only [go_sem, simprocAttr]
     intro aa w' _ hle
     have h0 := ho.mono (hle G0 (by simp))
     have hve2 : vx2.map (·.1) = s.vers.set i { v0 with tier := 2, secs := [], vol := r.vol, at_ := r.at_ } := by rw [hx3, List.map_set, hve] <;> rfl
     have hvo2 : ∀ p ∈ vx2, VxOk _ p := fun p hp => by
      rw [hx3] at hp
      rcases List.mem_or_eq_of_mem_set hp with hp | rfl
      ·exact h0.vok p hp
      ·exact Sq.nil
     unfold turnB
     rw [if_neg hnm, if_pos k6, show frzV v0 r.vol r.at_ = { v0 with tier := 2, secs := [], vol := r.vol, at_ := r.at_ } from by unfold frzV; rw [if_pos ht1', if_pos ht1']]
     exact ⟨rfl, fun _ => ⟨⟨bv, qv, gv, .slice (some ⟨gb, 0, none⟩) vx2.length (vx2.length + tl.length), uv, vx2, ux⟩, rfl, rfl, ⟨hve2.symm, ho.upls, hvo2, h0.uok⟩⟩⟩
    ·have ht1' := of_decide_eq_false ht1
     have hsqb0 := chunk_setc (l := vx) (x := (v0, sv)) (y := ({ v0 with vol := r.vol }, sv)) (u := .int .i64 r.vol) (i := i) (j := 9) verX_len htl hvx (by omega) rfl
     have hfqb0 := chunk_fit (l := vx) (i := i) (j := 9) (n := 1) verX_len htl (by simpa using hil) (by omega)
     have hsqb1 := chunk_setc (l := (vx.set i ({ v0 with vol := r.vol }, sv))) (x := ({ v0 with vol := r.vol }, sv)) (y := ({ v0 with vol := r.vol, at_ := r.at_ }, sv)) (u := .int .i64 r.at_) (i := i) (j := 10) verX_len htl (List.getElem?_set_self (by simpa using hil)) (by omega) rfl
     have hfqb1 := chunk_fit (l := (vx.set i ({ v0 with vol := r.vol }, sv))) (i := i) (j := 10) (n := 1) verX_len htl (by simpa using hil) (by omega)
     refine draw_ok (N := 3000) (.take 0 (.take 1 (.take 2 (.take 3 (.take 4 (.take 5 (.take 6 (.take 7 (.alt 8 (.take 9 (.take 10 (.alt 11 .done .last))) .last))))))))) [2] (QOk_body _ _ _) follows_mixed (by kernel_rfl) (by kernel_rfl) ?_
     simp only [go_sem, simprocAttr, hsqb0, hfqb0, hsqb1, hfqb1]
     obtain ⟨vx2, hx2⟩ : ∃ m, m = ((vx.set i ({ v0 with vol := r.vol }, sv)).set i ({ v0 with vol := r.vol, at_ := r.at_ }, sv)) := ⟨_, rfl⟩
     rw [← hx2]
     have hx3 : vx2 = vx.set i ({ v0 with vol := r.vol, at_ := r.at_ }, sv) := by rw [hx2]; simp only [List.set_set]
     clear hx2
     have hl2 : vx.length = vx2.length := by rw [hx3, List.length_set]
     have hm2 : vx2.length + tl.length ≤ maxLen := by omega
     rw [hl2]
     refine chunkRow_ok (B1 := []) 12 vx2.length verX vx2 tl rfl verX_len htl rfl hm2 ?_
     refine rowsPerm_ok (R := ((ux.map UX.row).reverse ++ [uplRow uv ux, verRow (.slice (some ⟨gb, 0, none⟩) vx2.length (vx2.length + tl.length)) vx2, intRow gv s.gone, askRow qv s.queue, bktRow bv s.bkts])) ?_ ?_
     ·refine (List.perm_middle (l₁ := (ux.map UX.row).reverse ++ [uplRow uv ux]) (l₂ := [intRow gv s.gone, askRow qv s.queue, bktRow bv s.bkts])).symm.trans ?_
      rw [List.append_assoc]
      exact List.Perm.refl _
     simp only [go_sem, simprocAttr]
     refine fin_retH (G := G0) Tryz.results102 ?_
     simp only [go_sem, simprocAttr]
     intro aa w' _ hle
     have h0 := ho.mono (hle G0 (by simp))
     have hve2 : vx2.map (·.1) = s.vers.set i { v0 with vol := r.vol, at_ := r.at_ } := by rw [hx3, List.map_set, hve] <;> rfl
     have hvo2 : ∀ p ∈ vx2, VxOk _ p := fun p hp => by
      rw [hx3] at hp
      rcases List.mem_or_eq_of_mem_set hp with hp | rfl
      ·exact h0.vok p hp
      ·exact h0.vok (v0, sv) (List.mem_of_getElem? hvx)
     unfold turnB
     rw [if_neg hnm, if_pos k6, show frzV v0 r.vol r.at_ = { v0 with vol := r.vol, at_ := r.at_ } from by unfold frzV; rw [if_neg ht1', if_neg ht1']]
     exact ⟨rfl, fun _ => ⟨⟨bv, qv, gv, .slice (some ⟨gb, 0, none⟩) vx2.length (vx2.length + tl.length), uv, vx2, ux⟩, rfl, rfl, ⟨hve2.symm, ho.upls, hvo2, h0.uok⟩⟩⟩
   ·have k6 := of_decide_eq_false hk6
    refine Wb_mk (fun hk8 => ?_) (fun hk8 => ?_)
    ·have k8 := of_decide_eq_true hk8
     simp only [go_sem, simprocAttr, hc7]
     refine Wb_mk (fun ht2 => ?_) (fun ht2 => ?_)
     ·have ht2' : ¬ v0.tier = 2 := of_decide_eq_false (nt ht2)
      refine fin_retH (G := G0) Tryz.results102 ?_
      simp only [go_sem, simprocAttr]
      intro aa w' _ _
      unfold turnB
      rw [if_neg hnm, if_neg k6, if_pos k8, if_neg ht2']
      exact ⟨rfl, fun q => by simp at q⟩
     ·have ht2' : v0.tier = 2 := of_decide_eq_true (nf ht2)
      refine draw_ok (N := 3000) (.take 0 (.take 1 (.take 2 (.take 3 (.take 4 (.take 6 (.take 7 (.alt 5 (.take 8 (.take 9 (.alt 10 (.take 11 (.take 12 (.alt 13 (.take 14 (.take 15 (.alt 16 .done .last))) .last))) .last))) .last)))))))) [2] (QOk_body _ _ _) follows_mixed (by kernel_rfl) (by kernel_rfl) ?_
      simp only [go_sem, simprocAttr]
      refine anyH_ok (N := 3000) (callH_does [] [] [] ((ux.map UX.row).reverse ++ [uplRow uv ux] ++ [intRow gv s.gone, askRow qv s.queue, bktRow bv s.bkts]) (fun x _ R _ => (∃ A c, x = .slice A r.secs.length c ∧ R = [intRow (.slice A r.secs.length c) r.secs]) ∧ ∀ q ∈ R, ∀ k, rb q.v = some k → G0.w.heap.size ≤ k) upV rfl rfl (by kernel_rfl) rfl (dk rfl) rfl (by simp) (by simp [ids, Diff]) (by simp) (fun G hG hh hM => RetH.fresh G0.w.heap.size hG.chg.size (cloneInt_does hG.wf (hss.mono (hG.le G0 (by simp))) (by omega))) (fun v css R G _ _ => upV_den css)) (QOk_body _ _ _) rfl (by first | exact .inl rfl | exact .inr ⟨_, _, rfl, rfl⟩) ?_
      rintro _ ⟨_, _, G7, ⟨⟨As, cas, rfl, rfl⟩, hfr⟩, hle7, rfl⟩
      clear hle7
      have hst0 := chunk_setc (l := vx) (x := (v0, sv)) (y := ({ v0 with tier := 3 }, sv)) (u := .int .i64 3) (i := i) (j := 7) verX_len htl hvx (by omega) rfl
      have hft0 := chunk_fit (l := vx) (i := i) (j := 7) (n := 1) verX_len htl (by simpa using hil) (by omega)
      have hst1 := chunk_setc (l := (vx.set i ({ v0 with tier := 3 }, sv))) (x := ({ v0 with tier := 3 }, sv)) (y := ({ v0 with tier := 3, secs := r.secs }, .slice As r.secs.length cas)) (u := .slice As r.secs.length cas) (i := i) (j := 8) verX_len htl (List.getElem?_set_self (by simpa using hil)) (by omega) rfl
      have hft1 := chunk_fit (l := (vx.set i ({ v0 with tier := 3 }, sv))) (i := i) (j := 8) (n := 1) verX_len htl (by simpa using hil) (by omega)
      have hst2 := chunk_setc (l := ((vx.set i ({ v0 with tier := 3 }, sv)).set i ({ v0 with tier := 3, secs := r.secs }, .slice As r.secs.length cas))) (x := ({ v0 with tier := 3, secs := r.secs }, .slice As r.secs.length cas)) (y := ({ v0 with tier := 3, secs := r.secs, till := r.n }, .slice As r.secs.length cas)) (u := .int .i64 r.n) (i := i) (j := 11) verX_len htl (List.getElem?_set_self (by simpa using hil)) (by omega) rfl
      have hft2 := chunk_fit (l := ((vx.set i ({ v0 with tier := 3 }, sv)).set i ({ v0 with tier := 3, secs := r.secs }, .slice As r.secs.length cas))) (i := i) (j := 11) (n := 1) verX_len htl (by simpa using hil) (by omega)
      simp only [go_sem, simprocAttr, hst0, hft0, hst1, hft1, hst2, hft2]
      refine read_ok (R1 := []) rfl (fun G8 hle8 hsl8 => ?_) (fun k e h => ?_) (by show (1 : Nat) ≠ 0; decide)
      ·have hsecs : IntsG G8 (.slice As r.secs.length cas) r.secs := sq_of_flat (f := intC) (fun _ _ => rfl) (fun _ => rfl) hsl8
       have hle08 : G0.Le G8 := hle8 G0 (by simp)
       clear hsl8 hle8
       obtain ⟨vx2, hx2⟩ : ∃ m, m = (((vx.set i ({ v0 with tier := 3 }, sv)).set i ({ v0 with tier := 3, secs := r.secs }, .slice As r.secs.length cas)).set i ({ v0 with tier := 3, secs := r.secs, till := r.n }, .slice As r.secs.length cas)) := ⟨_, rfl⟩
       rw [← hx2]
       have hx3 : vx2 = vx.set i ({ v0 with tier := 3, secs := r.secs, till := r.n }, .slice As r.secs.length cas) := by rw [hx2]; simp only [List.set_set]
       clear hx2
       have hl2 : vx.length = vx2.length := by rw [hx3, List.length_set]
       have hm2 : vx2.length + tl.length ≤ maxLen := by omega
       rw [hl2]
       refine chunkRow_ok (B1 := []) 12 vx2.length verX vx2 tl rfl verX_len htl rfl hm2 ?_
       refine rowsPerm_ok (R := ((ux.map UX.row).reverse ++ [uplRow uv ux, verRow (.slice (some ⟨gb, 0, none⟩) vx2.length (vx2.length + tl.length)) vx2, intRow gv s.gone, askRow qv s.queue, bktRow bv s.bkts])) ?_ ?_
       ·refine (List.perm_middle (l₁ := (ux.map UX.row).reverse ++ [uplRow uv ux]) (l₂ := [intRow gv s.gone, askRow qv s.queue, bktRow bv s.bkts])).symm.trans ?_
        rw [List.append_assoc]
        exact List.Perm.refl _
       simp only [go_sem, simprocAttr]
       refine pk (callH_does ([0]) ([]) (((ux.map UX.row).reverse ++ [uplRow uv ux, verRow (.slice (some ⟨gb, 0, none⟩) vx2.length (vx2.length + tl.length)) vx2, intRow gv s.gone, askRow qv s.queue, bktRow bv s.bkts])) ([]) (fun x css R _ => x = .tuple #[] ∧ ∃ qv2, css = [OwnSt.cells (forgetS (setVer s i (thwV v0 r.secs r.n)) r.id) ⟨bv, qv2, gv, .slice (some ⟨gb, 0, none⟩) vx2.length (vx2.length + tl.length), uv, vx2, ux⟩] ∧ R = OwnSt.rows (forgetS (setVer s i (thwV v0 r.secs r.n)) r.id) ⟨bv, qv2, gv, .slice (some ⟨gb, 0, none⟩) vx2.length (vx2.length + tl.length), uv, vx2, ux⟩) upV rfl rfl (by kernel_rfl) rfl (dk rfl) rfl (by simp) (by simp [ids, Diff]) (by simp) (fun G hG hh hM => forget_does (s := setVer s i (thwV v0 r.secs r.n)) (o := ⟨bv, qv, gv, .slice (some ⟨gb, 0, none⟩) vx2.length (vx2.length + tl.length), uv, vx2, ux⟩) hG.wf hh hM hq) (fun v css R G _ _ => upV_den css)) ?_
       rintro _ ⟨_, css, _, G3, ⟨rfl, qv2, rfl, rfl⟩, hcs, hle, rfl⟩
       clear hcs hle
       simp only [go_sem, simprocAttr, OwnSt.rows]
       refine fin_retH (G := G0) Tryz.results102 ?_
       simp only [go_sem, simprocAttr]
       intro aa w' _ hle
       have h0 := ho.mono (hle G0 (by simp))
       have h8 := hle G8 (by simp)
       have hve2 : vx2.map (·.1) = s.vers.set i (thwV v0 r.secs r.n) := by rw [hx3, List.map_set, hve] <;> rfl
       have hvo2 : ∀ p ∈ vx2, VxOk _ p := fun p hp => by
        rw [hx3] at hp
        rcases List.mem_or_eq_of_mem_set hp with hp | rfl
        ·exact h0.vok p hp
        ·exact hsecs.mono h8
       unfold turnB
       rw [if_neg hnm, if_neg k6, if_pos k8, if_pos ht2']
       refine ⟨rfl, fun _ => ⟨⟨bv, qv2, gv, .slice (some ⟨gb, 0, none⟩) vx2.length (vx2.length + tl.length), uv, vx2, ux⟩, rfl, by simp [OwnSt.rows], ⟨?_, ?_, hvo2, h0.uok⟩⟩⟩
       ·exact hve2.symm
       ·exact ho.upls
      ·have e1 := hfr _ (by simp) k e
       have e2 := hW k (hM k h)
       omega
    ·have k8 := of_decide_eq_false hk8
     simp only [go_sem, simprocAttr, hc7]
     refine Wb_mk (fun ht3 => ?_) (fun ht3 => ?_)
     ·have ht3' : ¬ v0.tier = 3 := of_decide_eq_false (nt ht3)
      refine fin_retH (G := G0) Tryz.results102 ?_
      simp only [go_sem, simprocAttr]
      intro aa w' _ _
      unfold turnB
      rw [if_neg hnm, if_neg k6, if_neg k8, if_neg ht3']
      exact ⟨rfl, fun q => by simp at q⟩
     ·have ht3' : v0.tier = 3 := of_decide_eq_true (nf ht3)
      have hsc0 := chunk_setc (l := vx) (x := (v0, sv)) (y := ({ v0 with tier := 2 }, sv)) (u := .int .i64 2) (i := i) (j := 7) verX_len htl hvx (by omega) rfl
      have hfc0 := chunk_fit (l := vx) (i := i) (j := 7) (n := 1) verX_len htl (by simpa using hil) (by omega)
      have hsc1 := chunk_setc (l := (vx.set i ({ v0 with tier := 2 }, sv))) (x := ({ v0 with tier := 2 }, sv)) (y := ({ v0 with tier := 2, secs := [] }, .slice none 0 0)) (u := .slice none 0 0) (i := i) (j := 8) verX_len htl (List.getElem?_set_self (by simpa using hil)) (by omega) rfl
      have hfc1 := chunk_fit (l := (vx.set i ({ v0 with tier := 2 }, sv))) (i := i) (j := 8) (n := 1) verX_len htl (by simpa using hil) (by omega)
      have hsc2 := chunk_setc (l := ((vx.set i ({ v0 with tier := 2 }, sv)).set i ({ v0 with tier := 2, secs := [] }, .slice none 0 0))) (x := ({ v0 with tier := 2, secs := [] }, .slice none 0 0)) (y := ({ v0 with tier := 2, secs := [], till := 0 }, .slice none 0 0)) (u := .int .i64 0) (i := i) (j := 11) verX_len htl (List.getElem?_set_self (by simpa using hil)) (by omega) rfl
      have hfc2 := chunk_fit (l := ((vx.set i ({ v0 with tier := 2 }, sv)).set i ({ v0 with tier := 2, secs := [] }, .slice none 0 0))) (i := i) (j := 11) (n := 1) verX_len htl (by simpa using hil) (by omega)
      simp only [go_sem, simprocAttr, hsc0, hfc0, hsc1, hfc1, hsc2, hfc2]
      obtain ⟨vx2, hx2⟩ : ∃ m, m = (((vx.set i ({ v0 with tier := 2 }, sv)).set i ({ v0 with tier := 2, secs := [] }, .slice none 0 0)).set i ({ v0 with tier := 2, secs := [], till := 0 }, .slice none 0 0)) := ⟨_, rfl⟩
      rw [← hx2]
      have hx3 : vx2 = vx.set i ({ v0 with tier := 2, secs := [], till := 0 }, .slice none 0 0) := by rw [hx2]; simp only [List.set_set]
      clear hx2
      have hl2 : vx.length = vx2.length := by rw [hx3, List.length_set]
      have hm2 : vx2.length + tl.length ≤ maxLen := by omega
      rw [hl2]
      refine chunkRow_ok (B1 := []) 12 vx2.length verX vx2 tl rfl verX_len htl rfl hm2 ?_
      refine rowsPerm_ok (R := ((ux.map UX.row).reverse ++ [uplRow uv ux, verRow (.slice (some ⟨gb, 0, none⟩) vx2.length (vx2.length + tl.length)) vx2, intRow gv s.gone, askRow qv s.queue, bktRow bv s.bkts])) ?_ ?_
      ·refine (List.perm_middle (l₁ := (ux.map UX.row).reverse ++ [uplRow uv ux]) (l₂ := [intRow gv s.gone, askRow qv s.queue, bktRow bv s.bkts])).symm.trans ?_
       rw [List.append_assoc]
       exact List.Perm.refl _
      simp only [go_sem, simprocAttr]
      refine fin_retH (G := G0) Tryz.results102 ?_
      simp only [go_sem, simprocAttr]
      intro aa w' _ hle
      have h0 := ho.mono (hle G0 (by simp))
      have hve2 : vx2.map (·.1) = s.vers.set i (chlV v0) := by rw [hx3, List.map_set, hve] <;> rfl
      have hvo2 : ∀ p ∈ vx2, VxOk _ p := fun p hp => by
       rw [hx3] at hp
       rcases List.mem_or_eq_of_mem_set hp with hp | rfl
       ·exact h0.vok p hp
       ·exact Sq.nil
      unfold turnB
      rw [if_neg hnm, if_neg k6, if_neg k8, if_pos ht3']
      exact ⟨rfl, fun _ => ⟨⟨bv, qv, gv, .slice (some ⟨gb, 0, none⟩) vx2.length (vx2.length + tl.length), uv, vx2, ux⟩, rfl, rfl, ⟨hve2.symm, ho.upls, hvo2, h0.uok⟩⟩⟩
end Go.Proofs.YtohdfcnjcpjdcaaGreat
