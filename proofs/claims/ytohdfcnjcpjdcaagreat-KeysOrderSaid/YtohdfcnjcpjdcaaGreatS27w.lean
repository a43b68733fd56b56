/- set. Conditions: as each law states them. -/
import Derived.Test.YtohdfcnjcpjdcaaGreatS26w
namespace Go.Proofs.YtohdfcnjcpjdcaaGreat
open Go.RowKit
set_option linter.unusedSimpArgs false
set_option maxRecDepth 100000 in
set_option maxHeartbeats 16000000 in
theorem set_does {g : Nat} {s : Sta} {o : OwnSt} {r : Rec} {vs ps ss : Value} {G0 : GW} (hW : G0.Wf) (hh : HandsOk G0.w (o.hands g s)) (hM : ∀ k, (o.hands g s).A k → G0.M k) (ho : o.Ok G0 s) (hu : s.bkts.length ≤ 100) (hbz : ∀ b ∈ s.bkts, b.name.size ≤ maxLen ∧ b.rule.pre.size ≤ maxLen) (hbo : ∀ t, Ordered (ltBkt t) s.bkts) (hnz : r.rule.pre.size ≤ maxLen) :
  Calls Tryz.prog 98 #[.pointer (some ⟨g, 0, none⟩), .agg (recV r vs ps ss).toArray] G0.w (RetH G0 (o.hands g s) (ChgT (setS s r))) := by
 have hml := max_le
 obtain ⟨bv, qv, gv, vv, uv, vx, ux⟩ := o
 obtain ⟨Ab, cb, q1, _⟩ := row_form (hh.rows (bktRow bv s.bkts) (by simp [OwnSt.hands, OwnSt.rows])) (by show (5 : Nat) ≠ 0; decide)
 obtain rfl : bv = .slice Ab s.bkts.length cb := q1
 refine enterH (n := 68) 3000 ([.c (.p 0 g 0), .c (.v (.agg (recV r vs ps ss).toArray))]) ([⟨0, g, 30, [.v (.int .i64 s.next), .v (.int .i64 s.clock), .v (.slice Ab s.bkts.length cb), .v vv, .v uv, .v qv, .v gv]⟩]) rfl hW hh hM Tryz.func98 rfl Tryz.ntmps98 (by simp) ?_
 simp only [go_sem, simprocAttr, recV]
 intro g1
 refine draw_ok (N := 3000) (.take 0 (.take 1 (.take 2 (.take 3 (.take 4 (.alt 5 (.take 6 (.take 7 (.take 8 (.take 9 (.take 10 .done))))) .last)))))) [] (QOk_body _ _ _) follows_mixed (by kernel_rfl) (by kernel_rfl) ?_
 simp only [go_sem, simprocAttr, OwnSt.rows]
 refine anyc_ok (N := 3000) (call_does (fun x _ => x = .tuple #[.int .i64 (bktAt s r.name : Int), .bool (bktIn s r.name)]) rfl rfl (by kernel_rfl) rfl (dk rfl) (fun G hG => Ret.anyM (M' := (G.less ((ux.map UX.row).reverse ++ [uplRow uv ux, verRow vv vx, intRow gv s.gone, askRow qv s.queue, bktRow (.slice Ab s.bkts.length cb) s.bkts])).M) (bucket_does (G0 := G.less ((ux.map UX.row).reverse ++ [uplRow uv ux, verRow vv vx, intRow gv s.gone, askRow qv s.queue, bktRow (.slice Ab s.bkts.length cb) s.bkts])) (s := s) (hG.wf.less _) (bkts_of (hG.sl (r := bktRow (.slice Ab s.bkts.length cb) s.bkts) (by simp) (by show (5 : Nat) ≠ 0; decide)) hbz) (hbo _) (by omega)))) (QOk_body _ _ _) rfl (by first | exact .inl rfl | exact .inr ⟨_, _, rfl, rfl⟩) ?_
 rintro _ ⟨_, G2, rfl, hn2, rfl⟩
 clear hn2
 simp only [go_sem, simprocAttr]
 refine Wb_mk (fun hin => ?_) (fun hin => ?_)
 ·have hin' := nt hin
  refine fin_retH (G := G0) Tryz.results98 ?_
  simp only [go_sem, simprocAttr]
  intro aa w' _ _
  unfold setS
  rw [if_pos hin']
  exact ⟨rfl, fun q => by simp at q⟩
 ·have hin' := nf hin
  obtain ⟨b, hb, _⟩ := hit_some hin'
  have hbx0 : s.bkts[bktAt s r.name]? = some b := hb
  have hinn : ¬ bktIn s r.name = false := by rw [hin']; simp
  obtain ⟨i, hi⟩ : ∃ i, i = bktAt s r.name := ⟨_, rfl⟩
  have hT : setS s r = setC s r i b := by unfold setS; rw [if_neg hinn, hbx0, hi]; rfl
  rw [hT]
  rw [← hi] at hbx0
  have hbx : s.bkts[i]? = some b := hbx0
  have hil : i < s.bkts.length := (List.getElem?_eq_some_iff.1 hbx).1
  rw [← hi]
  refine Wb_mk (fun hk3 => ?_) (fun hk3 => ?_)
  ·have k3 := of_decide_eq_true hk3
   refine pk (call_does (fun x _ => x = .int .i64 (rulErr r.rule)) rfl rfl (by kernel_rfl) rfl (dk rfl) (fun G hG => checkRule_does hG.wf hnz)) ?_
   rintro _ ⟨_, G3, rfl, hn3, rfl⟩
   clear hn3
   simp only [go_sem, simprocAttr]
   refine Wb_mk (fun he => ?_) (fun he => ?_)
   ·have he' : ¬ rulErr r.rule = 0 := of_decide_eq_false (nt he)
    refine fin_retH (G := G0) Tryz.results98 ?_
    simp only [go_sem, simprocAttr]
    intro aa w' _ _
    unfold setC
    rw [if_pos k3, if_neg he']
    exact ⟨rfl, fun q => absurd q he'⟩
   ·have he' : rulErr r.rule = 0 := of_decide_eq_true (nf he)
    refine rowChunk_ok (R1 := ((ux.map UX.row).reverse ++ [uplRow uv ux, verRow vv vx, intRow gv s.gone, askRow qv s.queue])) (R2 := []) (v := .slice Ab s.bkts.length cb) (t := 42) (k := 5) (n := s.bkts.length) (f := bktC) (l := s.bkts) (by simp [bktRow]) bktC_len (by omega) (by omega) rfl fun gb tl hva hmx htl => ?_
    cases hva
    ·have hs0 := chunk_setc (l := s.bkts) (x := b) (y := { b with rule := { b.rule with pre := r.rule.pre } }) (u := .string r.rule.pre) (i := i) (j := 2) bktC_len htl hbx (by omega) rfl
     have hs1 : List.set ((s.bkts.set i { b with rule := { b.rule with pre := r.rule.pre } }).map bktC ++ tl).flatten (i * 5 + 2 + 1) (.int .i64 r.rule.freeze) = _ := chunk_setc (l := s.bkts.set i { b with rule := { b.rule with pre := r.rule.pre } }) (x := { b with rule := { b.rule with pre := r.rule.pre } }) (y := { b with rule := { r.rule with drop := b.rule.drop } }) (u := .int .i64 r.rule.freeze) (i := i) (j := 3) bktC_len htl (List.getElem?_set_self (by simpa using hil)) (by omega) rfl
     have hs2 : List.set (((s.bkts.set i { b with rule := { b.rule with pre := r.rule.pre } }).set i { b with rule := { r.rule with drop := b.rule.drop } }).map bktC ++ tl).flatten (i * 5 + 2 + 2) (.int .i64 r.rule.drop) = _ := chunk_setc (l := (s.bkts.set i { b with rule := { b.rule with pre := r.rule.pre } }).set i { b with rule := { r.rule with drop := b.rule.drop } }) (x := { b with rule := { r.rule with drop := b.rule.drop } }) (y := { b with rule := r.rule }) (u := .int .i64 r.rule.drop) (i := i) (j := 4) bktC_len htl (List.getElem?_set_self (by simpa using hil)) (by omega) rfl
     have hf0 := chunk_fit (l := s.bkts) (i := i) (j := 2) (n := 3) bktC_len htl hil (by omega)
     refine draw_ok (N := 3000) (.take 0 (.take 1 (.take 2 (.take 3 (.take 4 (.take 5 (.take 6 (.alt 7 (.take 8 (.alt 9 .done .last)) .last)))))))) [2] (QOk_body _ _ _) follows_mixed (by kernel_rfl) (by kernel_rfl) ?_
     simp only [go_sem, simprocAttr]
     refine any_ok2 (N := 3000) (own_elem_does (id := 2) (m := i) rfl tySlice24 tySize42 rfl rfl (dk rfl) rfl hil) (QOk_body _ _ _) rfl (by first | exact .inl rfl | exact .inr ⟨_, _, rfl, rfl⟩) (by intro _ hK; first | (obtain ⟨_, _, _, _, rfl⟩ := hK; exact ⟨rfl, fun _ h => h⟩) | (obtain ⟨_, _, rfl⟩ := hK; exact ⟨rfl, fun _ h => h⟩) | (obtain ⟨_, _, _, _, _, _, rfl⟩ := hK; exact ⟨rfl, fun _ h => List.mem_cons_of_mem _ h⟩) | (obtain ⟨_, _, _, _, _, _, _, rfl⟩ := hK; exact ⟨rfl, fun _ h => List.mem_cons_of_mem _ h⟩) | (obtain rfl := hK; exact ⟨rfl, fun _ h => h⟩)) ?_
     rintro _ rfl
     simp only [go_sem, simprocAttr, hs0, hs1, hs2, hf0]
     obtain ⟨l2, hx2⟩ : ∃ m, m = (((s.bkts.set i { b with rule := { b.rule with pre := r.rule.pre } }).set i { b with rule := { r.rule with drop := b.rule.drop } }).set i { b with rule := r.rule }) := ⟨_, rfl⟩
     rw [← hx2]
     have hx3 : l2 = s.bkts.set i { b with rule := r.rule } := by rw [hx2] <;> simp only [List.set_set]
     clear hx2
     have hl2 : s.bkts.length = l2.length := by rw [hx3, List.length_set]
     have hm2 : l2.length + tl.length ≤ maxLen := by omega
     rw [hl2]
     refine chunkRow_ok (B1 := []) 5 l2.length bktC l2 tl rfl bktC_len htl rfl hm2 ?_
     refine rowsPerm_ok (R := ((ux.map UX.row).reverse ++ [uplRow uv ux, verRow vv vx, intRow gv s.gone, askRow qv s.queue, bktRow (.slice (some ⟨gb, 0, none⟩) l2.length (l2.length + tl.length)) l2])) ?_ ?_
     ·refine (List.perm_middle (l₁ := ((ux.map UX.row).reverse ++ [uplRow uv ux, verRow vv vx, intRow gv s.gone, askRow qv s.queue])) (l₂ := [])).symm.trans ?_
      rw [List.append_assoc]
      exact List.Perm.refl _
     simp only [go_sem, simprocAttr]
     refine fin_retH (G := G0) Tryz.results98 ?_
     simp only [go_sem, simprocAttr]
     intro aa w' _ hle
     have h0 := ho.mono (hle G0 (by simp))
     unfold setC
     rw [if_pos k3, if_pos he']
     have e9 : setBkt s i { b with rule := r.rule } = { s with bkts := l2 } := by rw [hx3]; rfl
     rw [e9]
     exact ⟨rfl, fun _ => ⟨⟨.slice (some ⟨gb, 0, none⟩) l2.length (l2.length + tl.length), qv, gv, vv, uv, vx, ux⟩, rfl, rfl, ⟨ho.vers, ho.upls, h0.vok, h0.uok⟩⟩⟩
  ·have k3 := of_decide_eq_false hk3
   refine Wb_mk (fun hr => ?_) (fun hr => ?_)
   ·refine fin_retH (G := G0) Tryz.results98 ?_
    simp only [go_sem, simprocAttr]
    intro aa w' _ _
    unfold setC
    rw [if_neg k3, if_pos hr]
    exact ⟨rfl, fun q => by simp at q⟩
   ·by_cases hn0 : r.n = 0
    ·have q0 : decide (r.n = 0) = true := decide_eq_true hn0
     simp only [go_sem, simprocAttr, q0]
     refine rowChunk_ok (R1 := ((ux.map UX.row).reverse ++ [uplRow uv ux, verRow vv vx, intRow gv s.gone, askRow qv s.queue])) (R2 := []) (v := .slice Ab s.bkts.length cb) (t := 42) (k := 5) (n := s.bkts.length) (f := bktC) (l := s.bkts) (by simp [bktRow]) bktC_len (by omega) (by omega) rfl fun gb tl hva hmx htl => ?_
     cases hva
     ·have hc1 := chunk_cell ((chunks_map bktC_len s.bkts).app htl) (m := i) (j := 1) (c := bktC b) (u := .int .i64 b.mode) (by rw [List.getElem?_append_left (by rw [List.length_map]; exact hil), List.getElem?_map, hbx]; rfl) rfl
      refine pk (own_elem_does (id := 2) (m := i) rfl tySlice24 tySize42 rfl rfl (dk rfl) rfl hil) ?_
      rintro _ rfl
      simp only [go_sem, simprocAttr, q0, hc1]
      refine Wb_mk (fun hm => ?_) (fun hm => ?_)
      ·refine fin_retH (G := G0) Tryz.results98 ?_
       simp only [go_sem, simprocAttr]
       intro aa w' _ _
       unfold setC
       rw [if_neg k3, if_neg (by rw [hr]; simp), if_pos (by rw [q0, hm]; rfl)]
       exact ⟨rfl, fun q => by simp at q⟩
      ·have h9 : (decide (r.n = 0) && !decide (b.mode = 0)) = false := by rw [q0, hm]; rfl
       have hs1 := chunk_setc (l := s.bkts) (x := b) (y := { b with mode := r.n }) (u := .int .i64 r.n) (i := i) (j := 1) bktC_len htl hbx (by omega) rfl
       have hf1 := chunk_fit (l := s.bkts) (i := i) (j := 1) (n := 1) bktC_len htl hil (by omega)
       refine draw_ok (N := 3000) (.take 0 (.take 1 (.take 2 (.take 3 (.take 4 (.take 5 (.take 6 (.alt 7 (.take 8 (.alt 9 .done .last)) .last)))))))) [2] (QOk_body _ _ _) follows_mixed (by kernel_rfl) (by kernel_rfl) ?_
       simp only [go_sem, simprocAttr]
       refine any_ok2 (N := 3000) (own_elem_does (id := 2) (m := i) rfl tySlice24 tySize42 rfl rfl (dk rfl) rfl hil) (QOk_body _ _ _) rfl (by first | exact .inl rfl | exact .inr ⟨_, _, rfl, rfl⟩) (by intro _ hK; first | (obtain ⟨_, _, _, _, rfl⟩ := hK; exact ⟨rfl, fun _ h => h⟩) | (obtain ⟨_, _, rfl⟩ := hK; exact ⟨rfl, fun _ h => h⟩) | (obtain ⟨_, _, _, _, _, _, rfl⟩ := hK; exact ⟨rfl, fun _ h => List.mem_cons_of_mem _ h⟩) | (obtain ⟨_, _, _, _, _, _, _, rfl⟩ := hK; exact ⟨rfl, fun _ h => List.mem_cons_of_mem _ h⟩) | (obtain rfl := hK; exact ⟨rfl, fun _ h => h⟩)) ?_
       rintro _ rfl
       simp only [go_sem, simprocAttr, hs1, hf1]
       obtain ⟨l2, hx2⟩ : ∃ m, m = (s.bkts.set i { b with mode := r.n }) := ⟨_, rfl⟩
       rw [← hx2]
       have hx3 : l2 = s.bkts.set i { b with mode := r.n } := by rw [hx2] <;> simp only [List.set_set]
       clear hx2
       have hl2 : s.bkts.length = l2.length := by rw [hx3, List.length_set]
       have hm2 : l2.length + tl.length ≤ maxLen := by omega
       rw [hl2]
       refine chunkRow_ok (B1 := []) 5 l2.length bktC l2 tl rfl bktC_len htl rfl hm2 ?_
       refine rowsPerm_ok (R := ((ux.map UX.row).reverse ++ [uplRow uv ux, verRow vv vx, intRow gv s.gone, askRow qv s.queue, bktRow (.slice (some ⟨gb, 0, none⟩) l2.length (l2.length + tl.length)) l2])) ?_ ?_
       ·refine (List.perm_middle (l₁ := ((ux.map UX.row).reverse ++ [uplRow uv ux, verRow vv vx, intRow gv s.gone, askRow qv s.queue])) (l₂ := [])).symm.trans ?_
        rw [List.append_assoc]
        exact List.Perm.refl _
       simp only [go_sem, simprocAttr]
       refine fin_retH (G := G0) Tryz.results98 ?_
       simp only [go_sem, simprocAttr]
       intro aa w' _ hle
       have h0 := ho.mono (hle G0 (by simp))
       unfold setC
       rw [if_neg k3, if_neg (by rw [hr]; simp), if_neg (fun q => by rw [h9] at q; cases q)]
       have e9 : setBkt s i { b with mode := r.n } = { s with bkts := l2 } := by rw [hx3]; rfl
       rw [e9]
       exact ⟨rfl, fun _ => ⟨⟨.slice (some ⟨gb, 0, none⟩) l2.length (l2.length + tl.length), qv, gv, vv, uv, vx, ux⟩, rfl, rfl, ⟨ho.vers, ho.upls, h0.vok, h0.uok⟩⟩⟩
    ·have q0 : decide (r.n = 0) = false := decide_eq_false hn0
     have h9 : (decide (r.n = 0) && !decide (b.mode = 0)) = false := by rw [q0]; rfl
     simp only [go_sem, simprocAttr, q0]
     refine rowChunk_ok (R1 := ((ux.map UX.row).reverse ++ [uplRow uv ux, verRow vv vx, intRow gv s.gone, askRow qv s.queue])) (R2 := []) (v := .slice Ab s.bkts.length cb) (t := 42) (k := 5) (n := s.bkts.length) (f := bktC) (l := s.bkts) (by simp [bktRow]) bktC_len (by omega) (by omega) rfl fun gb tl hva hmx htl => ?_
     cases hva
     ·skip
      have hs1 := chunk_setc (l := s.bkts) (x := b) (y := { b with mode := r.n }) (u := .int .i64 r.n) (i := i) (j := 1) bktC_len htl hbx (by omega) rfl
      have hf1 := chunk_fit (l := s.bkts) (i := i) (j := 1) (n := 1) bktC_len htl hil (by omega)
      refine draw_ok (N := 3000) (.take 0 (.take 1 (.take 2 (.take 3 (.take 4 (.take 5 (.take 6 (.alt 7 (.take 8 (.alt 9 .done .last)) .last)))))))) [2] (QOk_body _ _ _) follows_mixed (by kernel_rfl) (by kernel_rfl) ?_
      simp only [go_sem, simprocAttr]
      refine any_ok2 (N := 3000) (own_elem_does (id := 2) (m := i) rfl tySlice24 tySize42 rfl rfl (dk rfl) rfl hil) (QOk_body _ _ _) rfl (by first | exact .inl rfl | exact .inr ⟨_, _, rfl, rfl⟩) (by intro _ hK; first | (obtain ⟨_, _, _, _, rfl⟩ := hK; exact ⟨rfl, fun _ h => h⟩) | (obtain ⟨_, _, rfl⟩ := hK; exact ⟨rfl, fun _ h => h⟩) | (obtain ⟨_, _, _, _, _, _, rfl⟩ := hK; exact ⟨rfl, fun _ h => List.mem_cons_of_mem _ h⟩) | (obtain ⟨_, _, _, _, _, _, _, rfl⟩ := hK; exact ⟨rfl, fun _ h => List.mem_cons_of_mem _ h⟩) | (obtain rfl := hK; exact ⟨rfl, fun _ h => h⟩)) ?_
      rintro _ rfl
      simp only [go_sem, simprocAttr, hs1, hf1]
      obtain ⟨l2, hx2⟩ : ∃ m, m = (s.bkts.set i { b with mode := r.n }) := ⟨_, rfl⟩
      rw [← hx2]
      have hx3 : l2 = s.bkts.set i { b with mode := r.n } := by rw [hx2] <;> simp only [List.set_set]
      clear hx2
      have hl2 : s.bkts.length = l2.length := by rw [hx3, List.length_set]
      have hm2 : l2.length + tl.length ≤ maxLen := by omega
      rw [hl2]
      refine chunkRow_ok (B1 := []) 5 l2.length bktC l2 tl rfl bktC_len htl rfl hm2 ?_
      refine rowsPerm_ok (R := ((ux.map UX.row).reverse ++ [uplRow uv ux, verRow vv vx, intRow gv s.gone, askRow qv s.queue, bktRow (.slice (some ⟨gb, 0, none⟩) l2.length (l2.length + tl.length)) l2])) ?_ ?_
      ·refine (List.perm_middle (l₁ := ((ux.map UX.row).reverse ++ [uplRow uv ux, verRow vv vx, intRow gv s.gone, askRow qv s.queue])) (l₂ := [])).symm.trans ?_
       rw [List.append_assoc]
       exact List.Perm.refl _
      simp only [go_sem, simprocAttr]
      refine fin_retH (G := G0) Tryz.results98 ?_
      simp only [go_sem, simprocAttr]
      intro aa w' _ hle
      have h0 := ho.mono (hle G0 (by simp))
      unfold setC
      rw [if_neg k3, if_neg (by rw [hr]; simp), if_neg (fun q => by rw [h9] at q; cases q)]
      have e9 : setBkt s i { b with mode := r.n } = { s with bkts := l2 } := by rw [hx3]; rfl
      rw [e9]
      exact ⟨rfl, fun _ => ⟨⟨.slice (some ⟨gb, 0, none⟩) l2.length (l2.length + tl.length), qv, gv, vv, uv, vx, ux⟩, rfl, rfl, ⟨ho.vers, ho.upls, h0.vok, h0.uok⟩⟩⟩
end Go.Proofs.YtohdfcnjcpjdcaaGreat
