/- ask. Conditions: as each law states them. -/
import Derived.Test.YtohdfcnjcpjdcaaGreatS21w
namespace Go.Proofs.YtohdfcnjcpjdcaaGreat
open Go.RowKit
set_option linter.unusedSimpArgs false
set_option maxRecDepth 100000 in
set_option maxHeartbeats 4000000 in
theorem ask1_does {x a : Ask} {g : Nat} {G0 : GW} (hW : G0.Wf) (hb : BlkG G0 g [.int .i64 a.ver, .int .i64 a.days, .int .i64 a.cls]) :
  Calls Tryz.prog 132 #[.agg #[.int .i64 x.ver, .int .i64 x.days, .int .i64 x.cls], .pointer (some ⟨g, 0, none⟩)] G0.w (Ret G0 fun v _ => v = .bool (decide (x.ver = a.ver))) := by
 refine enterV (G := G0) (n := 9) 3000 [.c (.v (.agg #[.int .i64 x.ver, .int .i64 x.days, .int .i64 x.cls])), .c (.q 0 g 0 0)] [⟨0, g, 0, [.int .i64 a.ver, .int .i64 a.days, .int .i64 a.cls]⟩] hb.vw hW Tryz.func132 rfl Tryz.ntmps132 (by simp) ?_
 simp only [go_sem, simprocAttr]
 intro g1
 refine fin_ret (G := G0) Tryz.results132 ?_
 simp only [go_sem, simprocAttr]
 intro aa w' _ _
 rfl
/-- is a version a marker? -/
def markO : Option Ver → Bool
 | some v => v.marker
 | none => false
def askS (s : Sta) (a : Ask) : Int × Sta := if verIn s a.ver = false then (6, s) else if markO s.vers[verAt s a.ver]? = true then (3, s) else if tierAt s a.ver ≠ 2 then (12, s) else if (s.queue.any fun b => decide (b.ver = a.ver)) = true then (13, s)
 else if ((((decide (a.days < 1)) || decide (1000 < a.days)) || decide (a.cls < 0)) || decide (2 < a.cls)) = true then (2, s) else if (s.queue.length : Int) = 10 then (8, s) else (0, { s with queue := s.queue ++ [a] })
set_option maxRecDepth 100000 in
set_option maxHeartbeats 16000000 in
theorem ask_does {g : Nat} {s : Sta} {o : OwnSt} {a : Ask} {G0 : GW} (hW : G0.Wf) (hh : HandsOk G0.w (o.hands g s)) (hM : ∀ k, (o.hands g s).A k → G0.M k) (ho : o.Ok G0 s) (hu : s.vers.length ≤ 100) (hq : s.queue.length ≤ 1000) (hz : ∀ v ∈ s.vers, v.bucket.size ≤ maxLen ∧ v.key.size ≤ maxLen) (hvo : ∀ t, Ordered (ltVer t) s.vers) :
  Calls Tryz.prog 103 #[.pointer (some ⟨g, 0, none⟩), .agg #[.int .i64 a.ver, .int .i64 a.days, .int .i64 a.cls]] G0.w (RetH G0 (o.hands g s) (ChgT (askS s a))) := by
 have hml := max_le
 obtain ⟨bv, qv, gv, vv, uv, vx, ux⟩ := o
 obtain ⟨Av, cv, q1, _⟩ := row_form (hh.rows (verRow vv vx) (by simp [OwnSt.hands, OwnSt.rows])) (by show (12 : Nat) ≠ 0; decide)
 obtain rfl : vv = .slice Av vx.length cv := q1
 obtain ⟨Aq, cq, q2, _⟩ := row_form (hh.rows (askRow qv s.queue) (by simp [OwnSt.hands, OwnSt.rows])) (by show (3 : Nat) ≠ 0; decide)
 obtain rfl : qv = .slice Aq s.queue.length cq := q2
 have hve : s.vers = vx.map (·.1) := ho.vers
 have hvl : s.vers.length = vx.length := by rw [hve, List.length_map]
 have hzv : ∀ p ∈ vx, p.1.bucket.size ≤ maxLen ∧ p.1.key.size ≤ maxLen := fun p hp => hz p.1 (by rw [hve]; exact List.mem_map_of_mem hp)
 refine enterH (n := 81) 3000 ([.c (.p 0 g 0), .c (.v (.agg #[.int .i64 a.ver, .int .i64 a.days, .int .i64 a.cls]))]) ([⟨0, g, 30, [.v (.int .i64 s.next), .v (.int .i64 s.clock), .v bv, .v (.slice Av vx.length cv), .v uv, .v (.slice Aq s.queue.length cq), .v gv]⟩]) rfl hW hh hM Tryz.func103 rfl Tryz.ntmps103 (by simp) ?_
 simp only [go_sem, simprocAttr]
 intro g1
 refine draw_ok (N := 3000) (.take 0 (.take 1 (.take 2 (.take 3 (.take 4 (.alt 5 (.take 6 (.take 7 (.take 8 (.take 9 (.take 10 .done))))) .last)))))) [] (QOk_body _ _ _) follows_mixed (by kernel_rfl) (by kernel_rfl) ?_
 simp only [go_sem, simprocAttr, OwnSt.rows]
 refine anyc_ok (N := 3000) (call_does (fun r _ => r = .tuple #[.int .i64 (verAt s a.ver : Int), .bool (verIn s a.ver)]) rfl rfl (by kernel_rfl) rfl (dk rfl) (fun G hG => Ret.anyM (M' := (G.less ((ux.map UX.row).reverse ++ [uplRow uv ux, verRow (.slice Av vx.length cv) vx, intRow gv s.gone, askRow (.slice Aq s.queue.length cq) s.queue, bktRow bv s.bkts])).M) (version_does (G0 := G.less ((ux.map UX.row).reverse ++ [uplRow uv ux, verRow (.slice Av vx.length cv) vx, intRow gv s.gone, askRow (.slice Aq s.queue.length cq) s.queue, bktRow bv s.bkts])) (s := s) (hG.wf.less _) (by rw [hve]; exact vers_of (hG.sl (r := verRow (.slice Av vx.length cv) vx) (by simp) (by show (12 : Nat) ≠ 0; decide)) (fun p hp => (ho.vok p hp).mono ((hG.le G0 (by simp)).trans (GW.le_less _ _))) hzv) (hvo _) (by omega)))) (QOk_body _ _ _) rfl (by first | exact .inl rfl | exact .inr ⟨_, _, rfl, rfl⟩) ?_
 rintro _ ⟨_, G2, rfl, hn2, rfl⟩
 clear hn2
 simp only [go_sem, simprocAttr]
 refine Wb_mk (fun hin => ?_) (fun hin => ?_)
 ·have hin' := nt hin
  refine fin_retH (G := G0) Tryz.results103 ?_
  simp only [go_sem, simprocAttr]
  intro aa w' _ _
  unfold askS
  rw [if_pos hin']
  exact ⟨rfl, fun q => by simp at q⟩
 ·have hin' := nf hin
  obtain ⟨v, hv, _⟩ := hit_some hin'
  have hv' : s.vers[verAt s a.ver]? = some v := hv
  have hil : verAt s a.ver < vx.length := by rw [← hvl]; exact (List.getElem?_eq_some_iff.1 hv').1
  obtain ⟨⟨v0, sv⟩, hvx⟩ : ∃ p, vx[verAt s a.ver]? = some p := ⟨_, List.getElem?_eq_getElem hil⟩
  obtain rfl : v0 = v := by rw [hve, List.getElem?_map, hvx] at hv'; exact Option.some.inj hv'
  refine rowChunk_ok (R1 := (ux.map UX.row).reverse ++ [uplRow uv ux]) (R2 := [intRow gv s.gone, askRow (.slice Aq s.queue.length cq) s.queue, bktRow bv s.bkts]) (v := .slice Av vx.length cv) (t := 38) (k := 12) (n := vx.length) (f := verX) (l := vx) (by simp [verRow]) verX_len (by omega) (by omega) rfl fun gb tl hva hmx htl => ?_
  cases hva
  have hch : Chunks 12 (vx.map verX ++ tl) := (chunks_map verX_len vx).app htl
  have hcx : (vx.map verX ++ tl)[verAt s a.ver]? = some (verX (v0, sv)) := by rw [List.getElem?_append_left (by rw [List.length_map]; exact hil), List.getElem?_map, hvx]; rfl
  have hc4 := chunk_cell hch (j := 4) (u := .bool v0.marker) hcx rfl
  have hc7 := chunk_cell hch (j := 7) (u := .int .i64 v0.tier) hcx rfl
  have ht : tierAt s a.ver = v0.tier := by unfold tierAt; rw [hv']; rfl
  have hm : markO s.vers[verAt s a.ver]? = v0.marker := by rw [hv']; rfl
  have hinn : ¬ verIn s a.ver = false := by rw [hin']; simp
  simp only [go_sem, simprocAttr]
  refine pk (own_elem_does (id := 2) (m := verAt s a.ver) rfl tySlice25 tySize38 rfl rfl (dk rfl) rfl hil) ?_
  rintro _ rfl
  simp only [go_sem, simprocAttr, hc4]
  refine Wb_mk (fun hmk => ?_) (fun hmk => ?_)
  ·refine fin_retH (G := G0) Tryz.results103 ?_
   simp only [go_sem, simprocAttr]
   intro aa w' _ _
   unfold askS
   rw [if_neg hinn, if_pos (by rw [hm]; exact hmk)]
   exact ⟨rfl, fun q => by simp at q⟩
  ·refine pk (own_elem_does (id := 2) (m := verAt s a.ver) rfl tySlice25 tySize38 rfl rfl (dk rfl) rfl hil) ?_
   rintro _ rfl
   simp only [go_sem, simprocAttr, hc7]
   have hnm : ¬ markO s.vers[verAt s a.ver]? = true := by rw [hm, hmk]; simp
   refine Wb_mk (fun htr => ?_) (fun htr => ?_)
   ·refine fin_retH (G := G0) Tryz.results103 ?_
    simp only [go_sem, simprocAttr]
    intro aa w' _ _
    have : v0.tier ≠ 2 := of_decide_eq_false (nt htr)
    unfold askS
    rw [if_neg hinn, if_neg hnm, if_pos (by rw [ht]; exact this)]
    exact ⟨rfl, fun q => by simp at q⟩
   ·have htt : ¬ tierAt s a.ver ≠ 2 := by rw [ht]; exact fun q => q (of_decide_eq_true (nf htr))
    refine pk (call_does (fun r _ => r = .bool (s.queue.any fun b => decide (b.ver = a.ver))) rfl rfl (by kernel_rfl) rfl (dk rfl) (fun G hG => Ret.anyM (M' := ((G.less ((ux.map UX.row).reverse ++ [uplRow uv ux] ++ [intRow gv s.gone, askRow (.slice Aq s.queue.length cq) s.queue, bktRow bv s.bkts])).sub [g1]).M) (containsAsk_does (G0 := (G.less ((ux.map UX.row).reverse ++ [uplRow uv ux] ++ [intRow gv s.gone, askRow (.slice Aq s.queue.length cq) s.queue, bktRow bv s.bkts])).sub [g1]) (p := fun b => decide (b.ver = a.ver)) ((hG.wf.less _).sub _) (Sq.mono (asks_of (hG.sl (r := askRow (.slice Aq s.queue.length cq) s.queue) (by simp) (by show (3 : Nat) ≠ 0; decide))) askG_mono (GW.le_sub _ _)) (by kernel_rfl) (fun G' x hx hle hw => ask1_does hw (((hG.blkG (b := ⟨1, g1, 68, [.v (.int .i64 a.ver), .v (.int .i64 a.days), .v (.int .i64 a.cls)]⟩) (ks := [g1]) (by simp) (by simp)).mono (sub_less_le _ _ _)).mono hle))))) ?_
    rintro _ ⟨_, G5, rfl, hn5, rfl⟩
    clear hn5
    simp only [go_sem, simprocAttr]
    refine Wb_mk (fun htw => ?_) (fun htw => ?_)
    ·refine fin_retH (G := G0) Tryz.results103 ?_
     simp only [go_sem, simprocAttr]
     intro aa w' _ _
     unfold askS
     rw [if_neg hinn, if_neg hnm, if_neg htt, if_pos htw]
     exact ⟨rfl, fun q => by simp at q⟩
    ·refine Wb_mk (fun hr => ?_) (fun hr => ?_)
     ·refine fin_retH (G := G0) Tryz.results103 ?_
      simp only [go_sem, simprocAttr]
      intro aa w' _ _
      unfold askS
      rw [if_neg hinn, if_neg hnm, if_neg htt, if_neg (by rw [htw]; simp), if_pos hr]
      exact ⟨rfl, fun q => by simp at q⟩
     ·refine Wb_mk (fun hf => ?_) (fun hf => ?_)
      ·refine fin_retH (G := G0) Tryz.results103 ?_
       simp only [go_sem, simprocAttr]
       intro aa w' _ _
       unfold askS
       rw [if_neg hinn, if_neg hnm, if_neg htt, if_neg (by rw [htw]; simp), if_neg (by rw [hr]; simp), if_pos (of_decide_eq_true hf)]
       exact ⟨rfl, fun q => by simp at q⟩
      ·refine chunkRow_ok (B1 := []) 12 vx.length verX vx tl rfl verX_len htl rfl hmx ?_
       refine rowsPerm_ok (R := (ux.map UX.row).reverse ++ [uplRow uv ux, verRow (.slice (some ⟨gb, 0, none⟩) vx.length (vx.length + tl.length)) vx, intRow gv s.gone, askRow (.slice Aq s.queue.length cq) s.queue, bktRow bv s.bkts]) ?_ ?_
       ·refine (List.perm_middle (l₁ := (ux.map UX.row).reverse ++ [uplRow uv ux]) (l₂ := [intRow gv s.gone, askRow (.slice Aq s.queue.length cq) s.queue, bktRow bv s.bkts])).symm.trans ?_
        rw [List.append_assoc]
        exact List.Perm.refl _
       refine draw_ok (N := 3000) (.take 0 (.take 1 (.take 2 (.take 3 (.take 5 (.alt 4 (.alt 6 (.alt 7 (.take 8 (.take 9 (.alt 10 .done .last))) .last) .last) (.alt 6 (.alt 4 (.alt 7 (.take 8 (.take 9 (.alt 10 .done .last))) .last) .last) .last))))))) [0] (QOk_body _ _ _) follows_mixed (by kernel_rfl) (by kernel_rfl) ?_
       simp only [go_sem, simprocAttr]
       refine ⟨?_, fun g3 => ?_⟩
       ·intro g3
        refine any_ok2 (N := 3000) (append_does (R1 := (ux.map UX.row).reverse ++ [uplRow uv ux, verRow (.slice (some ⟨gb, 0, none⟩) vx.length (vx.length + tl.length)) vx, intRow gv s.gone]) (n := s.queue.length) (v := .slice Aq s.queue.length cq) (xs := s.queue.flatMap askC) (R2 := [bktRow bv s.bkts]) (news := askC a) rfl tySlice27 tyApp68 (by simp [askRow]) rfl rfl rfl (dk rfl) (by have := askC_one [a]; simpa using this) (by unfold maxLen; omega) (by omega) (fun G hG => tsl_blk hG (b := ⟨3, g3, 68, [.v (.int .i64 a.ver), .v (.int .i64 a.days), .v (.int .i64 a.cls)]⟩) (by simp) rfl (by unfold maxLen; omega))) (QOk_body _ _ _) rfl (by first | exact .inl rfl | exact .inr ⟨_, _, rfl, rfl⟩) (by intro _ hK; first | (obtain ⟨_, _, _, _, rfl⟩ := hK; exact ⟨rfl, fun _ h => h⟩) | (obtain ⟨_, _, rfl⟩ := hK; exact ⟨rfl, fun _ h => h⟩) | (obtain ⟨_, _, _, _, _, _, rfl⟩ := hK; exact ⟨rfl, fun _ h => List.mem_cons_of_mem _ h⟩) | (obtain ⟨_, _, _, _, _, _, _, rfl⟩ := hK; exact ⟨rfl, fun _ h => List.mem_cons_of_mem _ h⟩) | (obtain rfl := hK; exact ⟨rfl, fun _ h => h⟩)) ?_
        rintro _ ⟨A', c', rfl⟩
        simp only [go_sem, simprocAttr]
        refine fin_retH (G := G0) Tryz.results103 ?_
        simp only [go_sem, simprocAttr]
        intro aa w' _ hle
        have h0 := ho.mono (hle G0 (by simp))
        unfold askS
        rw [if_neg hinn, if_neg hnm, if_neg htt, if_neg (by rw [htw]; simp), if_neg (by rw [hr]; simp), if_neg (of_decide_eq_false hf)]
        refine ⟨rfl, fun _ => ⟨⟨bv, .slice A' (s.queue.length + 1) c', gv, .slice (some ⟨gb, 0, none⟩) vx.length (vx.length + tl.length), uv, vx, ux⟩, rfl, ?_, ⟨ho.vers, ho.upls, h0.vok, h0.uok⟩⟩⟩
        simp [OwnSt.rows, askRow]
       ·refine any_ok2 (N := 3000) (append_does (R1 := (ux.map UX.row).reverse ++ [uplRow uv ux, verRow (.slice (some ⟨gb, 0, none⟩) vx.length (vx.length + tl.length)) vx, intRow gv s.gone]) (n := s.queue.length) (v := .slice Aq s.queue.length cq) (xs := s.queue.flatMap askC) (R2 := [bktRow bv s.bkts]) (news := askC a) rfl tySlice27 tyApp68 (by simp [askRow]) rfl rfl rfl (dk rfl) (by have := askC_one [a]; simpa using this) (by unfold maxLen; omega) (by omega) (fun G hG => tsl_blk hG (b := ⟨3, g3, 68, [.v (.int .i64 a.ver), .v (.int .i64 a.days), .v (.int .i64 a.cls)]⟩) (by simp) rfl (by unfold maxLen; omega))) (QOk_body _ _ _) rfl (by first | exact .inl rfl | exact .inr ⟨_, _, rfl, rfl⟩) (by intro _ hK; first | (obtain ⟨_, _, _, _, rfl⟩ := hK; exact ⟨rfl, fun _ h => h⟩) | (obtain ⟨_, _, rfl⟩ := hK; exact ⟨rfl, fun _ h => h⟩) | (obtain ⟨_, _, _, _, _, _, rfl⟩ := hK; exact ⟨rfl, fun _ h => List.mem_cons_of_mem _ h⟩) | (obtain ⟨_, _, _, _, _, _, _, rfl⟩ := hK; exact ⟨rfl, fun _ h => List.mem_cons_of_mem _ h⟩) | (obtain rfl := hK; exact ⟨rfl, fun _ h => h⟩)) ?_
        rintro _ ⟨A', c', rfl⟩
        simp only [go_sem, simprocAttr]
        refine fin_retH (G := G0) Tryz.results103 ?_
        simp only [go_sem, simprocAttr]
        intro aa w' _ hle
        have h0 := ho.mono (hle G0 (by simp))
        unfold askS
        rw [if_neg hinn, if_neg hnm, if_neg htt, if_neg (by rw [htw]; simp), if_neg (by rw [hr]; simp), if_neg (of_decide_eq_false hf)]
        refine ⟨rfl, fun _ => ⟨⟨bv, .slice A' (s.queue.length + 1) c', gv, .slice (some ⟨gb, 0, none⟩) vx.length (vx.length + tl.length), uv, vx, ux⟩, rfl, ?_, ⟨ho.vers, ho.upls, h0.vok, h0.uok⟩⟩⟩
        simp [OwnSt.rows, askRow]
end Go.Proofs.YtohdfcnjcpjdcaaGreat
