/- drop. Conditions: as each law states them. -/
import Derived.Test.YtohdfcnjcpjdcaaGreatS19w
namespace Go.Proofs.YtohdfcnjcpjdcaaGreat
open Go.RowKit
set_option linter.unusedSimpArgs false
/-- one cell of an element -/
theorem chunk_cell {k : Nat} {css : List (List Value)} (h : Chunks k css) {m j : Nat} {c : List Value} {u : Value} (hm : css[m]? = some c) (hu : c[j]? = some u) : (css.flatten.map SC.v)[m * k + j]? = some (.v u) := by
 have hj : j < k := by rw [← h c (List.mem_of_getElem? hm)]; exact (List.getElem?_eq_some_iff.1 hu).1
 rw [List.getElem?_map, flatten_at css h m j c hm hj, hu]
 rfl
def dropS (s : Sta) (at_ : Nat) (id : Int) : Sta := { forgetS s id with vers := s.vers.eraseIdx at_ }
set_option maxRecDepth 100000 in
set_option maxHeartbeats 16000000 in
theorem drop_does {g i : Nat} {s : Sta} {o : OwnSt} {v : Ver} {G0 : GW} (hW : G0.Wf) (hh : HandsOk G0.w (o.hands g s)) (hM : ∀ k, (o.hands g s).A k → G0.M k) (ho : o.Ok G0 s) (hq : s.queue.length ≤ 1000) (hn : s.vers.length ≤ 1000) (hv : s.vers[i]? = some v) :
  Calls Tryz.prog 101 #[.pointer (some ⟨g, 0, none⟩), .int .i64 (i : Int)] G0.w (RetH G0 (o.hands g s) fun v' css R G => v' = .tuple #[] ∧ ∃ o' : OwnSt, css = [o'.cells (dropS s i v.id)] ∧ R = o'.rows (dropS s i v.id) ∧ o'.Ok G (dropS s i v.id) ∧ ∃ A c, o'.vv = .slice A o'.vx.length c) := by
 have hml := max_le
 obtain ⟨bv, qv, gv, vv, uv, vx, ux⟩ := o
 obtain ⟨Av, cv, q1, _⟩ := row_form (hh.rows (verRow vv vx) (by simp [OwnSt.hands, OwnSt.rows])) (by show (12 : Nat) ≠ 0; decide)
 obtain rfl : vv = .slice Av vx.length cv := q1
 have hve : s.vers = vx.map (·.1) := ho.vers
 have hvl : s.vers.length = vx.length := by rw [hve, List.length_map]
 have hil : i < vx.length := by rw [← hvl]; exact (List.getElem?_eq_some_iff.1 hv).1
 obtain ⟨⟨v0, sv⟩, hvx⟩ : ∃ p, vx[i]? = some p := ⟨_, List.getElem?_eq_getElem hil⟩
 obtain rfl : v0 = v := by rw [hve, List.getElem?_map, hvx] at hv; exact Option.some.inj hv
 refine enterH (n := 25) 3000 ([.c (.p 0 g 0), .c (.v (.int .i64 (i : Int)))]) ([⟨0, g, 30, [.v (.int .i64 s.next), .v (.int .i64 s.clock), .v bv, .v (.slice Av vx.length cv), .v uv, .v qv, .v gv]⟩]) rfl hW hh hM Tryz.func101 rfl Tryz.ntmps101 (by simp) ?_
 simp only [go_sem, simprocAttr, OwnSt.rows]
 refine rowChunk_ok (R1 := (ux.map UX.row).reverse ++ [uplRow uv ux]) (R2 := [intRow gv s.gone, askRow qv s.queue, bktRow bv s.bkts]) (v := .slice Av vx.length cv) (t := 38) (k := 12) (n := vx.length) (f := verX) (l := vx) (by simp [verRow]) verX_len (by omega) (by omega) rfl fun gb tl hva hmx htl => ?_
 cases hva
 have hch : Chunks 12 (vx.map verX ++ tl) := (chunks_map verX_len vx).app htl
 have hc0 := chunk_cell hch (m := i) (j := 0) (c := verX (v0, sv)) (u := .int .i64 v0.id) (by rw [List.getElem?_append_left (by rw [List.length_map]; exact hil), List.getElem?_map, hvx]; rfl) rfl
 rw [Nat.add_zero] at hc0
 simp only [go_sem, simprocAttr]
 refine pk (own_elem_does (id := 1) (m := i) rfl tySlice25 tySize38 rfl rfl (dk rfl) rfl hil) ?_
 rintro _ rfl
 simp only [go_sem, simprocAttr, Nat.add_zero, hc0]
 refine chunkRow_ok (B1 := []) 12 vx.length verX vx tl rfl verX_len htl rfl hmx ?_
 refine rowsPerm_ok (R := (ux.map UX.row).reverse ++ [uplRow uv ux, verRow (.slice (some ⟨gb, 0, none⟩) vx.length (vx.length + tl.length)) vx, intRow gv s.gone, askRow qv s.queue, bktRow bv s.bkts]) ?_ ?_
 ·refine (List.perm_middle (l₁ := (ux.map UX.row).reverse ++ [uplRow uv ux]) (l₂ := [intRow gv s.gone, askRow qv s.queue, bktRow bv s.bkts])).symm.trans ?_
  rw [List.append_assoc]
  exact List.Perm.refl _
 simp only [go_sem, simprocAttr]
 refine pk (callH_does ([0]) ([]) (((ux.map UX.row).reverse ++ [uplRow uv ux, verRow (.slice (some ⟨gb, 0, none⟩) vx.length (vx.length + tl.length)) vx, intRow gv s.gone, askRow qv s.queue, bktRow bv s.bkts])) ([]) (fun r css R _ => r = .tuple #[] ∧ ∃ qv2, css = [OwnSt.cells (forgetS s v0.id) ⟨bv, qv2, gv, .slice (some ⟨gb, 0, none⟩) vx.length (vx.length + tl.length), uv, vx, ux⟩] ∧ R = OwnSt.rows (forgetS s v0.id) ⟨bv, qv2, gv, .slice (some ⟨gb, 0, none⟩) vx.length (vx.length + tl.length), uv, vx, ux⟩) upV rfl rfl (by kernel_rfl) rfl (dk rfl) rfl (by simp) (by simp [ids, Diff]) (by simp) (fun G hG hh hM => forget_does (s := s) (o := ⟨bv, qv, gv, .slice (some ⟨gb, 0, none⟩) vx.length (vx.length + tl.length), uv, vx, ux⟩) hG.wf hh hM hq) (fun v css R G _ _ => upV_den css)) ?_
 rintro _ ⟨_, css, _, G3, ⟨rfl, qv2, rfl, rfl⟩, hcs, hle, rfl⟩
 clear hcs hle
 simp only [go_sem, simprocAttr, OwnSt.rows]
 refine ⟨by omega, ?_⟩
 have h1 : ∀ u ∈ vx.flatMap verX, u.oneCell' = true := by
  intro u hu
  obtain ⟨p, hp, hu⟩ := List.mem_flatMap.1 hu
  obtain ⟨Ax, cx, e, _⟩ := Sq.form (ho.vok p hp)
  obtain ⟨pv, ps⟩ := p
  simp only at e
  subst e
  exact verX_one _ _ _ _ u hu
 refine pk (callH_does ([]) (((ux.map UX.row).reverse ++ [uplRow uv ux])) ([verRow (.slice (some ⟨gb, 0, none⟩) vx.length (vx.length + tl.length)) vx]) ([intRow gv (forgetS s v0.id).gone, askRow qv2 (forgetS s v0.id).queue, bktRow bv (forgetS s v0.id).bkts]) (fun r _ R _ => ∃ A c, r = .slice A (vx.length - 1) c ∧ R = [verRow (.slice A (vx.length - 1) c) (vx.eraseIdx i)]) upV rfl rfl (by kernel_rfl) rfl (dk rfl) rfl (by simp) (by simp [ids, Diff]) (by simp) (fun G hG hh hM => deleteVer_does (lv := .slice (some ⟨gb, 0, none⟩) vx.length (vx.length + tl.length)) hG.wf hh hM (by omega) hil h1) (fun v css R G _ _ => upV_den css)) ?_
 rintro _ ⟨_, css, _, G5, ⟨A9, c9, rfl, rfl⟩, hcs, hle, rfl⟩
 clear hcs hle
 simp only [go_sem, simprocAttr]
 refine fin_retH (G := G0) Tryz.results101 ?_
 simp only [go_sem, simprocAttr]
 intro aa w' _ hle
 have h0 := ho.mono (hle G0 (by simp))
 have hve2 : s.vers.eraseIdx i = (vx.eraseIdx i).map (·.1) := by rw [hve, List.eraseIdx_eq_take_drop_succ, List.eraseIdx_eq_take_drop_succ, List.map_append, List.map_take, List.map_drop]
 first
 | exact ⟨rfl, ⟨bv, qv2, gv, .slice A9 (vx.length - 1) c9, uv, vx.eraseIdx i, ux⟩, rfl, by simp [dropS, forgetS], ⟨hve2, ho.upls, fun p hp => h0.vok p (List.mem_of_mem_eraseIdx hp), h0.uok⟩, A9, c9, by rw [List.length_eraseIdx, if_pos hil]⟩
 | exact ⟨⟨bv, qv2, gv, .slice A9 (vx.length - 1) c9, uv, vx.eraseIdx i, ux⟩, rfl, by simp [dropS, forgetS], ⟨hve2, ho.upls, fun p hp => h0.vok p (List.mem_of_mem_eraseIdx hp), h0.uok⟩, A9, c9, by rw [List.length_eraseIdx, if_pos hil]⟩
end Go.Proofs.YtohdfcnjcpjdcaaGreat
