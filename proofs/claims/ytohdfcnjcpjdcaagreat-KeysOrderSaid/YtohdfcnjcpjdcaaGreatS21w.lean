/- come. Conditions: as each law states them. -/
import Derived.Test.YtohdfcnjcpjdcaaGreatS20w
namespace Go.Proofs.YtohdfcnjcpjdcaaGreat
open Go.RowKit
set_option linter.unusedSimpArgs false
/-- has a version no number of its own, and this one's key? -/
def nullLike (v x : Ver) : Bool := (x.null && (x.bucket.toList == v.bucket.toList)) && (x.key.toList == v.key.toList)
set_option maxRecDepth 100000 in
set_option maxHeartbeats 4000000 in
theorem come1_does {x v : Ver} {sx sv : Value} {g : Nat} {G0 : GW} (hW : G0.Wf) (hb : BlkG G0 g (verV v sv)) :
  Calls Tryz.prog 127 #[.agg (verV x sx).toArray, .pointer (some ⟨g, 0, none⟩)] G0.w (Ret G0 fun r _ => r = .bool (nullLike v x)) := by
 refine enterV (G := G0) (n := 20) 3000 [.c (.v (.agg (verV x sx).toArray)), .c (.q 0 g 0 0)] [⟨0, g, 0, verV v sv⟩] hb.vw hW Tryz.func127 rfl Tryz.ntmps127 (by simp) ?_
 simp only [go_sem, simprocAttr, verV]
 intro g1
 refine fin_ret (G := G0) Tryz.results127 ?_
 simp only [go_sem, simprocAttr]
 intro aa w' _ _
 rfl
theorem sub_less_le (G : GW) (R : List Rw) (ks : List Nat) : (G.sub ks).Le ((G.less R).sub ks) := ⟨Nat.le_refl _, fun _ _ h => ⟨rfl, fun q => h ⟨q.1.1, q.2⟩⟩⟩
theorem vers_of {G : GW} {v : Value} {l : List (Ver × Value)} (h : Sl G 38 12 l.length v (l.flatMap verX)) (hk : ∀ p ∈ l, VxOk G p) (hz : ∀ p ∈ l, p.1.bucket.size ≤ maxLen ∧ p.1.key.size ≤ maxLen) : VersG G v (l.map (·.1)) := by
 refine ⟨l.map verX, ⟨by simp, chunks_map verX_len l, fun i cs x h1 h2 => ?_⟩, by rw [List.length_map, ← List.flatMap_def]; exact h⟩
 rw [List.getElem?_map] at h1 h2
 cases hp : l[i]? with
 | none => rw [hp] at h2; cases h2
 | some p =>
  rw [hp] at h1 h2
  cases h1
  cases h2
  have hm := List.mem_of_getElem? hp
  exact ⟨p.2, rfl, hk p hm, hz p hm⟩
/-- the one without a number of its own goes -/
def nullS (s : Sta) (v : Ver) : Sta := if v.null = true ∧ 0 ≤ firstI (nullLike v) s.vers then (match s.vers[(firstI (nullLike v) s.vers).toNat]? with
 | some x => dropS s (firstI (nullLike v) s.vers).toNat x.id
 | none => s) else s
def comeS (s : Sta) (v : Ver) : Int × Sta := if (!decide (v.id = s.next) || decide (s.next = 1048576)) = true then (2, s) else if ((nullS s v).vers.length : Int) = 40 then (8, s) else
 (0, { nullS s v with next := (nullS s v).next + 1, vers := (nullS s v).vers ++ [v] })
set_option maxRecDepth 100000 in
set_option maxHeartbeats 16000000 in
theorem come_does {g : Nat} {s : Sta} {o : OwnSt} {v : Ver} {sv : Value} {G0 : GW} (hW : G0.Wf) (hh : HandsOk G0.w (o.hands g s)) (hM : ∀ k, (o.hands g s).A k → G0.M k) (ho : o.Ok G0 s) (hn0 : 0 ≤ s.next) (hn1 : s.next ≤ 1048576) (hu : s.vers.length ≤ 100) (hq : s.queue.length ≤ 1000) (hz : ∀ v ∈ s.vers, v.bucket.size ≤ maxLen ∧ v.key.size ≤ maxLen) (hsv : IntsG G0 sv v.secs) (hsl : v.secs.length ≤ 1000) :
  Calls Tryz.prog 99 #[.pointer (some ⟨g, 0, none⟩), .agg (verV v sv).toArray] G0.w (RetH G0 (o.hands g s) (ChgT (comeS s v))) := by
 have hml := max_le
 obtain ⟨bv, qv, gv, vv, uv, vx, ux⟩ := o
 obtain ⟨Av, cv, q1, _⟩ := row_form (hh.rows (verRow vv vx) (by simp [OwnSt.hands, OwnSt.rows])) (by show (12 : Nat) ≠ 0; decide)
 obtain rfl : vv = .slice Av vx.length cv := q1
 obtain ⟨Aw, cw, rfl, _⟩ := Sq.form hsv
 have hve : s.vers = vx.map (·.1) := ho.vers
 have hvl : s.vers.length = vx.length := by rw [hve, List.length_map]
 refine enterH (n := 60) 3000 ([.c (.p 0 g 0), .c (.v (.agg (verV v (.slice Aw v.secs.length cw)).toArray))]) ([⟨0, g, 30, [.v (.int .i64 s.next), .v (.int .i64 s.clock), .v bv, .v (.slice Av vx.length cv), .v uv, .v qv, .v gv]⟩]) rfl hW hh hM Tryz.func99 rfl Tryz.ntmps99 (by simp) ?_
 simp only [go_sem, simprocAttr, verV]
 intro g1
 refine draw_ok (N := 3000) (.take 0 (.take 1 (.take 2 (.take 3 (.take 4 (.take 5 (.take 6 (.take 7 (.take 8 (.take 9 (.take 10 (.take 11 (.take 12 (.take 13 .done)))))))))))))) [] (QOk_body _ _ _) follows_mixed (by kernel_rfl) (by kernel_rfl) ?_
 simp only [go_sem, simprocAttr]
 refine Wb_mk (fun h1 => ?_) (fun h1 => ?_)
 ·refine fin_retH (G := G0) Tryz.results99 ?_
  simp only [go_sem, simprocAttr]
  intro aa w' _ _
  unfold comeS
  rw [if_pos h1]
  exact ⟨rfl, fun q => by simp at q⟩
 ·refine Wb_mk (fun hnull => ?_) (fun hnull => ?_)
  ·simp only [go_sem, simprocAttr, OwnSt.rows]
   have hzv : ∀ p ∈ vx, p.1.bucket.size ≤ maxLen ∧ p.1.key.size ≤ maxLen := fun p hp => hz p.1 (by rw [hve]; exact List.mem_map_of_mem hp)
   refine pk (call_does (fun r _ => r = .int .i64 (firstI (nullLike v) s.vers)) rfl rfl (by kernel_rfl) rfl (dk rfl) (fun G hG => Ret.anyM (M' := ((G.less ((ux.map UX.row).reverse ++ [uplRow uv ux, verRow (.slice Av vx.length cv) vx, intRow gv s.gone, askRow qv s.queue, bktRow bv s.bkts])).sub [g1]).M) (indexVer_does (G0 := (G.less ((ux.map UX.row).reverse ++ [uplRow uv ux, verRow (.slice Av vx.length cv) vx, intRow gv s.gone, askRow qv s.queue, bktRow bv s.bkts])).sub [g1]) (l := s.vers) (p := nullLike v) ((hG.wf.less _).sub _) (by rw [hve]; exact Sq.mono (vers_of (hG.sl (r := verRow (.slice Av vx.length cv) vx) (by simp) (by show (12 : Nat) ≠ 0; decide)) (fun p hp => (ho.vok p hp).mono ((hG.le G0 (by simp)).trans (GW.le_less _ _))) hzv) verG_mono (GW.le_sub _ _)) (by kernel_rfl) (fun G' x sx hsx hb1 hb2 hx hle hw => come1_does hw (((hG.blkG (b := ⟨1, g1, 38, [.v (.int .i64 v.id), .v (.string v.bucket), .v (.string v.key), .v (.bool v.null), .v (.bool v.marker), .v (.int .i64 v.size), .v (.int .i64 v.time), .v (.int .i64 v.tier), .v (.slice Aw v.secs.length cw), .v (.int .i64 v.vol), .v (.int .i64 v.at_), .v (.int .i64 v.till)]⟩) (ks := [g1]) (by simp) (by simp)).mono (sub_less_le _ _ _)).mono hle))))) ?_
   rintro _ ⟨_, G2, rfl, hn2, rfl⟩
   clear hn2
   simp only [go_sem, simprocAttr]
   refine Wb_mk (fun hf => ?_) (fun hf => ?_)
   ·obtain ⟨i, x, hi, hx, hp, hno⟩ := firstI_some (of_decide_eq_true hf)
    have hs1 : nullS s v = dropS s i x.id := by
     unfold nullS
     rw [if_pos ⟨hnull, of_decide_eq_true hf⟩, hi]
     simp only [Int.toNat_natCast, hx]
    rw [hi]
    have hlt := (List.getElem?_eq_some_iff.1 hx).1
    refine pk (callH_does ([0]) ([]) (((ux.map UX.row).reverse ++ [uplRow uv ux, verRow (.slice Av vx.length cv) vx, intRow gv s.gone, askRow qv s.queue, bktRow bv s.bkts])) ([]) (fun r css R G => r = .tuple #[] ∧ ∃ o' : OwnSt, css = [o'.cells (dropS s i x.id)] ∧ R = o'.rows (dropS s i x.id) ∧ o'.Ok G (dropS s i x.id) ∧ ∃ A c, o'.vv = .slice A o'.vx.length c) upV rfl rfl (by kernel_rfl) rfl (dk rfl) rfl (by simp) (by simp [ids, Diff]) (by simp) (fun G hG hh hM => drop_does (s := s) (o := ⟨bv, qv, gv, .slice Av vx.length cv, uv, vx, ux⟩) hG.wf hh hM (ho.mono (hG.le G0 (by simp))) hq (by omega) hx) (fun v css R G _ _ => upV_den css)) ?_
    clear ho hve hvl hzv
    rintro _ ⟨_, css, _, G3, ⟨rfl, ⟨bv, qv, gv, vv, uv, vx, ux⟩, rfl, rfl, ho, Av, cv, hvv⟩, hcs, hle3, rfl⟩
    clear hcs hle3
    obtain rfl : vv = .slice Av vx.length cv := hvv
    have hve : (dropS s i x.id).vers = vx.map (·.1) := ho.vers
    have hvl : (dropS s i x.id).vers.length = vx.length := by rw [hve, List.length_map]
    have hnx : (dropS s i x.id).next = s.next := rfl
    have hvl2 : vx.length ≤ 100 := by
     rw [← hvl]
     show (s.vers.eraseIdx i).length ≤ 100
     rw [List.length_eraseIdx, if_pos hlt]
     omega
    have hlen1 : ((nullS s v).vers.length : Int) = (vx.length : Int) := by rw [hs1, hvl]
    simp only [go_sem, simprocAttr, OwnSt.rows]
    refine Wb_mk (fun h40 => ?_) (fun h40 => ?_)
    ·refine fin_retH (G := G0) Tryz.results99 ?_
     simp only [go_sem, simprocAttr]
     intro aa w' _ _
     unfold comeS
     rw [if_neg (by rw [h1]; simp), if_pos (by rw [hlen1]; simpa using h40)]
     exact ⟨rfl, fun q => by simp at q⟩
    ·refine ⟨by omega, ?_⟩
     refine pk (callH_does ([]) ([]) ([]) (((ux.map UX.row).reverse ++ [uplRow uv ux, verRow (.slice Av vx.length cv) vx, intRow gv (dropS s i x.id).gone, askRow qv (dropS s i x.id).queue, bktRow bv (dropS s i x.id).bkts])) (fun r _ R _ => (∃ A c, r = .slice A v.secs.length c ∧ R = [intRow (.slice A v.secs.length c) v.secs]) ∧ ∀ r ∈ R, ∀ k, rb r.v = some k → G0.w.heap.size ≤ k) upV rfl rfl (by kernel_rfl) rfl (dk rfl) rfl (by simp) (by simp [ids, Diff]) (by simp) (fun G hG hh hM => RetH.fresh G0.w.heap.size hG.chg.size (cloneInt_does hG.wf (hsv.mono (hG.le G0 (by simp))) (by omega))) (fun v css R G _ _ => upV_den css)) ?_
     rintro _ ⟨_, css, _, G7, ⟨⟨As, cas, rfl, rfl⟩, hfr⟩, hcs, hle, rfl⟩
     clear hcs hle
     simp only [go_sem, simprocAttr]
     refine read_ok (R1 := []) rfl (fun G8 hle8 hsl8 => ?_) (fun k e h => ?_) (by show (1 : Nat) ≠ 0; decide)
     ·have hsecs : IntsG G8 (.slice As v.secs.length cas) v.secs := sq_of_flat (f := intC) (fun _ _ => rfl) (fun _ => rfl) hsl8
      have hle08 : G0.Le G8 := hle8 G0 (by simp)
      clear hsl8 hle8
      refine draw_ok (N := 3000) (.take 0 (.take 1 (.take 2 (.take 3 (.take 5 (.alt 4 (.alt 6 (.alt 7 (.take 8 (.take 9 (.alt 10 .done .last))) .last) .last) (.alt 6 (.alt 4 (.alt 7 (.take 8 (.take 9 (.alt 10 .done .last))) .last) .last) .last))))))) [0] (QOk_body _ _ _) follows_mixed (by kernel_rfl) (by kernel_rfl) ?_
      simp only [go_sem, simprocAttr]
      refine ⟨?_, fun g2 => ?_⟩
      ·intro g2
       refine any_ok2 (N := 3000) (append_does (R1 := (ux.map UX.row).reverse ++ [uplRow uv ux]) (n := vx.length) (v := .slice Av vx.length cv) (xs := vx.flatMap verX) (R2 := [intRow gv (dropS s i x.id).gone, askRow qv (dropS s i x.id).queue, bktRow bv (dropS s i x.id).bkts]) (news := verX (v, .slice As v.secs.length cas)) rfl tySlice25 tyApp38 (by simp [verRow]) rfl rfl rfl (dk rfl) (verX_one _ _ _ _) (by unfold maxLen; omega) (by omega) (fun G hG => tsl_blk hG (b := ⟨2, g2, 38, [.v (.int .i64 v.id), .v (.string v.bucket), .v (.string v.key), .v (.bool v.null), .v (.bool v.marker), .v (.int .i64 v.size), .v (.int .i64 v.time), .v (.int .i64 v.tier), .v (.slice As v.secs.length cas), .v (.int .i64 v.vol), .v (.int .i64 v.at_), .v (.int .i64 v.till)]⟩) (by simp) rfl (by unfold maxLen; omega))) (QOk_body _ _ _) rfl (by first | exact .inl rfl | exact .inr ⟨_, _, rfl, rfl⟩) (by intro _ hK; first | (obtain ⟨_, _, _, _, rfl⟩ := hK; exact ⟨rfl, fun _ h => h⟩) | (obtain ⟨_, _, rfl⟩ := hK; exact ⟨rfl, fun _ h => h⟩) | (obtain ⟨_, _, _, _, _, _, rfl⟩ := hK; exact ⟨rfl, fun _ h => List.mem_cons_of_mem _ h⟩) | (obtain ⟨_, _, _, _, _, _, _, rfl⟩ := hK; exact ⟨rfl, fun _ h => List.mem_cons_of_mem _ h⟩) | (obtain rfl := hK; exact ⟨rfl, fun _ h => h⟩)) ?_
       rintro _ ⟨A', c', rfl⟩
       simp only [go_sem, simprocAttr]
       refine fin_retH (G := G0) Tryz.results99 ?_
       simp only [go_sem, simprocAttr]
       intro aa w' _ hle
       have h0 := ho.mono (hle G3 (by simp))
       have h8 := hle G8 (by simp)
       unfold comeS
       rw [if_neg (by rw [h1]; simp), if_neg (by rw [hlen1]; simpa using h40), hs1]
       refine ⟨rfl, fun _ => ⟨⟨bv, qv, gv, .slice A' (vx.length + 1) c', uv, vx ++ [(v, .slice As v.secs.length cas)], ux⟩, rfl, ?_, ⟨by rw [List.map_append]; exact congrArg (· ++ _) hve, ho.upls, fun p hp => ?_, h0.uok⟩⟩⟩
       ·simp [OwnSt.rows, verRow]
       ·rcases List.mem_append.1 hp with hp | hp
        ·exact h0.vok p hp
        ·rw [List.mem_singleton.1 hp]
         exact hsecs.mono h8
      ·refine any_ok2 (N := 3000) (append_does (R1 := (ux.map UX.row).reverse ++ [uplRow uv ux]) (n := vx.length) (v := .slice Av vx.length cv) (xs := vx.flatMap verX) (R2 := [intRow gv (dropS s i x.id).gone, askRow qv (dropS s i x.id).queue, bktRow bv (dropS s i x.id).bkts]) (news := verX (v, .slice As v.secs.length cas)) rfl tySlice25 tyApp38 (by simp [verRow]) rfl rfl rfl (dk rfl) (verX_one _ _ _ _) (by unfold maxLen; omega) (by omega) (fun G hG => tsl_blk hG (b := ⟨2, g2, 38, [.v (.int .i64 v.id), .v (.string v.bucket), .v (.string v.key), .v (.bool v.null), .v (.bool v.marker), .v (.int .i64 v.size), .v (.int .i64 v.time), .v (.int .i64 v.tier), .v (.slice As v.secs.length cas), .v (.int .i64 v.vol), .v (.int .i64 v.at_), .v (.int .i64 v.till)]⟩) (by simp) rfl (by unfold maxLen; omega))) (QOk_body _ _ _) rfl (by first | exact .inl rfl | exact .inr ⟨_, _, rfl, rfl⟩) (by intro _ hK; first | (obtain ⟨_, _, _, _, rfl⟩ := hK; exact ⟨rfl, fun _ h => h⟩) | (obtain ⟨_, _, rfl⟩ := hK; exact ⟨rfl, fun _ h => h⟩) | (obtain ⟨_, _, _, _, _, _, rfl⟩ := hK; exact ⟨rfl, fun _ h => List.mem_cons_of_mem _ h⟩) | (obtain ⟨_, _, _, _, _, _, _, rfl⟩ := hK; exact ⟨rfl, fun _ h => List.mem_cons_of_mem _ h⟩) | (obtain rfl := hK; exact ⟨rfl, fun _ h => h⟩)) ?_
       rintro _ ⟨A', c', rfl⟩
       simp only [go_sem, simprocAttr]
       refine fin_retH (G := G0) Tryz.results99 ?_
       simp only [go_sem, simprocAttr]
       intro aa w' _ hle
       have h0 := ho.mono (hle G3 (by simp))
       have h8 := hle G8 (by simp)
       unfold comeS
       rw [if_neg (by rw [h1]; simp), if_neg (by rw [hlen1]; simpa using h40), hs1]
       refine ⟨rfl, fun _ => ⟨⟨bv, qv, gv, .slice A' (vx.length + 1) c', uv, vx ++ [(v, .slice As v.secs.length cas)], ux⟩, rfl, ?_, ⟨by rw [List.map_append]; exact congrArg (· ++ _) hve, ho.upls, fun p hp => ?_, h0.uok⟩⟩⟩
       ·simp [OwnSt.rows, verRow]
       ·rcases List.mem_append.1 hp with hp | hp
        ·exact h0.vok p hp
        ·rw [List.mem_singleton.1 hp]
         exact hsecs.mono h8
     ·have e1 := hfr _ (by simp) k e
      have e2 := hW k (hM k h)
      omega
   ·have hs1 : nullS s v = s := by unfold nullS; rw [if_neg (fun q => by have := of_decide_eq_false hf; exact this q.2)]
    have hlen1 : ((nullS s v).vers.length : Int) = (vx.length : Int) := by rw [hs1, hvl]
    refine Wb_mk (fun h40 => ?_) (fun h40 => ?_)
    ·refine fin_retH (G := G0) Tryz.results99 ?_
     simp only [go_sem, simprocAttr]
     intro aa w' _ _
     unfold comeS
     rw [if_neg (by rw [h1]; simp), if_pos (by rw [hlen1]; simpa using h40)]
     exact ⟨rfl, fun q => by simp at q⟩
    ·refine ⟨by omega, ?_⟩
     refine pk (callH_does ([]) ([]) ([]) (((ux.map UX.row).reverse ++ [uplRow uv ux, verRow (.slice Av vx.length cv) vx, intRow gv s.gone, askRow qv s.queue, bktRow bv s.bkts])) (fun r _ R _ => (∃ A c, r = .slice A v.secs.length c ∧ R = [intRow (.slice A v.secs.length c) v.secs]) ∧ ∀ r ∈ R, ∀ k, rb r.v = some k → G0.w.heap.size ≤ k) upV rfl rfl (by kernel_rfl) rfl (dk rfl) rfl (by simp) (by simp [ids, Diff]) (by simp) (fun G hG hh hM => RetH.fresh G0.w.heap.size hG.chg.size (cloneInt_does hG.wf (hsv.mono (hG.le G0 (by simp))) (by omega))) (fun v css R G _ _ => upV_den css)) ?_
     rintro _ ⟨_, css, _, G7, ⟨⟨As, cas, rfl, rfl⟩, hfr⟩, hcs, hle, rfl⟩
     clear hcs hle
     simp only [go_sem, simprocAttr]
     refine read_ok (R1 := []) rfl (fun G8 hle8 hsl8 => ?_) (fun k e h => ?_) (by show (1 : Nat) ≠ 0; decide)
     ·have hsecs : IntsG G8 (.slice As v.secs.length cas) v.secs := sq_of_flat (f := intC) (fun _ _ => rfl) (fun _ => rfl) hsl8
      have hle08 : G0.Le G8 := hle8 G0 (by simp)
      clear hsl8 hle8
      refine draw_ok (N := 3000) (.take 0 (.take 1 (.take 2 (.take 3 (.take 5 (.alt 4 (.alt 6 (.alt 7 (.take 8 (.take 9 (.alt 10 .done .last))) .last) .last) (.alt 6 (.alt 4 (.alt 7 (.take 8 (.take 9 (.alt 10 .done .last))) .last) .last) .last))))))) [0] (QOk_body _ _ _) follows_mixed (by kernel_rfl) (by kernel_rfl) ?_
      simp only [go_sem, simprocAttr]
      refine ⟨?_, fun g2 => ?_⟩
      ·intro g2
       refine any_ok2 (N := 3000) (append_does (R1 := (ux.map UX.row).reverse ++ [uplRow uv ux]) (n := vx.length) (v := .slice Av vx.length cv) (xs := vx.flatMap verX) (R2 := [intRow gv s.gone, askRow qv s.queue, bktRow bv s.bkts]) (news := verX (v, .slice As v.secs.length cas)) rfl tySlice25 tyApp38 (by simp [verRow]) rfl rfl rfl (dk rfl) (verX_one _ _ _ _) (by unfold maxLen; omega) (by omega) (fun G hG => tsl_blk hG (b := ⟨2, g2, 38, [.v (.int .i64 v.id), .v (.string v.bucket), .v (.string v.key), .v (.bool v.null), .v (.bool v.marker), .v (.int .i64 v.size), .v (.int .i64 v.time), .v (.int .i64 v.tier), .v (.slice As v.secs.length cas), .v (.int .i64 v.vol), .v (.int .i64 v.at_), .v (.int .i64 v.till)]⟩) (by simp) rfl (by unfold maxLen; omega))) (QOk_body _ _ _) rfl (by first | exact .inl rfl | exact .inr ⟨_, _, rfl, rfl⟩) (by intro _ hK; first | (obtain ⟨_, _, _, _, rfl⟩ := hK; exact ⟨rfl, fun _ h => h⟩) | (obtain ⟨_, _, rfl⟩ := hK; exact ⟨rfl, fun _ h => h⟩) | (obtain ⟨_, _, _, _, _, _, rfl⟩ := hK; exact ⟨rfl, fun _ h => List.mem_cons_of_mem _ h⟩) | (obtain ⟨_, _, _, _, _, _, _, rfl⟩ := hK; exact ⟨rfl, fun _ h => List.mem_cons_of_mem _ h⟩) | (obtain rfl := hK; exact ⟨rfl, fun _ h => h⟩)) ?_
       rintro _ ⟨A', c', rfl⟩
       simp only [go_sem, simprocAttr]
       refine fin_retH (G := G0) Tryz.results99 ?_
       simp only [go_sem, simprocAttr]
       intro aa w' _ hle
       have h0 := ho.mono (hle G0 (by simp))
       have h8 := hle G8 (by simp)
       unfold comeS
       rw [if_neg (by rw [h1]; simp), if_neg (by rw [hlen1]; simpa using h40), hs1]
       refine ⟨rfl, fun _ => ⟨⟨bv, qv, gv, .slice A' (vx.length + 1) c', uv, vx ++ [(v, .slice As v.secs.length cas)], ux⟩, rfl, ?_, ⟨by rw [List.map_append]; exact congrArg (· ++ _) hve, ho.upls, fun p hp => ?_, h0.uok⟩⟩⟩
       ·simp [OwnSt.rows, verRow]
       ·rcases List.mem_append.1 hp with hp | hp
        ·exact h0.vok p hp
        ·rw [List.mem_singleton.1 hp]
         exact hsecs.mono h8
      ·refine any_ok2 (N := 3000) (append_does (R1 := (ux.map UX.row).reverse ++ [uplRow uv ux]) (n := vx.length) (v := .slice Av vx.length cv) (xs := vx.flatMap verX) (R2 := [intRow gv s.gone, askRow qv s.queue, bktRow bv s.bkts]) (news := verX (v, .slice As v.secs.length cas)) rfl tySlice25 tyApp38 (by simp [verRow]) rfl rfl rfl (dk rfl) (verX_one _ _ _ _) (by unfold maxLen; omega) (by omega) (fun G hG => tsl_blk hG (b := ⟨2, g2, 38, [.v (.int .i64 v.id), .v (.string v.bucket), .v (.string v.key), .v (.bool v.null), .v (.bool v.marker), .v (.int .i64 v.size), .v (.int .i64 v.time), .v (.int .i64 v.tier), .v (.slice As v.secs.length cas), .v (.int .i64 v.vol), .v (.int .i64 v.at_), .v (.int .i64 v.till)]⟩) (by simp) rfl (by unfold maxLen; omega))) (QOk_body _ _ _) rfl (by first | exact .inl rfl | exact .inr ⟨_, _, rfl, rfl⟩) (by intro _ hK; first | (obtain ⟨_, _, _, _, rfl⟩ := hK; exact ⟨rfl, fun _ h => h⟩) | (obtain ⟨_, _, rfl⟩ := hK; exact ⟨rfl, fun _ h => h⟩) | (obtain ⟨_, _, _, _, _, _, rfl⟩ := hK; exact ⟨rfl, fun _ h => List.mem_cons_of_mem _ h⟩) | (obtain ⟨_, _, _, _, _, _, _, rfl⟩ := hK; exact ⟨rfl, fun _ h => List.mem_cons_of_mem _ h⟩) | (obtain rfl := hK; exact ⟨rfl, fun _ h => h⟩)) ?_
       rintro _ ⟨A', c', rfl⟩
       simp only [go_sem, simprocAttr]
       refine fin_retH (G := G0) Tryz.results99 ?_
       simp only [go_sem, simprocAttr]
       intro aa w' _ hle
       have h0 := ho.mono (hle G0 (by simp))
       have h8 := hle G8 (by simp)
       unfold comeS
       rw [if_neg (by rw [h1]; simp), if_neg (by rw [hlen1]; simpa using h40), hs1]
       refine ⟨rfl, fun _ => ⟨⟨bv, qv, gv, .slice A' (vx.length + 1) c', uv, vx ++ [(v, .slice As v.secs.length cas)], ux⟩, rfl, ?_, ⟨by rw [List.map_append]; exact congrArg (· ++ _) hve, ho.upls, fun p hp => ?_, h0.uok⟩⟩⟩
       ·simp [OwnSt.rows, verRow]
       ·rcases List.mem_append.1 hp with hp | hp
        ·exact h0.vok p hp
        ·rw [List.mem_singleton.1 hp]
         exact hsecs.mono h8
     ·have e1 := hfr _ (by simp) k e
      have e2 := hW k (hM k h)
      omega
  ·have hs1 : nullS s v = s := by unfold nullS; rw [if_neg (by rw [hnull]; simp)]
   have hlen1 : ((nullS s v).vers.length : Int) = (vx.length : Int) := by rw [hs1, hvl]
   simp only [go_sem, simprocAttr, OwnSt.rows]
   refine Wb_mk (fun h40 => ?_) (fun h40 => ?_)
   ·refine fin_retH (G := G0) Tryz.results99 ?_
    simp only [go_sem, simprocAttr]
    intro aa w' _ _
    unfold comeS
    rw [if_neg (by rw [h1]; simp), if_pos (by rw [hlen1]; simpa using h40)]
    exact ⟨rfl, fun q => by simp at q⟩
   ·refine ⟨by omega, ?_⟩
    refine pk (callH_does ([]) ([]) ([]) (((ux.map UX.row).reverse ++ [uplRow uv ux, verRow (.slice Av vx.length cv) vx, intRow gv s.gone, askRow qv s.queue, bktRow bv s.bkts])) (fun r _ R _ => (∃ A c, r = .slice A v.secs.length c ∧ R = [intRow (.slice A v.secs.length c) v.secs]) ∧ ∀ r ∈ R, ∀ k, rb r.v = some k → G0.w.heap.size ≤ k) upV rfl rfl (by kernel_rfl) rfl (dk rfl) rfl (by simp) (by simp [ids, Diff]) (by simp) (fun G hG hh hM => RetH.fresh G0.w.heap.size hG.chg.size (cloneInt_does hG.wf (hsv.mono (hG.le G0 (by simp))) (by omega))) (fun v css R G _ _ => upV_den css)) ?_
    rintro _ ⟨_, css, _, G7, ⟨⟨As, cas, rfl, rfl⟩, hfr⟩, hcs, hle, rfl⟩
    clear hcs hle
    simp only [go_sem, simprocAttr]
    refine read_ok (R1 := []) rfl (fun G8 hle8 hsl8 => ?_) (fun k e h => ?_) (by show (1 : Nat) ≠ 0; decide)
    ·have hsecs : IntsG G8 (.slice As v.secs.length cas) v.secs := sq_of_flat (f := intC) (fun _ _ => rfl) (fun _ => rfl) hsl8
     have hle08 : G0.Le G8 := hle8 G0 (by simp)
     clear hsl8 hle8
     refine draw_ok (N := 3000) (.take 0 (.take 1 (.take 2 (.take 3 (.take 5 (.alt 4 (.alt 6 (.alt 7 (.take 8 (.take 9 (.alt 10 .done .last))) .last) .last) (.alt 6 (.alt 4 (.alt 7 (.take 8 (.take 9 (.alt 10 .done .last))) .last) .last) .last))))))) [0] (QOk_body _ _ _) follows_mixed (by kernel_rfl) (by kernel_rfl) ?_
     simp only [go_sem, simprocAttr]
     refine ⟨?_, fun g2 => ?_⟩
     ·intro g2
      refine any_ok2 (N := 3000) (append_does (R1 := (ux.map UX.row).reverse ++ [uplRow uv ux]) (n := vx.length) (v := .slice Av vx.length cv) (xs := vx.flatMap verX) (R2 := [intRow gv s.gone, askRow qv s.queue, bktRow bv s.bkts]) (news := verX (v, .slice As v.secs.length cas)) rfl tySlice25 tyApp38 (by simp [verRow]) rfl rfl rfl (dk rfl) (verX_one _ _ _ _) (by unfold maxLen; omega) (by omega) (fun G hG => tsl_blk hG (b := ⟨2, g2, 38, [.v (.int .i64 v.id), .v (.string v.bucket), .v (.string v.key), .v (.bool v.null), .v (.bool v.marker), .v (.int .i64 v.size), .v (.int .i64 v.time), .v (.int .i64 v.tier), .v (.slice As v.secs.length cas), .v (.int .i64 v.vol), .v (.int .i64 v.at_), .v (.int .i64 v.till)]⟩) (by simp) rfl (by unfold maxLen; omega))) (QOk_body _ _ _) rfl (by first | exact .inl rfl | exact .inr ⟨_, _, rfl, rfl⟩) (by intro _ hK; first | (obtain ⟨_, _, _, _, rfl⟩ := hK; exact ⟨rfl, fun _ h => h⟩) | (obtain ⟨_, _, rfl⟩ := hK; exact ⟨rfl, fun _ h => h⟩) | (obtain ⟨_, _, _, _, _, _, rfl⟩ := hK; exact ⟨rfl, fun _ h => List.mem_cons_of_mem _ h⟩) | (obtain ⟨_, _, _, _, _, _, _, rfl⟩ := hK; exact ⟨rfl, fun _ h => List.mem_cons_of_mem _ h⟩) | (obtain rfl := hK; exact ⟨rfl, fun _ h => h⟩)) ?_
      rintro _ ⟨A', c', rfl⟩
      simp only [go_sem, simprocAttr]
      refine fin_retH (G := G0) Tryz.results99 ?_
      simp only [go_sem, simprocAttr]
      intro aa w' _ hle
      have h0 := ho.mono (hle G0 (by simp))
      have h8 := hle G8 (by simp)
      unfold comeS
      rw [if_neg (by rw [h1]; simp), if_neg (by rw [hlen1]; simpa using h40), hs1]
      refine ⟨rfl, fun _ => ⟨⟨bv, qv, gv, .slice A' (vx.length + 1) c', uv, vx ++ [(v, .slice As v.secs.length cas)], ux⟩, rfl, ?_, ⟨by rw [List.map_append]; exact congrArg (· ++ _) hve, ho.upls, fun p hp => ?_, h0.uok⟩⟩⟩
      ·simp [OwnSt.rows, verRow]
      ·rcases List.mem_append.1 hp with hp | hp
       ·exact h0.vok p hp
       ·rw [List.mem_singleton.1 hp]
        exact hsecs.mono h8
     ·refine any_ok2 (N := 3000) (append_does (R1 := (ux.map UX.row).reverse ++ [uplRow uv ux]) (n := vx.length) (v := .slice Av vx.length cv) (xs := vx.flatMap verX) (R2 := [intRow gv s.gone, askRow qv s.queue, bktRow bv s.bkts]) (news := verX (v, .slice As v.secs.length cas)) rfl tySlice25 tyApp38 (by simp [verRow]) rfl rfl rfl (dk rfl) (verX_one _ _ _ _) (by unfold maxLen; omega) (by omega) (fun G hG => tsl_blk hG (b := ⟨2, g2, 38, [.v (.int .i64 v.id), .v (.string v.bucket), .v (.string v.key), .v (.bool v.null), .v (.bool v.marker), .v (.int .i64 v.size), .v (.int .i64 v.time), .v (.int .i64 v.tier), .v (.slice As v.secs.length cas), .v (.int .i64 v.vol), .v (.int .i64 v.at_), .v (.int .i64 v.till)]⟩) (by simp) rfl (by unfold maxLen; omega))) (QOk_body _ _ _) rfl (by first | exact .inl rfl | exact .inr ⟨_, _, rfl, rfl⟩) (by intro _ hK; first | (obtain ⟨_, _, _, _, rfl⟩ := hK; exact ⟨rfl, fun _ h => h⟩) | (obtain ⟨_, _, rfl⟩ := hK; exact ⟨rfl, fun _ h => h⟩) | (obtain ⟨_, _, _, _, _, _, rfl⟩ := hK; exact ⟨rfl, fun _ h => List.mem_cons_of_mem _ h⟩) | (obtain ⟨_, _, _, _, _, _, _, rfl⟩ := hK; exact ⟨rfl, fun _ h => List.mem_cons_of_mem _ h⟩) | (obtain rfl := hK; exact ⟨rfl, fun _ h => h⟩)) ?_
      rintro _ ⟨A', c', rfl⟩
      simp only [go_sem, simprocAttr]
      refine fin_retH (G := G0) Tryz.results99 ?_
      simp only [go_sem, simprocAttr]
      intro aa w' _ hle
      have h0 := ho.mono (hle G0 (by simp))
      have h8 := hle G8 (by simp)
      unfold comeS
      rw [if_neg (by rw [h1]; simp), if_neg (by rw [hlen1]; simpa using h40), hs1]
      refine ⟨rfl, fun _ => ⟨⟨bv, qv, gv, .slice A' (vx.length + 1) c', uv, vx ++ [(v, .slice As v.secs.length cas)], ux⟩, rfl, ?_, ⟨by rw [List.map_append]; exact congrArg (· ++ _) hve, ho.upls, fun p hp => ?_, h0.uok⟩⟩⟩
      ·simp [OwnSt.rows, verRow]
      ·rcases List.mem_append.1 hp with hp | hp
       ·exact h0.vok p hp
       ·rw [List.mem_singleton.1 hp]
        exact hsecs.mono h8
    ·have e1 := hfr _ (by simp) k e
     have e2 := hW k (hM k h)
     omega
end Go.Proofs.YtohdfcnjcpjdcaaGreat
