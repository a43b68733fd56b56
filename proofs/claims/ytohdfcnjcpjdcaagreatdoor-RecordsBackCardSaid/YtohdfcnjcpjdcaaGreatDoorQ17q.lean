/- 'icehousekeep.RecordsBack' returns true for whatever raw numbers, byte and place. Conditions: none. -/
import Derived.Test.YtohdfcnjcpjdcaaGreatDoorQ16q
namespace Go.Proofs.YtohdfcnjcpjdcaaGreatDoor
open Go.RowKit
set_option linter.unusedSimpArgs false
theorem byteQ_of {n : Int} (h : (Lit.int .u8 n).wf = true) : ∃ b : UInt8, enc8 b = .int .u8 n := by
 have hm : 0 ≤ n ∧ n ≤ 255 := by
  simp [Lit.wf, IntKind.signed, IntKind.bits, IntKind.min, IntKind.max] at h
  omega
 refine ⟨UInt8.ofNat n.toNat, ?_⟩
 have e2 : ((UInt8.ofNat n.toNat).toNat : Int) = n := by
  rw [UInt8.toNat_ofNat']
  omega
 unfold enc8
 rw [e2]
set_option maxRecDepth 100000 in
set_option maxHeartbeats 16000000 in
theorem recordsBack_ret {w : World} (v0 : Value) (l0 : List Raw) (h0 : RawsG ⟨Non, w⟩ v0 l0) (b : UInt8) (n : Int) (hn : i64 n) (hK : KindsG ⟨Non, w⟩) :
  Calls Tryz.prog 3 #[v0, enc8 b, .int .i64 n] w (Ret ⟨Non, w⟩ fun v _ => v = .bool true) := by
 have hml := max_le
 obtain ⟨hok, _, hlen⟩ := stateS_recs l0 25
 obtain ⟨A0, c0, rfl, _, _⟩ := ScR.form h0
 obtain ⟨bn, hbn⟩ : ∃ bn : Int, enc8 b = .int .u8 bn := ⟨_, rfl⟩
 rw [hbn]
 refine enterS (G := ⟨Non, w⟩) (n := 98) 3000 (fun _ h => h.elim) Tryz.func3 rfl Tryz.ntmps3 (by simp) ?_
 simp only [go_sem, simprocAttr]
 refine pk (call_does (fun v G => ∃ sv ov, v = .tuple #[sv, ov] ∧ StaG G sv (stateS l0 25).1 ∧ RecsG G ov (stateS l0 25).2) rfl rfl (by kernel_rfl) rfl (dk rfl) (fun G hG => state_does (most := 25) hG.wf (ScR.mono h0 rawG_mono (hG.le ⟨Non, w⟩ (by simp))) (by omega))) ?_
 rintro _ ⟨_, G1, ⟨sv, ov, rfl, hs, ho⟩, hn1, rfl⟩
 clear hn1
 obtain ⟨A1, c1, A2, c2, A3, c3, A4, c4, A5, c5, rfl, hP⟩ := hs.form
 obtain ⟨s, hsd⟩ : ∃ s, s = (stateS l0 25).1 := ⟨_, rfl⟩
 obtain ⟨rs, hrd⟩ : ∃ rs, rs = (stateS l0 25).2 := ⟨_, rfl⟩
 rw [← hsd] at hP hs ⊢
 rw [← hrd] at ho hok hlen
 clear hsd hrd hs hP
 have hrx := ho.rx hok
 clear ho
 obtain ⟨Ao, co, rfl, hco1, hco2⟩ := Sq.form hrx
 have hln : rs.length < 256 := by omega
 obtain ⟨hel1, hel2⟩ := encR_len hok hln
 have hbk := decR_back hok hln
 have hmo := decR_more hok hln b
 have hto := fun n => decR_torn hok hln (n := n)
 have hen : (encR rs).2 = 0 := by rw [encR_B hok hln]
 simp only [go_sem, simprocAttr]
 intro g1
 refine pk (call_does (fun y G => ∃ bv, y = .tuple #[bv, .int .i64 (encR rs).2] ∧ ByG G bv (encR rs).1) rfl rfl (by kernel_rfl) rfl (dk rfl) (fun G hG => enc_does hG.wf (Sq.mono hrx rxCs_mono (hG.le G1 (by simp))) (BlkG.mono hK (hG.le ⟨Non, w⟩ (by simp))))) ?_
 rintro _ ⟨_, G2, ⟨bv, rfl, hbv⟩, hn2, rfl⟩
 clear hn2
 rw [hen]
 obtain ⟨l, hl⟩ : ∃ l, l = (encR rs).1 := ⟨_, rfl⟩
 rw [← hl] at hel1 hel2 hbk hmo hto hbv
 clear hl hen
 obtain ⟨Ab, cb, rfl, hcb1, hcb2⟩ := hbv.form
 simp only [go_sem, simprocAttr]
 refine pk (call_does (fun y G => ∃ ov, y = .tuple #[ov, .int .i64 (decR l).2] ∧ RxsG G ov (decR l).1) rfl rfl (by kernel_rfl) rfl (dk rfl) (fun G hG => dec_does hG.wf (hbv.mono (hG.le G2 (by simp))) (by omega) (BlkG.mono hK (hG.le ⟨Non, w⟩ (by simp))))) ?_
 rintro _ ⟨_, G3, ⟨ov3, rfl, ht⟩, hn3, rfl⟩
 clear hn3
 rw [hbk] at ht ⊢
 obtain ⟨Ag, cg, rfl, hcg1, hcg2⟩ := Sq.form ht
 simp only [go_sem, simprocAttr]
 refine row_ok 5 1 ?_
 refine pk (appendNil_does (R1 := []) (R2 := []) (m := l.length) (news := l.map enc8) rfl tySlice33 tyApp5 rfl rfl rfl (dk rfl) (by unfold maxLen; omega) (by omega) (fun G hG => Sl.sc (hbv.mono (hG.le G2 (by simp [St.rowsTo]))))) ?_
 rintro _ ⟨Ac, cc, rfl⟩
 simp only [go_sem, simprocAttr]
 intro g3
 refine pk (append_does (R1 := []) (R2 := []) (n := l.length) (v := .slice Ac l.length cc) (xs := l.map enc8) (news := [.int .u8 bn]) rfl tySlice33 tyApp5 rfl rfl rfl rfl (dk rfl) (fun u hu => by rw [List.mem_singleton.1 hu]; rfl) (by unfold maxLen; omega) (by omega) (fun G hG => tsl_blk hG List.mem_cons_self rfl (by unfold maxLen; omega))) ?_
 rintro _ ⟨A', c', rfl⟩
 simp only [go_sem, simprocAttr]
 refine read_ok (R1 := []) rfl (fun GB hleB hslB => ?_) (fun _ _ q => q) (by show (1 : Nat) ≠ 0; decide)
 simp only [St.seen, St.rowsTo, List.nil_append]
 have hb4 : ByG GB (.slice A' (l.length + 1) c') (l ++ [b]) := by
  have h9 : Sl GB 5 1 (l.length + 1) (.slice A' (l.length + 1) c') (l.map enc8 ++ [.int .u8 bn]) := hslB
  show Sl GB _ 1 (l ++ [b]).length _ ((l ++ [b]).map enc8)
  rw [List.map_append, List.length_append, List.map_cons, List.map_nil, hbn]
  exact h9
 have hl4 : (l ++ [b]).length = l.length + 1 := by rw [List.length_append]; rfl
 refine pk (call_does (fun y G => ∃ ov, y = .tuple #[ov, .int .i64 (decR (l ++ [b])).2] ∧ RxsG G ov (decR (l ++ [b])).1) rfl rfl (by kernel_rfl) rfl (dk rfl) (fun G hG => dec_does hG.wf (hb4.mono (hG.le GB (by simp))) (by omega) (BlkG.mono hK (hG.le ⟨Non, w⟩ (by simp))))) ?_
 rintro _ ⟨_, G4, ⟨ov4, rfl, ht4⟩, hn4, rfl⟩
 clear hn4
 rw [hmo]
 obtain ⟨A4', c4', rfl, _, _⟩ := Sq.form ht4
 clear ht4
 generalize (decR (l ++ [b])).1.length = n4
 simp only [go_sem, simprocAttr]
 have hmx : max (l.length : Int) 1 = (l.length : Int) := by omega
 rw [hmx]
 refine pk (call_does (fun y _ => y = .int .i64 (pick n (l.length : Int))) rfl rfl (by kernel_rfl) rfl (dk rfl) (fun G hG => picked_does hG.wf hn (by omega) (by omega))) ?_
 rintro _ ⟨_, G5, rfl, hn5, rfl⟩
 clear hn5
 have hpb := pick_bd n (l.length : Int) (by omega)
 obtain ⟨k, hk⟩ : ∃ k : Nat, pick n (l.length : Int) = (k : Int) := ⟨(pick n (l.length : Int)).toNat, by omega⟩
 rw [hk] at hpb ⊢
 clear hk
 simp only [go_sem, simprocAttr]
 refine pk (cutq_does (R := ByteG) (l := l) (m := k) rfl rfl tySlice33 tySize5 rfl ⟨_, _, rfl, by omega⟩ (dk rfl) (by omega) hcb1) ?_
 rintro _ ⟨Ak, hAk, rfl⟩
 have hlk : (l.take k).length = k := by rw [List.length_take]; omega
 have hb5 : ∀ G : GW, G2.Le G → ByG G (.slice Ak k cb) (l.take k) := fun G h => by_of_sq (hAk G (hbv.mono h).sq)
 simp only [go_sem, simprocAttr]
 refine pk (call_does (fun y G => ∃ ov, y = .tuple #[ov, .int .i64 (decR (l.take k)).2] ∧ RxsG G ov (decR (l.take k)).1) rfl rfl (by kernel_rfl) rfl (dk rfl) (fun G hG => dec_does hG.wf (hb5 _ (hG.le G2 (by simp))) (by omega) (BlkG.mono hK (hG.le ⟨Non, w⟩ (by simp))))) ?_
 rintro _ ⟨_, G6, ⟨ov6, rfl, ht6⟩, hn6, rfl⟩
 clear hn6
 rw [hto k (by omega)]
 obtain ⟨A6', c6', rfl, _, _⟩ := Sq.form ht6
 clear ht6
 generalize (decR (l.take k)).1.length = n6
 have qlen : decide ((rs.length : Int) = (rs.length : Int)) = true := decide_eq_true rfl
 simp only [go_sem, simprocAttr, qlen, Bool.not_true]
 refine loop_ok (N := 3000) (ι := Nat) (fun i => ⟨[(8, .c (.v (.slice Ao rs.length co))), (11, .c (.v (.slice Ag rs.length cg))), (75, .c (.v (.int .i64 (rs.length : Int)))), (76, .c (.v (.int .i64 (i : Int))))], [], [], [], [G3, G1, ⟨Non, w⟩], 2⟩)
  (fun i => i ≤ rs.length) (fun i => rs.length - i) (QOk_body _ _ _) 0 (Nat.zero_le _) (by simp only [go_sem, simprocAttr]; simp) ?_
 rintro i hi
 by_cases hlt : i < rs.length
 ·have q : decide ((i : Int) < (rs.length : Int)) = true := decide_eq_true (by omega)
  obtain ⟨r, hr⟩ : ∃ r, rs[i]? = some r := ⟨_, List.getElem?_eq_getElem hlt⟩
  have hrk := hok r (List.mem_of_getElem? hr)
  have hch := chk_iff.2 hrk
  simp only [go_sem, simprocAttr, q]
  refine preview_ok (R := RxCs) (kc := 29) hr (fun G hG => (Sq.mono hrx rxCs_mono (hG G1 (by simp))).sc) fun h1 o1 cs1 H1 hA hcl1 hcs1 hle1 => ?_
  subst hA
  obtain ⟨vs, ps, ss, rfl, hx, hfr, hdr⟩ := hcs1
  simp only [go_sem, simprocAttr]
  refine preview_ok (R := RxCs) (kc := 29) hr (fun G hG => (Sq.mono ht rxCs_mono (hG G3 (by simp))).sc) fun h2 o2 cs2 H2 hB hcl2 hcs2 hle2 => ?_
  subst hB
  obtain ⟨vs', ps', ss', rfl, hx', _, _⟩ := hcs2
  simp only [go_sem, simprocAttr]
  obtain ⟨X1, y1, rfl, _, _⟩ := Sq.form hx.v
  obtain ⟨X2, y2, rfl, _, _⟩ := Sq.form hx.p
  obtain ⟨X3, y3, rfl, _, _⟩ := Sq.form hx.s
  obtain ⟨Z1, z1, rfl, _, _⟩ := Sq.form hx'.v
  obtain ⟨Z2, z2, rfl, _, _⟩ := Sq.form hx'.p
  obtain ⟨Z3, z3, rfl, _, _⟩ := Sq.form hx'.s
  refine draw_ok (N := 3000) (.take 0 (.take 1 (.take 2 (.take 3 (.take 4 (.take 5 (.take 6 (.take 7 (.alt 8 (.take 9 (.take 10 (.take 11 (.take 12 (.take 13 (.take 14 (.alt 15 (.take 16 (.take 17 .done)) .last))))))) .last))))))))) [] (QOk_body _ _ _) follows_mixed (by kernel_rfl) (by kernel_rfl) ?_
  simp only [go_sem, simprocAttr, recV]
  refine take_elem 2 (m := i) rfl tySlice30 tySize50 rfl rfl (dk rfl) rfl hlt ?_
  simp only [go_sem, simprocAttr]
  refine take_elem 3 (m := i) rfl tySlice30 tySize50 rfl rfl (dk rfl) rfl hlt ?_
  simp only [go_sem, simprocAttr]
  refine anyc_ok (N := 3000) (call_does (fun y _ => y = .bool true) rfl rfl (by kernel_rfl) rfl (dk rfl) (fun G hG => sameRec_does hG.wf (hx.mono (hG.le H1 (by simp))) (hx'.mono (hG.le H2 (by simp))))) (QOk_body _ _ _) rfl (by first | exact .inl rfl | exact .inr ⟨_, _, rfl, rfl⟩) ?_
  rintro _ ⟨_, H3, rfl, hn7, rfl⟩
  clear hn7
  simp only [go_sem, simprocAttr]
  refine take_elem 2 (m := i) rfl tySlice30 tySize50 rfl rfl (dk rfl) rfl hlt ?_
  simp only [go_sem, simprocAttr]
  refine anyc_ok (N := 3000) (call_does (fun y _ => y = .int .i64 (chk r)) rfl rfl (by kernel_rfl) rfl (dk rfl) (fun G hG => chkRec_does hG.wf (hx.mono (hG.le H1 (by simp))) (BlkG.mono hK (hG.le ⟨Non, w⟩ (by simp))) hfr hdr)) (QOk_body _ _ _) rfl (by first | exact .inl rfl | exact .inr ⟨_, _, rfl, rfl⟩) ?_
  rintro _ ⟨_, H4, rfl, hn8, rfl⟩
  clear hn8
  rw [hch]
  simp only [go_sem, simprocAttr]
  exact ⟨by omega, again_ok (i + 1) hlt (by show rs.length - (i + 1) < rs.length - i; omega) (by simp only [go_sem, simprocAttr]; simp)⟩
 ·have q : decide ((i : Int) < (rs.length : Int)) = false := decide_eq_false (by omega)
  simp only [go_sem, simprocAttr, q]
  refine fin_ret (G := ⟨Non, w⟩) Tryz.results3 ?_
  simp only [go_sem, simprocAttr]
  intro aa w' _ hle
  rfl
theorem recordsBack_walk {w : World} (v0 : Value) (l0 : List Raw) (h0 : RawsG ⟨Non, w⟩ v0 l0) (b : Int) (hb : (Lit.int .u8 b).wf = true) (n : Int) (hn : i64 n) (hK : KindsG ⟨Non, w⟩) : Calls Tryz.prog 3 #[v0, .int .u8 b, .int .i64 n] w fun e w' => e = .returned (.bool true) ∧ Below w.heap.size w w' := by
 obtain ⟨b', hb'⟩ := byteQ_of hb
 rw [← hb']
 exact (recordsBack_ret v0 l0 h0 b' n hn hK).mono fun e w' ⟨v, he, hv, hc⟩ => ⟨by rw [he, hv], hc.below⟩
end Go.Proofs.YtohdfcnjcpjdcaaGreatDoor
