/- Copy: a state whose rows are the caller's own. Conditions: as each law states them. -/
import Derived.Test.YtohdfcnjcpjdcaaGreatS15w
namespace Go.Proofs.YtohdfcnjcpjdcaaGreat
open Go.RowKit
set_option linter.unusedSimpArgs false
/-- an upload in memory of the call's own: its slice of parts, and what they are with their sectors' slices -/
structure UX where
 u : Upl
 pv : Value
 px : List (Prt × Value)
def verX (p : Ver × Value) : List Value := verV p.1 p.2
def prtX (p : Prt × Value) : List Value := [.int .i64 p.1.n, .int .i64 p.1.size, p.2]
def uplX (x : UX) : List Value := [.int .i64 x.u.id, .string x.u.bucket, .string x.u.key, x.pv]
def verRow (v : Value) (l : List (Ver × Value)) : Rw := ⟨v, 38, 12, l.length, l.flatMap verX⟩
def prtRow (v : Value) (l : List (Prt × Value)) : Rw := ⟨v, 70, 3, l.length, l.flatMap prtX⟩
def uplRow (v : Value) (l : List UX) : Rw := ⟨v, 89, 4, l.length, l.flatMap uplX⟩
def UX.row (x : UX) : Rw := prtRow x.pv x.px
def VxOk (G : GW) (p : Ver × Value) : Prop := IntsG G p.2 p.1.secs
def PxOk (G : GW) (p : Prt × Value) : Prop := IntsG G p.2 p.1.secs
def UxOk (G : GW) (x : UX) : Prop := x.u.parts = x.px.map (·.1) ∧ ∀ p ∈ x.px, PxOk G p
/-- the rows of a state, with its cells -/
structure OwnSt where
 bv : Value
 qv : Value
 gv : Value
 vv : Value
 uv : Value
 vx : List (Ver × Value)
 ux : List UX
structure OwnSt.Ok (G : GW) (s : Sta) (o : OwnSt) : Prop where
 vers : s.vers = o.vx.map (·.1)
 upls : s.upls = o.ux.map (·.u)
 vok : ∀ p ∈ o.vx, VxOk G p
 uok : ∀ x ∈ o.ux, UxOk G x
def OwnSt.cells (s : Sta) (o : OwnSt) : List Value := [.int .i64 s.next, .int .i64 s.clock, o.bv, o.vv, o.uv, o.qv, o.gv]
def OwnSt.rows (s : Sta) (o : OwnSt) : List Rw := (o.ux.map UX.row).reverse ++ [uplRow o.uv o.ux, verRow o.vv o.vx, intRow o.gv s.gone, askRow o.qv s.queue, bktRow o.bv s.bkts]
theorem UxOk.mono {G G' : GW} {x : UX} (h : UxOk G x) (hl : G.Le G') : UxOk G' x := ⟨h.1, fun p hp => IntsG.mono (h.2 p hp) hl⟩
theorem VxOk.mono {G G' : GW} {x : Ver × Value} (h : VxOk G x) (hl : G.Le G') : VxOk G' x := IntsG.mono h hl
theorem PxOk.mono {G G' : GW} {x : Prt × Value} (h : PxOk G x) (hl : G.Le G') : PxOk G' x := IntsG.mono h hl
theorem verX_one (v : Ver) (A : Option Addr) (n c : Nat) : ∀ u ∈ verX (v, .slice A n c), u.oneCell' = true := by
 intro u hu
 simp only [verX, verV, List.mem_cons, List.not_mem_nil, or_false] at hu
 rcases hu with rfl | rfl | rfl | rfl | rfl | rfl | rfl | rfl | rfl | rfl | rfl | rfl <;> rfl
theorem prtX_one (v : Prt) (A : Option Addr) (n c : Nat) : ∀ u ∈ prtX (v, .slice A n c), u.oneCell' = true := by
 intro u hu
 simp only [prtX, List.mem_cons, List.not_mem_nil, or_false] at hu
 rcases hu with rfl | rfl | rfl <;> rfl
theorem uplX_one (u : Upl) (A : Option Addr) (n c : Nat) (px : List (Prt × Value)) : ∀ x ∈ uplX ⟨u, .slice A n c, px⟩, x.oneCell' = true := by
 intro x hx
 simp only [uplX, List.mem_cons, List.not_mem_nil, or_false] at hx
 rcases hx with rfl | rfl | rfl | rfl <;> rfl
theorem noA : ∀ k, ¬ Hands.A ⟨[], []⟩ k := fun k hk => by rcases hk with ⟨b, hb, _⟩ | ⟨r, hr, _⟩ <;> contradiction
set_option maxRecDepth 100000 in
set_option maxHeartbeats 32000000 in
theorem copy_does {s : Sta} {sv : Value} {G0 : GW} (hW : G0.Wf) (hs : StaG G0 sv s) (n1 : s.bkts.length ≤ 100) (n2 : s.vers.length ≤ 100) (n3 : s.upls.length ≤ 100) (n4 : s.queue.length ≤ 100) (n5 : s.gone.length ≤ 100) (n6 : ∀ u ∈ s.upls, u.parts.length ≤ 100) (n7 : ∀ v ∈ s.vers, v.secs.length ≤ 1000) (n8 : ∀ u ∈ s.upls, ∀ p ∈ u.parts, p.secs.length ≤ 1000) :
  Calls Tryz.prog 69 #[sv] G0.w (RetH G0 ⟨[], []⟩ fun v _ R G => ∃ o : OwnSt, v = .agg (o.cells s).toArray ∧ R = o.rows s ∧ o.Ok G s) := by
 obtain ⟨A1, c1, A2, c2, A3, c3, A4, c4, A5, c5, rfl, hP⟩ := hs.form
 have hml := max_le
 have hh : HandsOk G0.w ⟨[], []⟩ := ⟨fun b hb => (by cases hb), List.Pairwise.nil, fun r hr => (by cases hr), fun r hr => (by cases hr), List.Pairwise.nil⟩
 have hM : ∀ k, Hands.A ⟨[], []⟩ k → G0.M k := fun k hk => absurd hk (noA k)
 refine enterH (n := 76) 3000 ([.c (.v (.agg #[.int .i64 s.next, .int .i64 s.clock, .slice A1 s.bkts.length c1, .slice A2 s.vers.length c2, .slice A3 s.upls.length c3, .slice A4 s.queue.length c4, .slice A5 s.gone.length c5]))]) ([]) rfl hW hh hM Tryz.func69 rfl Tryz.ntmps69 (by simp) ?_
 simp only [go_sem, simprocAttr]
 intro g1 g2
 refine cut_code2 (N := 3000) (ι := (Option Addr × Nat) × (Option Addr × Nat) × (Option Addr × Nat) × Nat)
  (fun i => match i with | ((B1, b1), (B2, b2), (B3, b3), g3) => ⟨[(1, .c (.p 0 g1 0)), (2, .c (.p 1 g2 0)), (3, .c (.p 2 g3 0))],
   [⟨2, g3, 30, [.v (.int .i64 s.next), .v (.int .i64 s.clock), .v (.slice B1 s.bkts.length b1), .v (.slice none 0 0), .v (.slice none 0 0), .v (.slice B2 s.queue.length b2), .v (.slice B3 s.gone.length b3)]⟩, ⟨1, g2, 30, [.v (.int .i64 0), .v (.int .i64 0), .v (.slice none 0 0), .v (.slice none 0 0), .v (.slice none 0 0), .v (.slice none 0 0), .v (.slice none 0 0)]⟩, ⟨0, g1, 30, [.v (.int .i64 s.next), .v (.int .i64 s.clock), .v (.slice A1 s.bkts.length c1), .v (.slice A2 s.vers.length c2), .v (.slice A3 s.upls.length c3), .v (.slice A4 s.queue.length c4), .v (.slice A5 s.gone.length c5)]⟩], [intRow (.slice B3 s.gone.length b3) s.gone, askRow (.slice B2 s.queue.length b2) s.queue, bktRow (.slice B1 s.bkts.length b1) s.bkts], [], [G0], 3⟩)
  (fun _ => True) (QOk_body _ _ _) ?_ ?_
 rotate_left
 ·intro k' J hk' hJ
  refine draw_ok (N := 3000) (.take 0 (.take 1 (.take 2 (.take 3 (.take 4 (.take 5 (.take 7 (.take 8 (.take 10 (.take 11 (.alt 6 (.alt 9 (.alt 12 (.take 13 (.alt 14 (.alt 15 .done .last) .last)) (.alt 14 (.alt 12 (.take 13 (.alt 15 .done .last)) .last) .last)) (.alt 14 (.alt 9 (.alt 12 (.take 13 (.alt 15 .done .last)) .last) .last) .last)) (.alt 14 (.alt 6 (.alt 9 (.alt 12 (.take 13 (.alt 15 .done .last)) .last) .last) .last) .last)))))))))))) [] hk' follows_mixed (by kernel_rfl) (by kernel_rfl) ?_
  simp only [go_sem, simprocAttr]
  refine ⟨?_, fun g3 => ?_⟩
  ·refine anyH_ok (N := 3000) (callH_does [] [] [] [] (fun v _ R _ => ∃ A c, v = .slice A s.bkts.length c ∧ R = [bktRow (.slice A s.bkts.length c) s.bkts]) upV rfl rfl (by kernel_rfl) rfl (dk rfl) rfl rfl (by simp [ids, Diff]) (by simp) (fun G hG hh hM => cloneBkt_does hG.wf (Sq.mono hP.bkts bktG_mono (hG.le G0 (by simp))) (by omega)) (fun v css R G _ _ => upV_den css)) hk' rfl (by first | exact .inl rfl | exact .inr ⟨_, _, rfl, rfl⟩) ?_
   rintro _ ⟨_, _, G3, ⟨B1, b1, rfl, rfl⟩, hle1, rfl⟩
   clear hle1
   simp only [go_sem, simprocAttr]
   refine ⟨?_, fun g3 => ?_⟩
   ·refine anyH_ok (N := 3000) (callH_does [] [] [] [_] (fun v _ R _ => ∃ A c, v = .slice A s.queue.length c ∧ R = [askRow (.slice A s.queue.length c) s.queue]) upV rfl rfl (by kernel_rfl) rfl (dk rfl) rfl rfl (by simp [ids, Diff]) (by simp) (fun G hG hh hM => cloneAsk_does hG.wf (Sq.mono hP.queue askG_mono (hG.le G0 (by simp))) (by omega)) (fun v css R G _ _ => upV_den css)) hk' rfl (by first | exact .inl rfl | exact .inr ⟨_, _, rfl, rfl⟩) ?_
    rintro _ ⟨_, _, G4, ⟨B2, b2, rfl, rfl⟩, hle2, rfl⟩
    clear hle2
    simp only [go_sem, simprocAttr]
    refine ⟨?_, fun g3 => ?_⟩
    ·refine anyH_ok (N := 3000) (callH_does [] [] [] [_, _] (fun v _ R _ => ∃ A c, v = .slice A s.gone.length c ∧ R = [intRow (.slice A s.gone.length c) s.gone]) upV rfl rfl (by kernel_rfl) rfl (dk rfl) rfl rfl (by simp [ids, Diff]) (by simp) (fun G hG hh hM => cloneInt_does hG.wf (IntsG.mono hP.gone (hG.le G0 (by simp))) (by omega)) (fun v css R G _ _ => upV_den css)) hk' rfl (by first | exact .inl rfl | exact .inr ⟨_, _, rfl, rfl⟩) ?_
     rintro _ ⟨_, _, G5, ⟨B3, b3, rfl, rfl⟩, hle3, rfl⟩
     clear hle3
     simp only [go_sem, simprocAttr]
     intro g3
     exact hJ ((B1, b1), (B2, b2), (B3, b3), g3) _ trivial (by simp only [go_sem, simprocAttr]; simp)
    ·refine anyH_ok (N := 3000) (callH_does [] [] [] [_, _] (fun v _ R _ => ∃ A c, v = .slice A s.gone.length c ∧ R = [intRow (.slice A s.gone.length c) s.gone]) upV rfl rfl (by kernel_rfl) rfl (dk rfl) rfl rfl (by simp [ids, Diff]) (by simp) (fun G hG hh hM => cloneInt_does hG.wf (IntsG.mono hP.gone (hG.le G0 (by simp))) (by omega)) (fun v css R G _ _ => upV_den css)) hk' rfl (by first | exact .inl rfl | exact .inr ⟨_, _, rfl, rfl⟩) ?_
     rintro _ ⟨_, _, G5, ⟨B3, b3, rfl, rfl⟩, hle3, rfl⟩
     clear hle3
     simp only [go_sem, simprocAttr]
     exact hJ ((B1, b1), (B2, b2), (B3, b3), g3) _ trivial (by simp only [go_sem, simprocAttr]; simp)
   ·refine anyH_ok (N := 3000) (callH_does [] [] [] [_] (fun v _ R _ => ∃ A c, v = .slice A s.queue.length c ∧ R = [askRow (.slice A s.queue.length c) s.queue]) upV rfl rfl (by kernel_rfl) rfl (dk rfl) rfl rfl (by simp [ids, Diff]) (by simp) (fun G hG hh hM => cloneAsk_does hG.wf (Sq.mono hP.queue askG_mono (hG.le G0 (by simp))) (by omega)) (fun v css R G _ _ => upV_den css)) hk' rfl (by first | exact .inl rfl | exact .inr ⟨_, _, rfl, rfl⟩) ?_
    rintro _ ⟨_, _, G4, ⟨B2, b2, rfl, rfl⟩, hle2, rfl⟩
    clear hle2
    simp only [go_sem, simprocAttr]
    refine anyH_ok (N := 3000) (callH_does [] [] [] [_, _] (fun v _ R _ => ∃ A c, v = .slice A s.gone.length c ∧ R = [intRow (.slice A s.gone.length c) s.gone]) upV rfl rfl (by kernel_rfl) rfl (dk rfl) rfl rfl (by simp [ids, Diff]) (by simp) (fun G hG hh hM => cloneInt_does hG.wf (IntsG.mono hP.gone (hG.le G0 (by simp))) (by omega)) (fun v css R G _ _ => upV_den css)) hk' rfl (by first | exact .inl rfl | exact .inr ⟨_, _, rfl, rfl⟩) ?_
    rintro _ ⟨_, _, G5, ⟨B3, b3, rfl, rfl⟩, hle3, rfl⟩
    clear hle3
    simp only [go_sem, simprocAttr]
    exact hJ ((B1, b1), (B2, b2), (B3, b3), g3) _ trivial (by simp only [go_sem, simprocAttr]; simp)
  ·refine anyH_ok (N := 3000) (callH_does [] [] [] [] (fun v _ R _ => ∃ A c, v = .slice A s.bkts.length c ∧ R = [bktRow (.slice A s.bkts.length c) s.bkts]) upV rfl rfl (by kernel_rfl) rfl (dk rfl) rfl rfl (by simp [ids, Diff]) (by simp) (fun G hG hh hM => cloneBkt_does hG.wf (Sq.mono hP.bkts bktG_mono (hG.le G0 (by simp))) (by omega)) (fun v css R G _ _ => upV_den css)) hk' rfl (by first | exact .inl rfl | exact .inr ⟨_, _, rfl, rfl⟩) ?_
   rintro _ ⟨_, _, G3, ⟨B1, b1, rfl, rfl⟩, hle1, rfl⟩
   clear hle1
   simp only [go_sem, simprocAttr]
   refine anyH_ok (N := 3000) (callH_does [] [] [] [_] (fun v _ R _ => ∃ A c, v = .slice A s.queue.length c ∧ R = [askRow (.slice A s.queue.length c) s.queue]) upV rfl rfl (by kernel_rfl) rfl (dk rfl) rfl rfl (by simp [ids, Diff]) (by simp) (fun G hG hh hM => cloneAsk_does hG.wf (Sq.mono hP.queue askG_mono (hG.le G0 (by simp))) (by omega)) (fun v css R G _ _ => upV_den css)) hk' rfl (by first | exact .inl rfl | exact .inr ⟨_, _, rfl, rfl⟩) ?_
   rintro _ ⟨_, _, G4, ⟨B2, b2, rfl, rfl⟩, hle2, rfl⟩
   clear hle2
   simp only [go_sem, simprocAttr]
   refine anyH_ok (N := 3000) (callH_does [] [] [] [_, _] (fun v _ R _ => ∃ A c, v = .slice A s.gone.length c ∧ R = [intRow (.slice A s.gone.length c) s.gone]) upV rfl rfl (by kernel_rfl) rfl (dk rfl) rfl rfl (by simp [ids, Diff]) (by simp) (fun G hG hh hM => cloneInt_does hG.wf (IntsG.mono hP.gone (hG.le G0 (by simp))) (by omega)) (fun v css R G _ _ => upV_den css)) hk' rfl (by first | exact .inl rfl | exact .inr ⟨_, _, rfl, rfl⟩) ?_
   rintro _ ⟨_, _, G5, ⟨B3, b3, rfl, rfl⟩, hle3, rfl⟩
   clear hle3
   simp only [go_sem, simprocAttr]
   exact hJ ((B1, b1), (B2, b2), (B3, b3), g3) _ trivial (by simp only [go_sem, simprocAttr]; simp)
 ·rintro ⟨⟨B1, b1⟩, ⟨B2, b2⟩, ⟨B3, b3⟩, g3⟩ _
  simp only
  simp only [go_sem, simprocAttr]
  refine row_ok 38 12 ?_
  refine loop_ok (N := 3000) (ι := Option Addr × Nat × List (Ver × Value) × GW) (fun i => match i with | (A, c, vx, G) => ⟨[(1, .c (.p 0 g1 0)), (2, .c (.p 1 g2 0)), (3, .c (.p 2 g3 0)), (26, .c (.v (.slice A2 s.vers.length c2))), (27, .c (.v (.int .i64 (s.vers.length : Int)))), (28, .c (.v (.int .i64 (vx.length : Int))))],
    [⟨2, g3, 30, [.v (.int .i64 s.next), .v (.int .i64 s.clock), .v (.slice B1 s.bkts.length b1), .v (.slice A vx.length c), .v (.slice none 0 0), .v (.slice B2 s.queue.length b2), .v (.slice B3 s.gone.length b3)]⟩, ⟨1, g2, 30, [.v (.int .i64 0), .v (.int .i64 0), .v (.slice none 0 0), .v (.slice none 0 0), .v (.slice none 0 0), .v (.slice none 0 0), .v (.slice none 0 0)]⟩, ⟨0, g1, 30, [.v (.int .i64 s.next), .v (.int .i64 s.clock), .v (.slice A1 s.bkts.length c1), .v (.slice A2 s.vers.length c2), .v (.slice A3 s.upls.length c3), .v (.slice A4 s.queue.length c4), .v (.slice A5 s.gone.length c5)]⟩], [verRow (.slice A vx.length c) vx, intRow (.slice B3 s.gone.length b3) s.gone, askRow (.slice B2 s.queue.length b2) s.queue, bktRow (.slice B1 s.bkts.length b1) s.bkts], [], [G, G0], 3⟩)
   (fun i => match i with | (A, c, vx, G) => vx.length ≤ s.vers.length ∧ vx.map (·.1) = s.vers.take vx.length ∧ ∀ p ∈ vx, VxOk G p)
   (fun i => s.vers.length - i.2.2.1.length) (QOk_body _ _ _) (none, 0, [], G0) ⟨by simp, by simp, by simp⟩ (by simp only [go_sem, simprocAttr, verRow]; simp) ?_
  rintro ⟨A, c, vx, G1⟩ ⟨hi, hpre, hok⟩
  simp only
  by_cases hlt : vx.length < s.vers.length
  ·have q1 : decide ((vx.length : Int) < (s.vers.length : Int)) = true := decide_eq_true (by omega)
   obtain ⟨v, hv⟩ : ∃ v, s.vers[vx.length]? = some v := ⟨_, List.getElem?_eq_getElem hlt⟩
   have hvm : v ∈ s.vers := List.mem_of_getElem? hv
   simp only [go_sem, simprocAttr, q1]
   refine pk (elem_does (R := VerG) (l := s.vers) (m := vx.length) rfl tySlice25 tySize38 rfl rfl (dk rfl) rfl hv (fun G hG => Sq.mono hP.vers verG_mono (hG.le G0 (by simp)))) ?_
   rintro _ ⟨g4, o', cs, G2, hcl, ⟨sv, rfl, hsv, hk1, hk2⟩, rfl⟩
   obtain ⟨Aw, cw, rfl, _⟩ := Sq.form hsv
   simp only [go_sem, simprocAttr, verV]
   intro g5
   refine pk (callH_does ([]) ([]) ([]) ([_, _, _, _]) (fun r _ R _ => ∃ A c, r = .slice A v.secs.length c ∧ R = [intRow (.slice A v.secs.length c) v.secs]) upV rfl rfl (by kernel_rfl) rfl (dk rfl) rfl rfl (by simp [ids, Diff]) (by simp) (fun G hG hh hM => cloneInt_does hG.wf (hsv.mono (hG.le G2 (by simp))) (by have := n7 v hvm; omega)) (fun v css R G _ _ => upV_den css)) ?_
   rintro _ ⟨_, css, _, G3, ⟨As, cas, rfl, rfl⟩, hcs, hle, rfl⟩
   clear hcs hle
   simp only [go_sem, simprocAttr]
   intro g6
   refine read_ok (R1 := []) rfl (fun G4 hle4 hsl => ?_) (fun k _ h => noA k h) (by show (1 : Nat) ≠ 0; decide)
   have hsecs : IntsG G4 (.slice As v.secs.length cas) v.secs := sq_of_flat (f := intC) (fun _ _ => rfl) (fun _ => rfl) hsl
   have hle1 : G1.Le G4 := hle4 G1 (by simp)
   clear hsl hle4
   simp only [go_sem, simprocAttr]
   refine pk (append_does (R1 := []) (news := verX (v, .slice As v.secs.length cas)) rfl tySlice25 tyApp38 rfl rfl rfl rfl (dk rfl) (verX_one v _ _ _) (by unfold maxLen; omega) (by omega) (fun G hG => tsl_blk hG (b := ⟨5, g6, 38, [.v (.int .i64 v.id), .v (.string v.bucket), .v (.string v.key), .v (.bool v.null), .v (.bool v.marker), .v (.int .i64 v.size), .v (.int .i64 v.time), .v (.int .i64 v.tier), .v (.slice As v.secs.length cas), .v (.int .i64 v.vol), .v (.int .i64 v.at_), .v (.int .i64 v.till)]⟩) (by simp) rfl (by unfold maxLen; omega))) ?_
   rintro _ ⟨A', c', rfl⟩
   simp only [go_sem, simprocAttr]
   refine ⟨by omega, ?_⟩
   refine again_ok (A', c', vx ++ [(v, .slice As v.secs.length cas)], G4) ⟨by simp; omega, ?_, fun p hp => ?_⟩ (by simp; omega) (by simp only [go_sem, simprocAttr, verRow]; simp)
   ·rw [List.map_append, hpre, List.length_append, List.take_add, List.map_cons, List.map_nil, drop_cons hv]
    rfl
   ·rcases List.mem_append.1 hp with hp | hp
    ·exact (hok p hp).mono hle1
    ·rw [List.mem_singleton.1 hp]
     exact hsecs
  ·have q1 : decide ((vx.length : Int) < (s.vers.length : Int)) = false := decide_eq_false (by omega)
   have hvl : vx.length = s.vers.length := by omega
   have hve : s.vers = vx.map (·.1) := by rw [hpre, hvl, List.take_length]
   simp only [go_sem, simprocAttr, q1]
   refine row_ok 89 4 ?_
   refine loop_ok (N := 3000) (ι := Option Addr × Nat × List UX × GW) (fun i => match i with | (Au, cu, ux, G) => ⟨[(1, .c (.p 0 g1 0)), (2, .c (.p 1 g2 0)), (3, .c (.p 2 g3 0)), (44, .c (.v (.slice A3 s.upls.length c3))), (45, .c (.v (.int .i64 (s.upls.length : Int)))), (46, .c (.v (.int .i64 (ux.length : Int))))],
     [⟨2, g3, 30, [.v (.int .i64 s.next), .v (.int .i64 s.clock), .v (.slice B1 s.bkts.length b1), .v (.slice A vx.length c), .v (.slice Au ux.length cu), .v (.slice B2 s.queue.length b2), .v (.slice B3 s.gone.length b3)]⟩, ⟨1, g2, 30, [.v (.int .i64 0), .v (.int .i64 0), .v (.slice none 0 0), .v (.slice none 0 0), .v (.slice none 0 0), .v (.slice none 0 0), .v (.slice none 0 0)]⟩, ⟨0, g1, 30, [.v (.int .i64 s.next), .v (.int .i64 s.clock), .v (.slice A1 s.bkts.length c1), .v (.slice A2 s.vers.length c2), .v (.slice A3 s.upls.length c3), .v (.slice A4 s.queue.length c4), .v (.slice A5 s.gone.length c5)]⟩], (ux.map UX.row).reverse ++ [uplRow (.slice Au ux.length cu) ux, verRow (.slice A vx.length c) vx, intRow (.slice B3 s.gone.length b3) s.gone, askRow (.slice B2 s.queue.length b2) s.queue, bktRow (.slice B1 s.bkts.length b1) s.bkts], [], [G, G0], 3⟩)
    (fun i => match i with | (Au, cu, ux, G) => G1.Le G ∧ ux.length ≤ s.upls.length ∧ ux.map (·.u) = s.upls.take ux.length ∧ ∀ x ∈ ux, UxOk G x)
    (fun i => s.upls.length - i.2.2.1.length) (QOk_body _ _ _) (none, 0, [], G1) ⟨GW.Le.refl _, by simp, by simp, by simp⟩ (by simp only [go_sem, simprocAttr, uplRow]; simp) ?_
   rintro ⟨Au, cu, ux, G6⟩ ⟨hl6, hui, hupre, huok⟩
   simp only
   by_cases hult : ux.length < s.upls.length
   ·have q2 : decide ((ux.length : Int) < (s.upls.length : Int)) = true := decide_eq_true (by omega)
    obtain ⟨u, hu⟩ : ∃ u, s.upls[ux.length]? = some u := ⟨_, List.getElem?_eq_getElem hult⟩
    have hum : u ∈ s.upls := List.mem_of_getElem? hu
    simp only [go_sem, simprocAttr, q2]
    refine pk (elemC_does (R := UplG) (l := s.upls) (m := ux.length) rfl tySlice26 tySize89 rfl rfl (dk rfl) rfl hu (fun G hG => (Sq.mono hP.upls uplG_mono (hG.le G0 (by simp))).sc)) ?_
    rintro _ ⟨g7, o7, cs7, G7, hcl7, ⟨pv, rfl, hpv, hk1, hk2⟩, hn7, rfl⟩
    have hl7 : G6.Le G7 := hn7.le G6 (by simp)
    clear hn7
    obtain ⟨Ap, cp, rfl, _⟩ := Sq.form hpv
    simp only [go_sem, simprocAttr]
    intro g8
    refine row_ok 70 3 ?_
    refine loop_ok (N := 3000) (ι := Option Addr × Nat × List (Prt × Value) × GW) (fun i => match i with | (At, ct, px, G) => ⟨[(1, .c (.p 0 g1 0)), (2, .c (.p 1 g2 0)), (3, .c (.p 2 g3 0)), (44, .c (.v (.slice A3 s.upls.length c3))), (45, .c (.v (.int .i64 (s.upls.length : Int)))), (46, .c (.v (.int .i64 (ux.length : Int)))), (7, .c (.p 4 g8 0)), (8, .c (.v (.slice At px.length ct))), (51, .c (.v (.slice Ap u.parts.length cp))), (52, .c (.v (.int .i64 (u.parts.length : Int)))), (53, .c (.v (.int .i64 (px.length : Int))))],
     [⟨4, g8, 89, [.v (.int .i64 u.id), .v (.string u.bucket), .v (.string u.key), .v (.slice Ap u.parts.length cp)]⟩, ⟨2, g3, 30, [.v (.int .i64 s.next), .v (.int .i64 s.clock), .v (.slice B1 s.bkts.length b1), .v (.slice A vx.length c), .v (.slice Au ux.length cu), .v (.slice B2 s.queue.length b2), .v (.slice B3 s.gone.length b3)]⟩, ⟨1, g2, 30, [.v (.int .i64 0), .v (.int .i64 0), .v (.slice none 0 0), .v (.slice none 0 0), .v (.slice none 0 0), .v (.slice none 0 0), .v (.slice none 0 0)]⟩, ⟨0, g1, 30, [.v (.int .i64 s.next), .v (.int .i64 s.clock), .v (.slice A1 s.bkts.length c1), .v (.slice A2 s.vers.length c2), .v (.slice A3 s.upls.length c3), .v (.slice A4 s.queue.length c4), .v (.slice A5 s.gone.length c5)]⟩], prtRow (.slice At px.length ct) px :: ((ux.map UX.row).reverse ++ [uplRow (.slice Au ux.length cu) ux, verRow (.slice A vx.length c) vx, intRow (.slice B3 s.gone.length b3) s.gone, askRow (.slice B2 s.queue.length b2) s.queue, bktRow (.slice B1 s.bkts.length b1) s.bkts]), [], [G, G7, G6, G0], 5⟩)
     (fun i => match i with | (At, ct, px, G) => G7.Le G ∧ G6.Le G ∧ px.length ≤ u.parts.length ∧ px.map (·.1) = u.parts.take px.length ∧ ∀ p ∈ px, PxOk G p)
     (fun i => u.parts.length - i.2.2.1.length) (QOk_body _ _ _) (none, 0, [], G7) ⟨GW.Le.refl _, hl7, by simp, by simp, by simp⟩ (by simp only [go_sem, simprocAttr, prtRow]; simp) ?_
    rintro ⟨At, ct, px, G9⟩ ⟨hl9, hl96, hpi, hppre, hpok⟩
    simp only
    have hupl := n6 u hum
    by_cases hplt : px.length < u.parts.length
    ·have q3 : decide ((px.length : Int) < (u.parts.length : Int)) = true := decide_eq_true (by omega)
     obtain ⟨p, hp⟩ : ∃ p, u.parts[px.length]? = some p := ⟨_, List.getElem?_eq_getElem hplt⟩
     have hpm : p ∈ u.parts := List.mem_of_getElem? hp
     simp only [go_sem, simprocAttr, q3]
     refine pk (elem_does (R := PrtG) (l := u.parts) (m := px.length) rfl tySlice87 tySize70 rfl rfl (dk rfl) rfl hp (fun G hG => Sq.mono hpv prtG_mono (hG.le G7 (by simp)))) ?_
     rintro _ ⟨g10, o10, cs10, G10, hcl10, ⟨sv, rfl, hsv⟩, rfl⟩
     obtain ⟨Aw, cw, rfl, _⟩ := Sq.form hsv
     simp only [go_sem, simprocAttr]
     intro g11
     refine pk (callH_does ([]) ([]) ([]) (_) (fun r _ R _ => ∃ A c, r = .slice A p.secs.length c ∧ R = [intRow (.slice A p.secs.length c) p.secs]) upV rfl rfl (by kernel_rfl) rfl (dk rfl) rfl rfl (by simp [ids, Diff]) (by simp) (fun G hG hh hM => cloneInt_does hG.wf (hsv.mono (hG.le G10 (by simp))) (by have := n8 u hum p hpm; omega)) (fun v css R G _ _ => upV_den css)) ?_
     rintro _ ⟨_, css, _, G11, ⟨As, cas, rfl, rfl⟩, hcs, hle, rfl⟩
     clear hcs hle
     simp only [go_sem, simprocAttr]
     intro g12
     refine read_ok (R1 := []) rfl (fun G12 hle12 hsl => ?_) (fun k _ h => noA k h) (by show (1 : Nat) ≠ 0; decide)
     have hsecs : IntsG G12 (.slice As p.secs.length cas) p.secs := sq_of_flat (f := intC) (fun _ _ => rfl) (fun _ => rfl) hsl
     have hle912 : G9.Le G12 := hle12 G9 (by simp)
     clear hsl hle12
     simp only [go_sem, simprocAttr]
     refine pk (append_does (R1 := []) (news := prtX (p, .slice As p.secs.length cas)) rfl tySlice87 tyApp70 rfl rfl rfl rfl (dk rfl) (prtX_one p _ _ _) (by unfold maxLen; omega) (by omega) (fun G hG => tsl_blk hG (b := ⟨7, g12, 70, [.v (.int .i64 p.n), .v (.int .i64 p.size), .v (.slice As p.secs.length cas)]⟩) (by simp) rfl (by unfold maxLen; omega))) ?_
     rintro _ ⟨A', c', rfl⟩
     simp only [go_sem, simprocAttr]
     refine ⟨by omega, ?_⟩
     refine again_ok (A', c', px ++ [(p, .slice As p.secs.length cas)], G12) ⟨hl9.trans hle912, hl96.trans hle912, by simp; omega, ?_, fun z hz => ?_⟩ (by simp; omega) (by simp only [go_sem, simprocAttr, prtRow]; simp)
     ·rw [List.map_append, hppre, List.length_append, List.take_add, List.map_cons, List.map_nil, drop_cons hp]
      rfl
     ·rcases List.mem_append.1 hz with hz | hz
      ·exact (hpok z hz).mono hle912
      ·rw [List.mem_singleton.1 hz]
       exact hsecs
    ·have q3 : decide ((px.length : Int) < (u.parts.length : Int)) = false := decide_eq_false (by omega)
     have hpl : px.length = u.parts.length := by omega
     have hpe : u.parts = px.map (·.1) := by rw [hppre, hpl, List.take_length]
     simp only [go_sem, simprocAttr, q3]
     intro g13
     refine pk (append_does (R1 := prtRow (.slice At px.length ct) px :: (ux.map UX.row).reverse) (news := uplX ⟨u, .slice At px.length ct, px⟩) rfl tySlice26 tyApp89 rfl rfl rfl rfl (dk rfl) (uplX_one u _ _ _ _) (by unfold maxLen; omega) (by omega) (fun G hG => tsl_blk hG (b := ⟨5, g13, 89, [.v (.int .i64 u.id), .v (.string u.bucket), .v (.string u.key), .v (.slice At px.length ct)]⟩) (by simp) rfl (by unfold maxLen; omega))) ?_
     rintro _ ⟨A', c', rfl⟩
     simp only [go_sem, simprocAttr]
     refine ⟨by omega, ?_⟩
     refine again_ok (A', c', ux ++ [⟨u, .slice At px.length ct, px⟩], G9) ⟨hl6.trans hl96, by simp; omega, ?_, fun z hz => ?_⟩ (by simp; omega) (by simp only [go_sem, simprocAttr, uplRow]; simp; exact List.Sublist.refl _)
     ·rw [List.map_append, hupre, List.length_append, List.take_add, List.map_cons, List.map_nil, drop_cons hu]
      rfl
     ·rcases List.mem_append.1 hz with hz | hz
      ·exact (huok z hz).mono hl96
      ·rw [List.mem_singleton.1 hz]
       exact ⟨hpe, hpok⟩
   ·have q2 : decide ((ux.length : Int) < (s.upls.length : Int)) = false := decide_eq_false (by omega)
    have hul : ux.length = s.upls.length := by omega
    have hue : s.upls = ux.map (·.u) := by rw [hupre, hul, List.take_length]
    simp only [go_sem, simprocAttr, q2]
    refine fin_retH (G := G0) Tryz.results69 ?_
    simp only [go_sem, simprocAttr]
    intro aa w' _ hle
    have hfin := hle G6 (by simp)
    refine ⟨⟨.slice B1 s.bkts.length b1, .slice B2 s.queue.length b2, .slice B3 s.gone.length b3, .slice A vx.length c, .slice Au ux.length cu, vx, ux⟩, rfl, rfl, ⟨hve, hue, fun p hp => (hok p hp).mono (hl6.trans hfin), fun x hx => (huok x hx).mono hfin⟩⟩
end Go.Proofs.YtohdfcnjcpjdcaaGreat
