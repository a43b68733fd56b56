/- Apply. Conditions: as each law states them. -/
import Derived.Test.YtohdfcnjcpjdcaaGreatS29w
namespace Go.Proofs.YtohdfcnjcpjdcaaGreat
open Go.RowKit
set_option linter.unusedSimpArgs false
section
variable {E : Env}
theorem lessSnaps_ok {σ : St} {Φ : Act → World → Prop} {S : List GW} (hs : ∀ s ∈ S, s ∈ σ.snaps) (h : Ok E { σ with snaps := S } Φ) : Ok E σ Φ :=
 fun a w hr => h a w ⟨hr.tmps, hr.size, hr.defers, hr.blks, hr.nodup, hr.own, hr.rows, hr.apart, hr.rapart, hr.views, hr.chg, fun s hs' => hr.snaps s (hs s hs'), hr.mem⟩
/-- all rows of the call's own are read from now on -/
theorem readAll_ok {Φ : Act → World → Prop} : ∀ (R : List Rw) (σ : St), σ.rows = R → (∀ r ∈ R, r.k ≠ 0) → (∀ r ∈ R, ∀ g, rb r.v = some g → ¬ E.A g) →
  (∀ G : GW, (∀ s ∈ σ.snaps, s.Le G) → (∀ r ∈ R, Sl G r.t r.k r.n r.v r.xs) → Ok E ((σ.rowsTo []).seen G) Φ) → Ok E σ Φ
 | [], σ, hR, _, _, h => by
  refine snap_ok fun G hle => ?_
  have h1 := h G hle (fun r hr => by cases hr)
  have e : σ.rowsTo [] = σ := by
   obtain ⟨t, b, r, v, s, n⟩ := σ
   simp only at hR
   subst hR
   rfl
  rw [e] at h1
  exact h1
 | r :: R, σ, hR, hk, hA, h => by
  refine read_ok (R1 := []) (R2 := R) (r := r) hR (fun G hle hsl => ?_) (hA r List.mem_cons_self) (hk r List.mem_cons_self)
  refine readAll_ok R _ rfl (fun q hq => hk q (List.mem_cons_of_mem _ hq)) (fun q hq => hA q (List.mem_cons_of_mem _ hq)) fun G' hle' hsl' => ?_
  have h1 := h G' (fun s hs => hle' s (List.mem_cons_of_mem _ hs)) (fun q hq => by
   rcases List.mem_cons.1 hq with rfl | hq
   ·exact hsl.mono (hle' G List.mem_cons_self)
   ·exact hsl' q hq)
  refine lessSnaps_ok (S := G' :: σ.snaps) (fun s hs => ?_) h1
  rcases List.mem_cons.1 hs with rfl | hs
  ·exact List.mem_cons_self
  ·exact List.mem_cons_of_mem _ (List.mem_cons_of_mem _ hs)
end
theorem sq_all {α : Type} {R : GW → α → List Value → Prop} {t k : Nat} {G : GW} {v : Value} {l : List α} (h : Sq R t k G v l) {P : α → Prop} (hP : ∀ x cs, R G x cs → P x) : ∀ x ∈ l, P x := by
 obtain ⟨css, he, _⟩ := h
 intro x hx
 obtain ⟨i, hi⟩ := List.mem_iff_getElem?.1 hx
 obtain ⟨cs, _, _, hr⟩ := he.at_ hi
 exact hP x cs hr
theorem StaG.size {G : GW} {v : Value} {s : Sta} (h : StaG G v s) : SizeS s := by
 obtain ⟨_, _, _, _, _, _, h1, h2, h3, _, _⟩ := h
 exact ⟨sq_all h1 fun x cs h => h.2, sq_all h2 fun x cs ⟨_, _, _, h⟩ => h, sq_all h3 fun x cs ⟨_, _, _, h⟩ => h⟩
theorem staG_zero (G : GW) : StaG G (.agg #[.int .i64 0, .int .i64 0, .slice none 0 0, .slice none 0 0, .slice none 0 0, .slice none 0 0, .slice none 0 0]) zeroS :=
 ⟨_, _, _, _, _, rfl, Sq.nil, Sq.nil, Sq.nil, Sq.nil, Sq.nil⟩
/-- a state whose rows nobody writes any more -/
theorem OwnSt.Ok.sta {G : GW} {s : Sta} {o : OwnSt} (h : o.Ok G s) (hz : SizeS s) (hsl : ∀ r ∈ o.rows s, Sl G r.t r.k r.n r.v r.xs) : StaG G (.agg (o.cells s).toArray) s := by
 have m1 : ∀ r ∈ [uplRow o.uv o.ux, verRow o.vv o.vx, intRow o.gv s.gone, askRow o.qv s.queue, bktRow o.bv s.bkts], r ∈ o.rows s := fun r hr => List.mem_append_right _ hr
 refine ⟨o.bv, o.vv, o.uv, o.qv, o.gv, rfl, bkts_of (hsl (bktRow o.bv s.bkts) (m1 _ (by simp))) hz.b, ?_, ?_, asks_of (hsl (askRow o.qv s.queue) (m1 _ (by simp))), ints_of (hsl (intRow o.gv s.gone) (m1 _ (by simp)))⟩
 ·rw [h.vers]
  exact vers_of (hsl (verRow o.vv o.vx) (m1 _ (by simp))) h.vok fun p hp => hz.v p.1 (by rw [h.vers]; exact List.mem_map_of_mem hp)
 ·rw [h.upls]
  exact upls_of (hsl (uplRow o.uv o.ux) (m1 _ (by simp))) (fun x hx => hsl x.row (List.mem_append_left _ (List.mem_reverse.2 (List.mem_map_of_mem hx)))) h.uok fun x hx => hz.u x.u (by rw [h.upls]; exact List.mem_map_of_mem hx)
theorem OwnSt.rows_k {s : Sta} {o : OwnSt} : ∀ r ∈ o.rows s, r.k ≠ 0 := by
 intro r hr
 rcases List.mem_append.1 hr with hr | hr
 ·obtain ⟨x, _, rfl⟩ := List.mem_map.1 (List.mem_reverse.1 hr)
  show (3 : Nat) ≠ 0
  decide
 ·simp only [List.mem_cons, List.not_mem_nil, or_false] at hr
  rcases hr with rfl | rfl | rfl | rfl | rfl
  ·show (4 : Nat) ≠ 0; decide
  ·show (12 : Nat) ≠ 0; decide
  ·show (1 : Nat) ≠ 0; decide
  ·show (3 : Nat) ≠ 0; decide
  ·show (5 : Nat) ≠ 0; decide
/-- rows that a call hands over are slices -/
theorem RetH.forms {P : Program} {f : FuncId} {args : Array Value} {G : GW} {h : Hands} {T : Value → List (List Value) → List Rw → GW → Prop} (hc : Calls P f args G.w (RetH G h T)) : Calls P f args G.w (RetH G h fun v css R G' => T v css R G' ∧ ∀ r ∈ R, r.k ≠ 0 → ∃ A c, r.v = .slice A r.n c) :=
 Calls.mono hc fun _ _ ⟨v, css, R, he, hl, hr, ha, hT, hg⟩ => ⟨v, css, R, he, hl, hr, ha, ⟨hT, fun r hr' hk => let ⟨A, c, e, _⟩ := row_form (hr r hr').1 hk; ⟨A, c, e⟩⟩, hg⟩
def RecG (G : GW) (v : Value) (r : Rec) : Prop := ∃ vs ps ss, v = .agg (recV r vs ps ss).toArray ∧ IntsG G vs r.ver.secs ∧ IntsG G ps r.part.secs ∧ IntsG G ss r.secs ∧ RecOk r
theorem RecG.mono {G G' : GW} {v : Value} {r : Rec} (h : RecG G v r) (hl : G.Le G') : RecG G' v r :=
 let ⟨vs, ps, ss, e, h1, h2, h3, h4⟩ := h
 ⟨vs, ps, ss, e, h1.mono hl, h2.mono hl, h3.mono hl, h4⟩
set_option maxRecDepth 100000 in
set_option maxHeartbeats 16000000 in
theorem apply_does {s : Sta} {r : Rec} {sv rv : Value} {G0 : GW} (hW : G0.Wf) (hs : StaG G0 sv s) (hr : RecG G0 rv r) :
  Calls Tryz.prog 25 #[sv, rv] G0.w (Ret G0 fun v G => ∃ sv', v = .tuple #[sv', .int .i64 (applyS s r).2] ∧ StaG G sv' (applyS s r).1) := by
 have hz := hs.size
 obtain ⟨A1, c1, A2, c2, A3, c3, A4, c4, A5, c5, rfl, hP⟩ := hs.form
 obtain ⟨vs, ps, ss, rfl, hvs, hps, hss, hrk⟩ := hr
 have hml := max_le
 refine enterS (G := G0) (n := 28) 3000 hW Tryz.func25 rfl Tryz.ntmps25 (by simp) ?_
 simp only [go_sem, simprocAttr, recV]
 intro g1 g2 g3
 refine pk (call_does (fun v _ => v = .int .i64 (errSt s)) rfl rfl (by kernel_rfl) rfl (dk rfl) (fun G hG => check_does hG.wf (hP.mono (hG.le G0 (by simp))).g)) ?_
 rintro _ ⟨_, G1, rfl, hn1, rfl⟩
 clear hn1
 simp only [go_sem, simprocAttr]
 refine Wb_mk (fun he => ?_) (fun he => ?_)
 ·have he' : ¬ errSt s = 0 := of_decide_eq_false (nt he)
  have hno : ¬ okSt s = true := fun q => he' (by unfold errSt; rw [if_pos q])
  refine fin_ret (G := G0) Tryz.results25 ?_
  simp only [go_sem, simprocAttr]
  intro aa w' _ _
  have : applyS s r = (zeroS, 9) := by unfold applyS; rw [if_neg hno]
  rw [this, show errSt s = 9 from by unfold errSt; rw [if_neg hno]]
  exact ⟨_, rfl, staG_zero _⟩
 have he' : errSt s = 0 := of_decide_eq_true (nf he)
 have hok : okSt s = true := by
  cases q : okSt s with
  | true => rfl
  | false => unfold errSt at he'; rw [q] at he'; cases he'
 have hS := okSt_iff.1 hok
 have b1 := hS.bkts_len
 have b2 := hS.vers_len
 have b3 := hS.upls_len
 have b4 := hS.queue_len
 have b5 := hS.gone_len
 refine pk (callH_does ([]) ([]) ([]) ([]) (fun v _ R G => (∃ o : OwnSt, v = .agg (o.cells s).toArray ∧ R = o.rows s ∧ o.Ok G s) ∧ ∀ r ∈ R, r.k ≠ 0 → ∃ A c, r.v = .slice A r.n c) upV rfl rfl (by kernel_rfl) rfl (dk rfl) rfl (by simp) (by simp [ids, Diff]) (by simp) (fun G hG hh hM => RetH.forms (copy_does hG.wf (hP.mono (hG.le G0 (by simp))).g (by omega) (by omega) (by omega) (by omega) (by omega) (fun u hu => by have := hS.parts_len u hu; omega) (fun v hv => by have := hS.secs_len v hv; omega) (fun u hu p hp => by have := hS.prt_len u hu p hp; omega))) (fun v css R G _ _ => upV_den css)) ?_
 rintro _ ⟨_, css, _, G2, ⟨⟨⟨bv, qv, gv, vv, uv, vx, ux⟩, rfl, rfl, ho⟩, hfm⟩, hcs, hle, rfl⟩
 clear hcs hle
 obtain ⟨B1, d1, e1⟩ := hfm (bktRow bv s.bkts) (by simp [OwnSt.rows]) (by show (5 : Nat) ≠ 0; decide)
 obtain ⟨B2, d2, e2⟩ := hfm (verRow vv vx) (by simp [OwnSt.rows]) (by show (12 : Nat) ≠ 0; decide)
 obtain ⟨B3, d3, e3⟩ := hfm (uplRow uv ux) (by simp [OwnSt.rows]) (by show (4 : Nat) ≠ 0; decide)
 obtain ⟨B4, d4, e4⟩ := hfm (askRow qv s.queue) (by simp [OwnSt.rows]) (by show (3 : Nat) ≠ 0; decide)
 obtain ⟨B5, d5, e5⟩ := hfm (intRow gv s.gone) (by simp [OwnSt.rows]) (by show (1 : Nat) ≠ 0; decide)
 obtain rfl : bv = .slice B1 s.bkts.length d1 := e1
 obtain rfl : vv = .slice B2 vx.length d2 := e2
 obtain rfl : uv = .slice B3 ux.length d3 := e3
 obtain rfl : qv = .slice B4 s.queue.length d4 := e4
 obtain rfl : gv = .slice B5 s.gone.length d5 := e5
 clear hfm
 simp only [go_sem, simprocAttr, OwnSt.rows]
 intro g4
 refine pk (callH_does ([3]) ([]) (((ux.map UX.row).reverse ++ [uplRow (.slice B3 ux.length d3) ux, verRow (.slice B2 vx.length d2) vx, intRow (.slice B5 s.gone.length d5) s.gone, askRow (.slice B4 s.queue.length d4) s.queue, bktRow (.slice B1 s.bkts.length d1) s.bkts])) ([]) (fun v css R G => ChgT (changeS s r) v css R G ∧ ∃ cs : List Value, css = [cs] ∧ cs.length = 7) upV rfl rfl (by kernel_rfl) rfl (dk rfl) rfl (by simp) (by simp [ids, Diff]) (by simp) (fun G hG hh hM => RetH.len (change_does (o := ⟨.slice B1 s.bkts.length d1, .slice B4 s.queue.length d4, .slice B5 s.gone.length d5, .slice B2 vx.length d2, .slice B3 ux.length d3, vx, ux⟩) hG.wf hh hM (ho.mono (hG.le G2 (by simp))) hS hz hrk (hvs.mono (hG.le G0 (by simp))) (hps.mono (hG.le G0 (by simp))) (hss.mono (hG.le G0 (by simp))))) (fun v css R G _ _ => upV_den css)) ?_
 rintro _ ⟨_, css, R9, G3, ⟨⟨rfl, hok2⟩, cs, rfl, hcl⟩, hcs, hle, rfl⟩
 clear hcs hle
 have hA : applyS s r = applyC (changeS s r) := by unfold applyS; rw [if_pos hok]
 obtain ⟨c, hc⟩ : ∃ c, c = changeS s r := ⟨_, rfl⟩
 have hz2 : SizeS c.2 := by rw [hc]; exact hz.change hrk
 rw [hA]
 rw [← hc] at hok2 ⊢
 clear hA hc
 simp only [go_sem, simprocAttr]
 refine Wb_mk (fun he2 => ?_) (fun he2 => ?_)
 ·have he2' : ¬ c.1 = 0 := of_decide_eq_false (nt he2)
  refine fin_ret (G := G0) Tryz.results25 ?_
  simp only [go_sem, simprocAttr]
  intro aa w' _ _
  unfold applyC
  rw [if_neg he2']
  exact ⟨_, rfl, staG_zero _⟩
 have he2' : c.1 = 0 := of_decide_eq_true (nf he2)
 obtain ⟨o2, e1, rfl, ho2⟩ := hok2 he2'
 cases e1
 simp only [go_sem, simprocAttr]
 refine readAll_ok (o2.rows c.2) _ (by simp) OwnSt.rows_k (fun _ _ _ _ q => q) fun G4 hle4 hsl4 => ?_
 have hS2 : StaG G4 (.agg (o2.cells c.2).toArray) c.2 := (ho2.mono (hle4 G3 (by simp))).sta hz2 hsl4
 clear hsl4 hle4
 obtain ⟨bv, qv, gv, vv, uv, vx2, ux2⟩ := o2
 obtain ⟨C1, f1, C2, f2, C3, f3, C4, f4, C5, f5, e9, _⟩ := hS2.form
 simp only [OwnSt.cells, Value.agg.injEq] at e9
 have e10 := congrArg Array.toList e9
 simp only [List.cons.injEq, true_and, and_true] at e10
 obtain ⟨rfl, rfl, rfl, rfl, rfl⟩ := e10
 simp only [go_sem, simprocAttr]
 refine pk (call_does (fun v _ => v = .int .i64 (errSt c.2)) rfl rfl (by kernel_rfl) rfl (dk rfl) (fun G hG => check_does hG.wf (hS2.mono (hG.le G4 (by simp))))) ?_
 rintro _ ⟨_, G5, rfl, hn5, rfl⟩
 clear hn5
 simp only [go_sem, simprocAttr]
 refine Wb_mk (fun he3 => ?_) (fun he3 => ?_)
 ·have he3' : ¬ errSt c.2 = 0 := of_decide_eq_false (nt he3)
  have hno : ¬ okSt c.2 = true := fun q => he3' (by unfold errSt; rw [if_pos q])
  refine fin_ret (G := G0) Tryz.results25 ?_
  simp only [go_sem, simprocAttr]
  intro aa w' _ _
  unfold applyC
  rw [if_pos he2', if_neg hno]
  exact ⟨_, rfl, staG_zero _⟩
 ·have he3' : errSt c.2 = 0 := of_decide_eq_true (nf he3)
  have hok3 : okSt c.2 = true := by
   cases q : okSt c.2 with
   | true => rfl
   | false => unfold errSt at he3'; rw [q] at he3'; cases he3'
  refine fin_ret (G := G0) Tryz.results25 ?_
  simp only [go_sem, simprocAttr]
  intro aa w' _ hle
  unfold applyC
  rw [if_pos he2', if_pos hok3]
  exact ⟨_, rfl, hS2.mono (hle G4 (by simp))⟩
end Go.Proofs.YtohdfcnjcpjdcaaGreat
