/- list.keys: the walk. Conditions: as each law states them. -/
import Derived.Test.YtohdfcnjcpjdcaaGreatVAw
import Derived.Test.YtohdfcnjcpjdcaaGreatV1w
import Derived.Lib.Bytealg
import Derived.Lib.IndexLaws
namespace Go.Proofs.YtohdfcnjcpjdcaaGreat
open Go.RowKit
set_option linter.unusedSimpArgs false
def GrpG (G : GW) (g : List Ver) (cs : List Value) : Prop := ∃ sv, cs = [sv] ∧ VersG G sv g
theorem grpG_mono : MonoR GrpG := fun _ _ _ _ hl ⟨sv, e, h⟩ => ⟨sv, e, Sq.mono h verG_mono hl⟩
def GrpsG (G : GW) (v : Value) (l : List (List Ver)) : Prop := Sq GrpG 25 1 G v l
theorem Now.subL {E : Env} {σ : St} {G : GW} (hn : Now E σ G) {rs : List Rw} (hr : ∀ r ∈ rs, r ∈ σ.rows) {ks : List Nat} (hk : ∀ k ∈ ks, ∃ b ∈ σ.blks, b.g = k) (hM : ∀ k, Hands.A ⟨[], rs⟩ k → G.M k) : ∀ k, Hands.A ⟨[], rs⟩ k → (G.sub ks).M k := fun k ha => by
 refine ⟨hM k ha, fun q => ?_⟩
 obtain ⟨b, hb, rfl⟩ := hk k q
 rcases ha with ⟨c, hc, _⟩ | ⟨r, hr2, e⟩
 ·cases hc
 ·exact hn.apart r (hr r hr2) b hb e
def outRow (v : Value) (l : List Value) : Rw := ⟨v, 25, 1, l.length, l.flatMap fun v => [v]⟩
theorem keyEnd_addV (out : List (List Ver)) (x : Ver) : keyEnd (addV out x) = some x.key := by
 unfold addV
 split
 ·rw [keyEnd_app]; simp
 ·rw [keyEnd_app]; simp
theorem grpS_snoc (l : List Ver) (x : Ver) : grpS (l ++ [x]) = addV (grpS l) x := by unfold grpS; rw [List.foldl_append]; rfl
theorem grpS_last {l : List Ver} {i : Nat} {y : Ver} (hy : l[i]? = some y) : keyEnd (grpS (l.take (i + 1))) = some y.key := by
 rw [List.take_add_one, hy]
 exact (congrArg keyEnd (grpS_snoc _ y)).trans (keyEnd_addV _ _)
/-- what the loop knows: values and groups that are done, and the group that grows -/
structure KLoop (ad : List Ver) (G4 : GW) (i : Nat) (dv : List Value) (dg : List (List Ver)) (cur : List (Ver × Value)) (G : GW) : Prop where
 ile : i ≤ ad.length
 zero : i = 0 → dv = [] ∧ dg = [] ∧ cur = []
 len : dv.length = dg.length
 done : ∀ (k : Nat) v g, dv[k]? = some v → dg[k]? = some g → VersG G v g
 one : ∀ v ∈ dv, v.oneCell' = true
 pos : 0 < i → grpS (ad.take i) = dg ++ [cur.map (·.1)] ∧ cur ≠ []
 cok : ∀ p ∈ cur, VxG G p
 le : G4.Le G
 most : dv.length ≤ i - 1 ∧ cur.length ≤ i
theorem KLoop.mono {ad : List Ver} {G4 G G' : GW} {i : Nat} {dv : List Value} {dg : List (List Ver)} {cur : List (Ver × Value)} (h : KLoop ad G4 i dv dg cur G) (hl : G.Le G') : KLoop ad G4 i dv dg cur G' :=
 ⟨h.ile, h.zero, h.len, fun k v g h1 h2 => Sq.mono (h.done k v g h1 h2) verG_mono hl, h.one, h.pos, fun p hp => (h.cok p hp).mono hl, h.le.trans hl, h.most⟩
theorem KLoop.more {ad : List Ver} {G4 G G' : GW} {i : Nat} {dv : List Value} {dg : List (List Ver)} {cur : List (Ver × Value)} {x : Ver} {sv : Value} (h : KLoop ad G4 i dv dg cur G) (hl : G.Le G') (hx : ad[i]? = some x) (hi : 0 < i) (hke : keyEnd (grpS (ad.take i)) = some x.key) (hsv : VxG G' (x, sv)) : KLoop ad G4 (i + 1) dv dg (cur ++ [(x, sv)]) G' := by
 have h' := h.mono hl
 have hlt := (List.getElem?_eq_some_iff.1 hx).1
 refine ⟨hlt, fun q => absurd q (by omega), h'.len, h'.done, h'.one, fun _ => ⟨?_, by simp⟩, fun p hp => ?_, h'.le, ⟨by have := h.most.1; omega, by have := h.most.2; rw [List.length_append]; simp; omega⟩⟩
 ·rw [(h.pos hi).1, keyEnd_app] at hke
  rw [List.take_add_one, hx]
  show grpS (ad.take i ++ [x]) = _
  rw [grpS_snoc, (h.pos hi).1, addV_more hke, List.map_append]
  rfl
 ·rcases List.mem_append.1 hp with hp | hp
  ·exact h'.cok p hp
  ·rw [List.mem_singleton.1 hp]; exact hsv
def outV (i : Nat) (dv : List Value) (v : Value) : List Value := dv ++ if i = 0 then [] else [v]
theorem KLoop.outs {ad : List Ver} {G4 G G' : GW} {i : Nat} {dv : List Value} {dg : List (List Ver)} {cur : List (Ver × Value)} {A : Option Addr} {c : Nat} (h : KLoop ad G4 i dv dg cur G) (hl : G.Le G') (hv : VersG G' (.slice A cur.length c) (cur.map (·.1))) :
  (outV i dv (.slice A cur.length c)).length = (grpS (ad.take i)).length ∧ (∀ (k : Nat) v g, (outV i dv (.slice A cur.length c))[k]? = some v → (grpS (ad.take i))[k]? = some g → VersG G' v g) ∧ (∀ v ∈ outV i dv (.slice A cur.length c), v.oneCell' = true) := by
 have h' := h.mono hl
 unfold outV
 by_cases hi : i = 0
 ·obtain ⟨rfl, rfl, rfl⟩ := h.zero hi
  subst hi
  exact ⟨rfl, fun k v g q => by simp at q, fun v q => by simp at q⟩
 ·rw [if_neg hi, (h.pos (by omega)).1]
  refine ⟨by rw [List.length_append, List.length_append, h.len]; rfl, fun k v g q1 q2 => ?_, fun v q => ?_⟩
  ·by_cases hk : k < dv.length
   ·rw [List.getElem?_append_left hk] at q1
    rw [List.getElem?_append_left (by rw [← h.len]; exact hk)] at q2
    exact h'.done k v g q1 q2
   ·rw [List.getElem?_append_right (by omega)] at q1
    rw [List.getElem?_append_right (by rw [← h.len]; omega), ← h.len] at q2
    obtain ⟨_, rfl⟩ := List.mem_singleton.1 (List.mem_of_getElem? q1) |> fun e => (⟨trivial, e⟩ : True ∧ _)
    have := List.mem_singleton.1 (List.mem_of_getElem? q2)
    rw [this]
    exact hv
  ·rcases List.mem_append.1 q with q | q
   ·exact h.one v q
   ·rw [List.mem_singleton.1 q]; rfl
theorem KLoop.new {ad : List Ver} {G4 G G' : GW} {i : Nat} {dv : List Value} {dg : List (List Ver)} {cur : List (Ver × Value)} {x : Ver} {sv : Value} {A : Option Addr} {c : Nat} (h : KLoop ad G4 i dv dg cur G) (hl : G.Le G') (hx : ad[i]? = some x) (hke : keyEnd (grpS (ad.take i)) ≠ some x.key) (hsv : VxG G' (x, sv)) (hv : VersG G' (.slice A cur.length c) (cur.map (·.1))) : KLoop ad G4 (i + 1) (outV i dv (.slice A cur.length c)) (grpS (ad.take i)) [(x, sv)] G' := by
 have h' := h.mono hl
 have hlt := (List.getElem?_eq_some_iff.1 hx).1
 obtain ⟨o1, o2, o3⟩ := h.outs hl hv
 refine ⟨hlt, fun q => absurd q (by omega), o1, o2, o3, fun _ => ⟨?_, by simp⟩, fun p hp => ?_, h'.le, ⟨?_, by simp⟩⟩
 ·rw [List.take_add_one, hx]
  show grpS (ad.take i ++ [x]) = _
  rw [grpS_snoc, addV_new hke]
  rfl
 ·rw [List.mem_singleton.1 hp]; exact hsv
 ·have := h.most.1
  unfold outV
  by_cases hi : i = 0
  ·rw [if_pos hi, List.append_nil]; omega
  ·rw [if_neg hi, List.length_append]; simp; omega
theorem flat1 (l : List Value) : (l.map fun v => [v]).flatten = l := by
 induction l with
 | nil => rfl
 | cons x l ih => rw [List.map_cons, List.flatten_cons, ih]; rfl
theorem set_last (dw : List Value) (a z : Value) (tl : List (List Value)) : (((dw ++ [a]).map fun v => [v]) ++ tl).flatten.set (dw.length * 1) z = (((dw ++ [z]).map fun v => [v]) ++ tl).flatten := by
 rw [List.flatten_append, List.flatten_append, flat1, flat1, Nat.mul_one, List.set_append_left _ _ (by simp), List.set_append_right _ _ (Nat.le_refl _)]
 simp
theorem Sq.also {α : Type} {R : GW → α → List Value → Prop} {K : GW → Prop} {t k : Nat} {G : GW} {v : Value} {l : List α} (h : Sq R t k G v l) (hK : K G) : Sq (fun G x cs => R G x cs ∧ K G) t k G v l := by
 obtain ⟨css, ⟨h1, h2, h3⟩, hs⟩ := h
 exact ⟨css, ⟨h1, h2, fun i cs x a b => ⟨h3 i cs x a b, hK⟩⟩, hs⟩
theorem get1_of {α : Type} {l : List α} {m : Nat} {c : α} (h : (l.drop m).take 1 = [c]) : l[m]? = some c := by
 have := congrArg (fun t => t[0]?) h
 simpa [List.getElem?_take, List.getElem?_drop] using this
section
variable {P : Program} {E : Env} {σ : St} {o : Oper}
/-- an element of a block of the call's own, in a region that draws -/
theorem take_own {rec_ : Cmd → St → Prop} {dr : Dr} {q : Nat} {p : Plan} {t e kc : Nat} {x i : Operand} {g n c m : Nat} (id : Nat) {kk : IntKind} {j : Int} (ho : o.op = .indexAddr t x i) (ht : tSlice P t = some e) (hk : tSize P e = some kc)
  (hx : ev σ x = some (.c (.v (.slice (some ⟨g, 0, none⟩) n c)))) (hi : ev σ i = some (.c (.v (.int kk j)))) (hd : dOk E o.dst) (hj : j = (m : Int)) (hm : m < n)
  (h : rec_ (dr.next q p) (σ.put o.dst (.c (.p id g (m * kc))))) : TakeStop P E rec_ dr q p o σ := by
 refine ⟨.c (.p id g (m * kc)), hd, fun a w hr => ?_, h⟩
 have hx' : a.eval x = .slice (some ⟨g, 0, none⟩) n c := ev_den hr hx
 have hi' : a.eval i = .int kk j := ev_den hr hi
 obtain ⟨inf, hinf, hsz⟩ := tSize_spec hk
 show (execOp a.eval o).run P w = .ok (.value (.pointer (some ⟨g, m * kc, none⟩))) w
 unfold execOp
 subst hj
 have hc1 : 0 ≤ (m : Int) ∧ (m : Int) < (n : Int) := ⟨by omega, by omega⟩
 simp only [ho, hx', hi', Instr.indexAt, Sem.run_bind, asIntOf, Sem.run_pure, Result.andThen_ok, run_underlying (tSlice_spec ht), hc1, and_self, if_true, sizeOf, typeInfo, run_program, hinf, hsz, Int.toNat_natCast, Addr.add_mid, Nat.zero_add]
end
set_option maxRecDepth 100000 in
set_option maxHeartbeats 16000000 in
theorem keys_does {s : Sta} {sv : Value} {nm pre : ByteArray} {G0 : GW} (hW : G0.Wf) (hs : StaG G0 sv s) (hn : s.vers.length ≤ 1000) (hp : pre.size ≤ maxLen) :
  Calls Tryz.prog 59 #[sv, .string nm, .string pre] G0.w (Ret G0 fun v G => ∃ d : List Ver, d.Perm (s.vers.filter (selB nm pre)) ∧ (d.Pairwise fun a b => vLt b a = false) ∧ GrpsG G v (grpS d)) := by
 obtain ⟨A1, c1, A2, c2, A3, c3, A4, c4, A5, c5, rfl, hP⟩ := hs.form
 have hml := max_le
 obtain ⟨vx, hvx, hok, hsl⟩ := vx_of hP.vers
 have hvl : vx.length = s.vers.length := by rw [hvx, List.length_map]
 refine enterS (G := G0) (n := 57) 3000 hW Tryz.func59 rfl Tryz.ntmps59 (by simp) ?_
 simp only [go_sem, simprocAttr]
 intro g1 g2 g3
 refine pk (callH_does ([]) ([]) ([]) ([]) (fun v _ R _ => ∃ A c, v = .slice A vx.length c ∧ R = [verRow (.slice A vx.length c) vx]) upV rfl rfl (by kernel_rfl) rfl (dk rfl) rfl rfl (by simp [ids, Diff]) (by simp) (fun G hG hh hM => cloneVer_does hG.wf (fun p hp => (hok p hp).mono (hG.le G0 (by simp))) (by rw [hvl] at hsl ⊢; exact hsl.mono (hG.le G0 (by simp))) (by omega)) (fun v css R G _ _ => upV_den css)) ?_
 rintro _ ⟨_, css, _, G1, ⟨Ac, cc, rfl, rfl⟩, hcs, hle1, rfl⟩
 clear hcs
 simp only [go_sem, simprocAttr]
 have hok1 : ∀ p ∈ vx, VxG G1 p := fun p hp => (hok p hp).mono (hle1 G0 (by simp))
 refine pk (callH_does ([]) ([]) ([verRow (.slice Ac vx.length cc) vx]) ([]) (fun v _ R _ => ∃ A c, v = .slice A (vx.filter fun x => !outB nm pre x.1).length c ∧ R = [verRow (.slice A (vx.filter fun x => !outB nm pre x.1).length c) (vx.filter fun x => !outB nm pre x.1)]) upV rfl rfl (by kernel_rfl) rfl (dk rfl) rfl rfl (by simp [ids, Diff]) (by simp) (fun G hG hh hM => RetH.anyM (T := fun v _ R => ∃ A c, v = .slice A (vx.filter fun x => !outB nm pre x.1).length c ∧ R = [verRow (.slice A (vx.filter fun x => !outB nm pre x.1).length c) (vx.filter fun x => !outB nm pre x.1)]) (M' := (G.sub [g2, g3]).M) (deleteVerF_does (lv := .slice Ac vx.length cc) (G0 := G.sub [g2, g3]) (p := outB nm pre) (hG.wf.sub _) hh (hG.subL (by simp) (by intro k hk; simp at hk; rcases hk with rfl | rfl <;> simp) hM) (by omega) (by kernel_rfl) (fun q hq => (hok1 q hq).mono ((hG.le G1 (by simp)).trans (GW.le_sub _ _))) (fun G' x sv h1 h2 h3 hle hw => keys1_does hw h1 h3 hp ((hG.blkG (b := ⟨1, g2, 9, [.v (.string nm)]⟩) (ks := [g2, g3]) (by simp) (by simp)).mono hle) ((hG.blkG (b := ⟨2, g3, 9, [.v (.string pre)]⟩) (ks := [g2, g3]) (by simp) (by simp)).mono hle)))) (fun v css R G _ _ => upV_den css)) ?_
 rintro _ ⟨_, css, _, G2, ⟨Ad, cd, rfl, rfl⟩, hcs, hle2, rfl⟩
 clear hcs
 have hfl : (vx.filter fun x => !outB nm pre x.1).length ≤ vx.length := List.length_filter_le _ _
 obtain ⟨fx, hfx⟩ : ∃ fx, fx = vx.filter fun x => !outB nm pre x.1 := ⟨_, rfl⟩
 rw [← hfx] at hfl ⊢
 have hok2 : ∀ p ∈ fx, VxG G2 p := fun p hp => (hok1 p (List.mem_filter.1 (hfx ▸ hp)).1).mono (hle2 G1 (by simp))
 simp only [go_sem, simprocAttr]
 refine pk (callH_does ([]) ([]) ([verRow (.slice Ad fx.length cd) fx]) ([]) (fun v _ R _ => v = .tuple #[] ∧ ∃ l', R = [verRow (.slice Ad fx.length cd) l'] ∧ l'.Perm fx ∧ l'.Pairwise fun (a b : Ver × Value) => vLt b.1 a.1 = false) upV rfl rfl (by kernel_rfl) rfl (dk rfl) rfl rfl (by simp [ids, Diff]) (by simp) (fun G hG hh hM => sortVer_does hh (by omega) (fun q hq => (hok2 q hq).mono (hG.le G2 (by simp)))) (fun v css R G _ _ => upV_den css)) ?_
 rintro _ ⟨_, css, _, G3, ⟨rfl, l, rfl, hperm, hsort⟩, hcs, hle3, rfl⟩
 clear hcs
 have hok3 : ∀ p ∈ l, VxG G3 p := fun p hp => (hok2 p (hperm.mem_iff.1 hp)).mono (hle3 G2 (by simp))
 have hll := hperm.length_eq
 rw [← hll]
 simp only [go_sem, simprocAttr]
 refine read_ok (R1 := []) rfl (fun G4 hle4 hsl4 => ?_) (fun _ _ q => q) (by show (12 : Nat) ≠ 0; decide)
 have hok4 : ∀ p ∈ l, VxG G4 p := fun p hp => (hok3 p hp).mono (hle4 G3 (by simp))
 have hall : VersG G4 (.slice Ad l.length cd) (l.map (·.1)) := vx_to hok4 hsl4
 clear hsl4
 obtain ⟨ad, had⟩ : ∃ ad, ad = l.map (·.1) := ⟨_, rfl⟩
 have hadl : ad.length = l.length := by rw [had, List.length_map]
 rw [← had] at hall
 simp only [List.nil_append, List.append_nil]
 refine row_ok 38 12 ?_
 refine row_ok 25 1 ?_
 refine loop_ok (N := 3000) (ι := Nat × (Option Addr × Nat) × List Value × List (List Ver) × List (Ver × Value) × (Option Addr × Nat) × GW)
  (fun x => match x with | (i, (Ao, co), dv, dg, cur, (Ax, cx), G) => ⟨[(7, .c (.v (.slice Ad l.length cd))), (8, .c (.v (.slice Ao (outV i dv (.slice Ax cur.length cx)).length co))), (18, .c (.v (.slice Ad l.length cd))), (19, .c (.v (.int .i64 (l.length : Int)))), (20, .c (.v (.int .i64 (i : Int))))],
   [], [outRow (.slice Ao (outV i dv (.slice Ax cur.length cx)).length co) (outV i dv (.slice Ax cur.length cx)), verRow (.slice Ax cur.length cx) cur], [], [G, G0], 3⟩)
  (fun x => match x with | (i, (Ao, co), dv, dg, cur, (Ax, cx), G) => KLoop ad G4 i dv dg cur G)
  (fun x => l.length - x.1) (QOk_body _ _ _) (0, (none, 0), [], [], [], (none, 0), G4) ⟨Nat.zero_le _, fun _ => ⟨rfl, rfl, rfl⟩, rfl, fun k v g h => by simp at h, fun v h => (by cases h), fun h => absurd h (by omega), fun p h => (by cases h), GW.Le.refl _, by simp⟩ (by simp only [go_sem, simprocAttr, outV, verRow, outRow]; simp) ?_
 rintro ⟨i, ⟨Ao, co⟩, dv, dg, cur, ⟨Ax, cx⟩, G5⟩ hC
 simp only at hC ⊢
 have hle := hC.le
 have hil := hC.ile
 obtain ⟨hm1, hm2⟩ := hC.most
 have hg0 : G0.Le G5 := (hle4 G0 (by simp)).trans hle
 by_cases hlt : i < l.length
 ·have q : decide ((i : Int) < (l.length : Int)) = true := decide_eq_true (by omega)
  obtain ⟨x, hx⟩ : ∃ x, ad[i]? = some x := ⟨_, List.getElem?_eq_getElem (by omega)⟩
  simp only [go_sem, simprocAttr, q]
  refine pk (elem_does (R := fun G x cs => VerG G x cs ∧ G5.Le G) (l := ad) (m := i) rfl tySlice25 tySize38 rfl rfl (dk rfl) rfl hx (fun G hG => Sq.also (Sq.mono hall verG_mono (hle.trans (hG.le G5 (by simp)))) (hG.le G5 (by simp)))) ?_
  rintro _ ⟨g4, o', cs, G6, hcl6, ⟨⟨svx, rfl, hsv, hk1, hk2⟩, hle6⟩, rfl⟩
  obtain ⟨As, cs, rfl, _⟩ := Sq.form hsv
  have hxg : VxG G6 (x, .slice As x.secs.length cs) := ⟨hsv, hk1, hk2⟩
  simp only [go_sem, simprocAttr, verV]
  intro g5
  refine cut_code2 (N := 3000) (ι := Bool) (fun b => ⟨[(10, .c (.p 4 g5 0)), (37, .c (.v (.bool b))), (7, .c (.v (.slice Ad l.length cd))), (8, .c (.v (.slice Ao (outV i dv (.slice Ax cur.length cx)).length co))), (18, .c (.v (.slice Ad l.length cd))), (19, .c (.v (.int .i64 (l.length : Int)))), (20, .c (.v (.int .i64 (i : Int))))],
   [⟨4, g5, 38, (verX (x, .slice As x.secs.length cs)).map .v⟩], [outRow (.slice Ao (outV i dv (.slice Ax cur.length cx)).length co) (outV i dv (.slice Ax cur.length cx)), verRow (.slice Ax cur.length cx) cur], [], [G6, G5, G0], 6⟩)
   (fun b => b = !decide (keyEnd (grpS (ad.take i)) = some x.key)) (QOk_body _ _ _) ?_ ?_
  rotate_left
  ·intro k' J hk' hJ
   by_cases hi0 : i = 0
   ·have q0 : decide ((i : Int) = 0) = true := decide_eq_true (by omega)
    refine draw_ok (N := 3000) (.take 0 (.take 1 (.take 2 (.take 3 (.take 4 (.take 5 (.take 6 (.take 7 (.take 8 (.take 9 (.take 10 (.take 11 (.take 12 .done))))))))))))) [] hk' follows_mixed (by kernel_rfl) (by kernel_rfl) ?_
    simp only [go_sem, simprocAttr, q0]
    exact hJ true _ (by subst hi0; rfl) (by simp only [go_sem, simprocAttr, verX, verV, List.map_cons, List.map_nil]; simp)
   ·have q0 : decide ((i : Int) = 0) = false := decide_eq_false (by omega)
    obtain ⟨y, hy⟩ : ∃ y, ad[i - 1]? = some y := ⟨_, List.getElem?_eq_getElem (by omega)⟩
    have hke : keyEnd (grpS (ad.take i)) = some y.key := by
     have := grpS_last hy
     rw [show i - 1 + 1 = i from by omega] at this
     exact this
    have hcast : (i : Int) - 1 = ((i - 1 : Nat) : Int) := by omega
    refine preview_ok (R := VerG) (kc := 12) hy (fun G hG => (Sq.mono hall verG_mono (hle.trans (hG G5 (by simp)))).sc) fun gy oy csy Gy hA hcly hcsy hley => ?_
    subst hA
    obtain ⟨svy, rfl, _, _, _⟩ := hcsy
    clear hley
    simp only [go_sem, simprocAttr, verV]
    refine draw_ok (N := 3000) (.take 0 (.take 1 (.take 2 (.take 3 (.take 4 (.take 5 (.take 6 (.take 7 (.take 8 (.take 9 (.take 10 (.take 11 (.take 12 .done))))))))))))) [] hk' follows_mixed (by kernel_rfl) (by kernel_rfl) ?_
    simp only [go_sem, simprocAttr, q0]
    refine ⟨by omega, ?_⟩
    refine take_elem 5 (m := i - 1) rfl tySlice25 tySize38 rfl rfl (dk rfl) hcast (by omega) ?_
    simp only [go_sem, simprocAttr, q0]
    exact hJ (!(y.key.toList == x.key.toList)) _ (by rw [hke, strEq]; simp) (by simp only [go_sem, simprocAttr, verX, verV, List.map_cons, List.map_nil]; simp)
  ·rintro b hb
   cases b with
   | false =>
    have hke : keyEnd (grpS (ad.take i)) = some x.key := by simpa using hb
    have hip : 0 < i := by
     rcases Nat.eq_zero_or_pos i with h | h
     ·subst h
      simp [keyEnd, grpS] at hke
     ·exact h
    have hov : outV i dv (.slice Ax cur.length cx) = dv ++ [.slice Ax cur.length cx] := by unfold outV; rw [if_neg (by omega)]
    simp only [go_sem, simprocAttr, verX, verV, List.map_cons, List.map_nil, hov]
    refine rowChunk_ok (k := 1) (t := 25) (n := (dv ++ [(.slice Ax cur.length cx : Value)]).length) (v := .slice Ao (dv ++ [(.slice Ax cur.length cx : Value)]).length co) (R1 := []) (R2 := [verRow (.slice Ax cur.length cx) cur]) (f := fun v => [v]) (l := (dv ++ [(.slice Ax cur.length cx : Value)])) rfl (fun _ => rfl) (by omega) (by simp) rfl fun gb tl hv hmx htl => ?_
    cases hv
    have hdl : (dv ++ [(.slice Ax cur.length cx : Value)]).length = dv.length + 1 := by simp
    simp only [List.nil_append, List.append_nil]
    have hch := (chunks_map (f := fun v : Value => [v]) (k := 1) (fun _ => rfl) (dv ++ [(.slice Ax cur.length cx : Value)])).app htl
    have hget := chunk_get hch (m := dv.length) (c := [(.slice Ax cur.length cx : Value)]) (by rw [List.getElem?_append_left (by simp), List.getElem?_map]; simp)
    have hlz : ∀ z : Value, (dv ++ [z]).length + tl.length ≤ maxLen := fun z => by rw [show (dv ++ [z]).length = dv.length + 1 from by simp]; omega
    have hget1 := get1_of hget
    have hlenb : dv.length * 1 + 1 ≤ (((dv ++ [(.slice Ax cur.length cx : Value)]).map (fun v : Value => [v]) ++ tl).flatten.map SC.v).length := by rw [List.length_map, hch.len, List.length_append, List.length_map, hdl]; omega
    refine draw_ok (N := 3000) (.take 0 (.take 1 (.take 2 (.take 3 (.take 4 (.take 5 (.take 6 (.take 7 (.take 8 (.take 10 (.alt 9 (.alt 11 (.alt 12 (.take 13 (.alt 14 .done .last)) .last) .last) (.alt 11 (.alt 9 (.alt 12 (.take 13 (.alt 14 .done .last)) .last) .last) .last)))))))))))) [6] (QOk_body _ _ _) follows_mixed (by kernel_rfl) (by kernel_rfl) ?_
    simp only [go_sem, simprocAttr]
    refine ⟨by omega, ?_⟩
    refine ⟨by omega, ?_⟩
    refine take_own 6 (g := gb) (m := dv.length) rfl tySlice110 tySize25 rfl rfl (dk rfl) (by omega) (by omega) ?_
    simp only [go_sem, simprocAttr, hget1]
    refine ⟨?_, ?_⟩
    ·intro g7
     refine any_ok2 (N := 3000) (append_does (R1 := []) (news := verX (x, .slice As x.secs.length cs)) rfl tySlice25 tyApp38 rfl rfl rfl rfl (dk rfl) (verX_one x _ _ _) (by unfold maxLen; omega) (by omega) (fun G hG => tsl_blk hG (b := ⟨7, g7, 38, (verX (x, .slice As x.secs.length cs)).map .v⟩) (by simp [verX, verV]) (by simp [verX, verV]) (by unfold maxLen; omega))) (QOk_body _ _ _) rfl (by first | exact .inl rfl | exact .inr ⟨_, _, rfl, rfl⟩) (by intro _ hK; first | (obtain ⟨_, _, _, _, rfl⟩ := hK; exact ⟨rfl, fun _ h => h⟩) | (obtain ⟨_, _, rfl⟩ := hK; exact ⟨rfl, fun _ h => h⟩) | (obtain ⟨_, _, _, _, _, _, rfl⟩ := hK; exact ⟨rfl, fun _ h => List.mem_cons_of_mem _ h⟩) | (obtain ⟨_, _, _, _, _, _, _, rfl⟩ := hK; exact ⟨rfl, fun _ h => List.mem_cons_of_mem _ h⟩) | (obtain rfl := hK; exact ⟨rfl, fun _ h => h⟩)) ?_
     rintro _ ⟨Az, cz, rfl⟩
     simp only [go_sem, simprocAttr]
     refine take_own 6 (g := gb) (m := dv.length) rfl tySlice110 tySize25 rfl rfl (dk rfl) (by omega) (by omega) ?_
     simp only [go_sem, simprocAttr, hlenb, set_last]
     refine ⟨by omega, ?_⟩
     refine chunkRow_ok (B1 := [_]) 1 (dv ++ [(.slice Az (cur.length + 1) cz : Value)]).length (fun v => [v]) (dv ++ [(.slice Az (cur.length + 1) cz : Value)]) tl rfl (fun _ => rfl) htl rfl (hlz _) ?_
     refine again_ok (i + 1, (some ⟨gb, 0, none⟩, (dv ++ [(.slice Az (cur.length + 1) cz : Value)]).length + tl.length), dv, dg, cur ++ [(x, .slice As x.secs.length cs)], (Az, cz), G6) (hC.more hle6 hx hip hke hxg) (by show l.length - (i + 1) < l.length - i; omega) (by simp only [go_sem, simprocAttr, outV, outRow, verRow]; simp [verX])
    ·intro g7
     refine any_ok2 (N := 3000) (append_does (R1 := []) (news := verX (x, .slice As x.secs.length cs)) rfl tySlice25 tyApp38 rfl rfl rfl rfl (dk rfl) (verX_one x _ _ _) (by unfold maxLen; omega) (by omega) (fun G hG => tsl_blk hG (b := ⟨7, g7, 38, (verX (x, .slice As x.secs.length cs)).map .v⟩) (by simp [verX, verV]) (by simp [verX, verV]) (by unfold maxLen; omega))) (QOk_body _ _ _) rfl (by first | exact .inl rfl | exact .inr ⟨_, _, rfl, rfl⟩) (by intro _ hK; first | (obtain ⟨_, _, _, _, rfl⟩ := hK; exact ⟨rfl, fun _ h => h⟩) | (obtain ⟨_, _, rfl⟩ := hK; exact ⟨rfl, fun _ h => h⟩) | (obtain ⟨_, _, _, _, _, _, rfl⟩ := hK; exact ⟨rfl, fun _ h => List.mem_cons_of_mem _ h⟩) | (obtain ⟨_, _, _, _, _, _, _, rfl⟩ := hK; exact ⟨rfl, fun _ h => List.mem_cons_of_mem _ h⟩) | (obtain rfl := hK; exact ⟨rfl, fun _ h => h⟩)) ?_
     rintro _ ⟨Az, cz, rfl⟩
     simp only [go_sem, simprocAttr]
     refine take_own 6 (g := gb) (m := dv.length) rfl tySlice110 tySize25 rfl rfl (dk rfl) (by omega) (by omega) ?_
     simp only [go_sem, simprocAttr, hlenb, set_last]
     refine ⟨by omega, ?_⟩
     refine chunkRow_ok (B1 := [_]) 1 (dv ++ [(.slice Az (cur.length + 1) cz : Value)]).length (fun v => [v]) (dv ++ [(.slice Az (cur.length + 1) cz : Value)]) tl rfl (fun _ => rfl) htl rfl (hlz _) ?_
     refine again_ok (i + 1, (some ⟨gb, 0, none⟩, (dv ++ [(.slice Az (cur.length + 1) cz : Value)]).length + tl.length), dv, dg, cur ++ [(x, .slice As x.secs.length cs)], (Az, cz), G6) (hC.more hle6 hx hip hke hxg) (by show l.length - (i + 1) < l.length - i; omega) (by simp only [go_sem, simprocAttr, outV, outRow, verRow]; simp [verX])
   | true =>
    have hke : keyEnd (grpS (ad.take i)) ≠ some x.key := by simpa using hb
    simp only [go_sem, simprocAttr, verX, verV, List.map_cons, List.map_nil]
    intro g6
    refine read_ok (R1 := [outRow (.slice Ao (outV i dv (.slice Ax cur.length cx)).length co) (outV i dv (.slice Ax cur.length cx))]) (R2 := []) rfl (fun G8 hle8 hsl8 => ?_) (fun _ _ q => q) (by show (12 : Nat) ≠ 0; decide)
    have hC2 := hC.new (hle8 G5 (by simp)) hx hke (hxg.mono (hle8 G6 (by simp))) (vx_to (fun p hp => (hC.cok p hp).mono (hle8 G5 (by simp))) hsl8)
    obtain ⟨dw, hdw⟩ : ∃ dw, dw = outV i dv (.slice Ax cur.length cx) := ⟨_, rfl⟩
    obtain ⟨du, hdu⟩ : ∃ du, du = grpS (ad.take i) := ⟨_, rfl⟩
    rw [← hdw] at hC2 ⊢
    rw [← hdu] at hC2
    obtain ⟨hn1, _⟩ := hC2.most
    clear hsl8
    simp only [List.append_nil]
    refine row_ok 38 12 ?_
    refine pk (append_does (R1 := [_]) (R2 := []) (news := [.slice none 0 0]) rfl tySlice110 tyApp25 rfl rfl rfl rfl (dk rfl) (fun u hu => by rw [List.mem_singleton.1 hu]; rfl) (by unfold maxLen; omega) (by omega) (fun G hG => tsl_blk hG (b := ⟨6, g6, 25, [.v (.slice none 0 0)]⟩) List.mem_cons_self rfl (by unfold maxLen; omega))) ?_
    rintro _ ⟨Bo, bo, rfl⟩
    simp only [go_sem, simprocAttr]
    rw [show dw.length + 1 = (dw ++ [(.slice none 0 0 : Value)]).length from by simp, show (dw.flatMap fun v => [v]) ++ [(.slice none 0 0 : Value)] = (dw ++ [(.slice none 0 0 : Value)]).flatMap fun v => [v] from by simp]
    refine rowChunk_ok (k := 1) (t := 25) (n := (dw ++ [(.slice none 0 0 : Value)]).length) (v := .slice Bo (dw ++ [(.slice none 0 0 : Value)]).length bo) (R1 := [⟨.slice none 0 0, 38, 12, 0, []⟩]) (R2 := []) (f := fun v => [v]) (l := (dw ++ [(.slice none 0 0 : Value)])) rfl (fun _ => rfl) (by omega) (by simp) rfl fun gb tl hv hmx htl => ?_
    cases hv
    have hdl : (dw ++ [(.slice none 0 0 : Value)]).length = dw.length + 1 := by simp
    simp only [List.nil_append, List.append_nil]
    have hch := (chunks_map (f := fun v : Value => [v]) (k := 1) (fun _ => rfl) (dw ++ [(.slice none 0 0 : Value)])).app htl
    have hget := chunk_get hch (m := dw.length) (c := [(.slice none 0 0 : Value)]) (by rw [List.getElem?_append_left (by simp), List.getElem?_map]; simp)
    have hlz : ∀ z : Value, (dw ++ [z]).length + tl.length ≤ maxLen := fun z => by rw [show (dw ++ [z]).length = dw.length + 1 from by simp]; omega
    have hget1 := get1_of hget
    have hlenb : dw.length * 1 + 1 ≤ (((dw ++ [(.slice none 0 0 : Value)]).map (fun v : Value => [v]) ++ tl).flatten.map SC.v).length := by rw [List.length_map, hch.len, List.length_append, List.length_map, hdl]; omega
    refine draw_ok (N := 3000) (.take 0 (.take 1 (.take 2 (.take 3 (.take 4 (.take 5 (.take 6 (.take 7 (.take 8 (.take 10 (.alt 9 (.alt 11 (.alt 12 (.take 13 (.alt 14 .done .last)) .last) .last) (.alt 11 (.alt 9 (.alt 12 (.take 13 (.alt 14 .done .last)) .last) .last) .last)))))))))))) [7] (QOk_body _ _ _) follows_mixed (by kernel_rfl) (by kernel_rfl) ?_
    simp only [go_sem, simprocAttr]
    refine ⟨by omega, ?_⟩
    refine ⟨by omega, ?_⟩
    refine take_own 7 (g := gb) (m := dw.length) rfl tySlice110 tySize25 rfl rfl (dk rfl) (by omega) (by omega) ?_
    simp only [go_sem, simprocAttr, hget1]
    refine ⟨?_, ?_⟩
    ·intro g7
     refine any_ok2 (N := 3000) (append_does (R1 := []) (news := verX (x, .slice As x.secs.length cs)) rfl tySlice25 tyApp38 rfl rfl rfl rfl (dk rfl) (verX_one x _ _ _) (by unfold maxLen; omega) (by omega) (fun G hG => tsl_blk hG (b := ⟨8, g7, 38, (verX (x, .slice As x.secs.length cs)).map .v⟩) (by simp [verX, verV]) (by simp [verX, verV]) (by unfold maxLen; omega))) (QOk_body _ _ _) rfl (by first | exact .inl rfl | exact .inr ⟨_, _, rfl, rfl⟩) (by intro _ hK; first | (obtain ⟨_, _, _, _, rfl⟩ := hK; exact ⟨rfl, fun _ h => h⟩) | (obtain ⟨_, _, rfl⟩ := hK; exact ⟨rfl, fun _ h => h⟩) | (obtain ⟨_, _, _, _, _, _, rfl⟩ := hK; exact ⟨rfl, fun _ h => List.mem_cons_of_mem _ h⟩) | (obtain ⟨_, _, _, _, _, _, _, rfl⟩ := hK; exact ⟨rfl, fun _ h => List.mem_cons_of_mem _ h⟩) | (obtain rfl := hK; exact ⟨rfl, fun _ h => h⟩)) ?_
     rintro _ ⟨Az, cz, rfl⟩
     simp only [go_sem, simprocAttr]
     refine take_own 7 (g := gb) (m := dw.length) rfl tySlice110 tySize25 rfl rfl (dk rfl) (by omega) (by omega) ?_
     simp only [go_sem, simprocAttr, hlenb, set_last]
     refine ⟨by omega, ?_⟩
     refine chunkRow_ok (B1 := [_]) 1 (dw ++ [(.slice Az 1 cz : Value)]).length (fun v => [v]) (dw ++ [(.slice Az 1 cz : Value)]) tl rfl (fun _ => rfl) htl rfl (hlz _) ?_
     refine again_ok (i + 1, (some ⟨gb, 0, none⟩, (dw ++ [(.slice Az 1 cz : Value)]).length + tl.length), dw, du, [(x, .slice As x.secs.length cs)], (Az, cz), G8) hC2 (by show l.length - (i + 1) < l.length - i; omega) (by simp only [go_sem, simprocAttr, outV, outRow, verRow]; simp [verX])
    ·intro g7
     refine any_ok2 (N := 3000) (append_does (R1 := []) (news := verX (x, .slice As x.secs.length cs)) rfl tySlice25 tyApp38 rfl rfl rfl rfl (dk rfl) (verX_one x _ _ _) (by unfold maxLen; omega) (by omega) (fun G hG => tsl_blk hG (b := ⟨8, g7, 38, (verX (x, .slice As x.secs.length cs)).map .v⟩) (by simp [verX, verV]) (by simp [verX, verV]) (by unfold maxLen; omega))) (QOk_body _ _ _) rfl (by first | exact .inl rfl | exact .inr ⟨_, _, rfl, rfl⟩) (by intro _ hK; first | (obtain ⟨_, _, _, _, rfl⟩ := hK; exact ⟨rfl, fun _ h => h⟩) | (obtain ⟨_, _, rfl⟩ := hK; exact ⟨rfl, fun _ h => h⟩) | (obtain ⟨_, _, _, _, _, _, rfl⟩ := hK; exact ⟨rfl, fun _ h => List.mem_cons_of_mem _ h⟩) | (obtain ⟨_, _, _, _, _, _, _, rfl⟩ := hK; exact ⟨rfl, fun _ h => List.mem_cons_of_mem _ h⟩) | (obtain rfl := hK; exact ⟨rfl, fun _ h => h⟩)) ?_
     rintro _ ⟨Az, cz, rfl⟩
     simp only [go_sem, simprocAttr]
     refine take_own 7 (g := gb) (m := dw.length) rfl tySlice110 tySize25 rfl rfl (dk rfl) (by omega) (by omega) ?_
     simp only [go_sem, simprocAttr, hlenb, set_last]
     refine ⟨by omega, ?_⟩
     refine chunkRow_ok (B1 := [_]) 1 (dw ++ [(.slice Az 1 cz : Value)]).length (fun v => [v]) (dw ++ [(.slice Az 1 cz : Value)]) tl rfl (fun _ => rfl) htl rfl (hlz _) ?_
     refine again_ok (i + 1, (some ⟨gb, 0, none⟩, (dw ++ [(.slice Az 1 cz : Value)]).length + tl.length), dw, du, [(x, .slice As x.secs.length cs)], (Az, cz), G8) hC2 (by show l.length - (i + 1) < l.length - i; omega) (by simp only [go_sem, simprocAttr, outV, outRow, verRow]; simp [verX])
 ·have hin : i = ad.length := by omega
  have q : decide ((i : Int) < (l.length : Int)) = false := decide_eq_false (by omega)
  simp only [go_sem, simprocAttr, q]
  refine read_ok (R1 := [outRow (.slice Ao (outV i dv (.slice Ax cur.length cx)).length co) (outV i dv (.slice Ax cur.length cx))]) (R2 := []) rfl (fun G8 hle8 hsl8 => ?_) (fun _ _ q => q) (by show (12 : Nat) ≠ 0; decide)
  have hout := hC.outs (hle8 G5 (by simp)) (vx_to (fun p hp => (hC.cok p hp).mono (hle8 G5 (by simp))) hsl8)
  clear hsl8
  simp only [List.append_nil]
  obtain ⟨dw, hdw⟩ : ∃ dw, dw = outV i dv (.slice Ax cur.length cx) := ⟨_, rfl⟩
  rw [← hdw] at hout ⊢
  rw [hin, List.take_length] at hout
  obtain ⟨o1, o2, o3⟩ := hout
  refine read_ok (R1 := []) (R2 := []) rfl (fun G9 hle9 hsl9 => ?_) (fun _ _ q => q) (by show (1 : Nat) ≠ 0; decide)
  have hO : GrpsG G9 (.slice Ao dw.length co) (grpS ad) := by
   refine ⟨dw.map fun v => [v], ⟨by rw [List.length_map]; exact o1, fun cs hcs => ?_, fun k cs g h1 h2 => ?_⟩, ?_⟩
   ·obtain ⟨v, _, rfl⟩ := List.mem_map.1 hcs
    rfl
   ·rw [List.getElem?_map] at h1
    obtain ⟨v, hv, rfl⟩ := Option.map_eq_some_iff.1 h1
    exact ⟨v, rfl, Sq.mono (o2 k v g hv h2) verG_mono (hle9 G8 List.mem_cons_self)⟩
   ·rw [← o1, ← List.flatMap_def]
    exact hsl9
  refine fin_ret (G := G0) Tryz.results59 ?_
  simp only [go_sem, simprocAttr]
  intro aa w' _ hle
  refine ⟨ad, ?_, ?_, Sq.mono hO grpG_mono (hle G9 (by simp))⟩
  ·have e : s.vers.filter (selB nm pre) = fx.map (·.1) := by
    rw [hvx, hfx, List.filter_map]
    rfl
   rw [e, had]
   exact hperm.map _
  ·rw [had, List.pairwise_map]
   exact hsort
end Go.Proofs.YtohdfcnjcpjdcaaGreat
/- Rows of a listing; what is asked is checked; a page; where a delimiter stands. Conditions: as each law states them. -/
namespace Go.Proofs.YtohdfcnjcpjdcaaGreat
open Go.RowKit
set_option linter.unusedSimpArgs false
/-- a row of a listing -/
structure RowM where
 key : ByteArray
 common : Bool
 id : Int
 marker : Bool
 latest : Bool
 size : Int
 tier : Int
def rowC (x : RowM) : List Value := [.string x.key, .bool x.common, .int .i64 x.id, .bool x.marker, .bool x.latest, .int .i64 x.size, .int .i64 x.tier]
def RowMG (_ : GW) (x : RowM) (cs : List Value) : Prop := cs = rowC x
theorem rowMG_mono : MonoR RowMG := fun _ _ _ _ _ h => h
def RowsG (G : GW) (v : Value) (l : List RowM) : Prop := Sq RowMG 57 7 G v l
def rowRow (v : Value) (l : List RowM) : Rw := ⟨v, 57, 7, l.length, l.flatMap rowC⟩
theorem rows_of {G : GW} {v : Value} {l : List RowM} (h : Sl G 57 7 l.length v (l.flatMap rowC)) : RowsG G v l := sq_of_flat (f := rowC) (fun _ _ => rfl) (fun _ => rfl) h
theorem rowC_one (x : RowM) : ∀ u ∈ rowC x, u.oneCell' = true := fun u hu => List.all_eq_true.1 (show (rowC x).all (fun u => u.oneCell') = true from rfl) u hu
def rowV (v : Ver) (latest : Bool) : RowM := ⟨v.key, false, v.id, v.marker, latest, v.size, v.tier⟩
set_option maxRecDepth 100000 in
set_option maxHeartbeats 4000000 in
theorem row_does {x : Ver} {sv : Value} {b : Bool} {G0 : GW} (hW : G0.Wf) (hsv : IntsG G0 sv x.secs) :
  Calls Tryz.prog 60 #[.agg (verV x sv).toArray, .bool b] G0.w (Ret G0 fun v _ => v = .agg (rowC (rowV x b)).toArray) := by
 obtain ⟨Aw, cw, rfl, _⟩ := Sq.form hsv
 refine enterS (G := G0) (n := 17) 3000 hW Tryz.func60 rfl Tryz.ntmps60 (by simp) ?_
 simp only [go_sem, simprocAttr, verV]
 intro g1 g2
 refine fin_ret (G := G0) Tryz.results60 ?_
 simp only [go_sem, simprocAttr]
 intro aa w' _ _
 rfl
theorem flat_take {α : Type} {f : α → List Value} {k : Nat} (hk : ∀ x, (f x).length = k) : ∀ (l : List α) (m : Nat), (l.flatMap f).take (m * k) = (l.take m).flatMap f
 | l, 0 => by simp
 | [], m + 1 => by simp
 | x :: l, m + 1 => by
  rw [List.flatMap_cons, List.take_succ_cons, List.flatMap_cons, Nat.succ_mul, List.take_append, List.take_of_length_le (by rw [hk]; omega), hk, Nat.add_sub_cancel, flat_take hk l m]
/-! ### a page -/
set_option maxRecDepth 100000 in
set_option maxHeartbeats 4000000 in
theorem page_does {l : List RowM} {lv : Value} {most : Nat} {G0 : GW} (hW : G0.Wf) (h : RowsG G0 lv l) (hm : most ≤ 1000) :
  Calls Tryz.prog 62 #[lv, .int .i64 (most : Int)] G0.w (Ret G0 fun v G => ∃ pv, v = .tuple #[pv, .bool (decide ((most : Int) < (l.length : Int)))] ∧ RowsG G pv (l.take most)) := by
 obtain ⟨A, c, rfl, hc1, hc2⟩ := Sq.form h
 have hml := max_le
 refine enterS (G := G0) (n := 15) 3000 hW Tryz.func62 rfl Tryz.ntmps62 (by simp) ?_
 by_cases hlt : (most : Int) < (l.length : Int)
 ·have q : decide ((most : Int) < (l.length : Int)) = true := decide_eq_true hlt
  simp only [go_sem, simprocAttr, q]
  refine pk (cutv_does 0 most most rfl tySlice52 tySize57 rfl rfl ⟨_, _, rfl, by omega⟩ ⟨_, _, rfl, by omega⟩ (by simp) (dk rfl) (by omega) (by omega)) ?_
  rintro _ rfl
  have hA : (if 0 + most = 0 then A else A.map fun x => x.add (0 * 7)) = A := by
   split
   ·rfl
   ·cases A with
    | none => rfl
    | some a => simp [Addr.add]
  rw [hA]
  simp only [go_sem, simprocAttr]
  refine fin_ret (G := G0) Tryz.results62 ?_
  simp only [go_sem, simprocAttr]
  intro aa w' _ hle
  have h2 := (sq_flat (f := rowC) (fun _ _ _ q => q) h).cut (l := 0) (n' := most) (c' := most) (by omega) (Nat.le_refl _) (by omega)
  rw [hA, Nat.zero_mul, List.drop_zero, flat_take (f := rowC) (k := 7) (fun _ => rfl)] at h2
  refine ⟨_, rfl, Sq.mono (rows_of ?_) rowMG_mono (hle G0 (by simp))⟩
  rw [List.length_take, Nat.min_eq_left (by omega)]
  exact h2
 ·have q : decide ((most : Int) < (l.length : Int)) = false := decide_eq_false hlt
  simp only [go_sem, simprocAttr, q]
  refine fin_ret (G := G0) Tryz.results62 ?_
  simp only [go_sem, simprocAttr]
  intro aa w' _ hle
  refine ⟨_, rfl, ?_⟩
  rw [List.take_of_length_le (by omega)]
  exact Sq.mono h rowMG_mono (hle G0 (by simp))
/-! ### what is asked -/
def lchkS (s : Sta) (nm pre : ByteArray) (most : Int) : Int := if (s.bkts.any fun b => decide (b.name = nm)) = false then 6 else if rulErr ⟨pre, 0, 0⟩ ≠ 0 then rulErr ⟨pre, 0, 0⟩ else if (decide (most < 1) || decide (50 < most)) = true then 2 else 0
set_option maxRecDepth 100000 in
set_option maxHeartbeats 4000000 in
theorem lcheck1_does {b : Bkt} {nm : ByteArray} {g : Nat} {G0 : GW} (hW : G0.Wf) (hb : BlkG G0 g [.string nm]) :
  Calls Tryz.prog 81 #[.agg #[.string b.name, .int .i64 b.mode, .string b.rule.pre, .int .i64 b.rule.freeze, .int .i64 b.rule.drop], .pointer (some ⟨g, 0, none⟩)] G0.w (Ret G0 fun v _ => v = .bool (decide (b.name = nm))) := by
 refine enterV (G := G0) (n := 8) 3000 [.c (.v (.agg #[.string b.name, .int .i64 b.mode, .string b.rule.pre, .int .i64 b.rule.freeze, .int .i64 b.rule.drop])), .c (.q 0 g 0 0)] [⟨0, g, 0, [.string nm]⟩] hb.vw hW Tryz.func81 rfl Tryz.ntmps81 (by simp) ?_
 simp only [go_sem, simprocAttr]
 intro g1
 refine fin_ret (G := G0) Tryz.results81 ?_
 simp only [go_sem, simprocAttr]
 intro aa w' _ _
 exact congrArg Value.bool (strEq _ _)
set_option maxRecDepth 100000 in
set_option maxHeartbeats 8000000 in
theorem indexBkt_does {l : List Bkt} {lv : Value} {f : FuncId} {caps : Array Value} {p : Bkt → Bool} {G0 : GW} (hW : G0.Wf) (h : BktsG G0 lv l) (hf : isFn Tryz.prog f = true) (hc : ∀ G x, x ∈ l → G0.Le G → G.Wf → Calls Tryz.prog f (#[.agg #[.string x.name, .int .i64 x.mode, .string x.rule.pre, .int .i64 x.rule.freeze, .int .i64 x.rule.drop]] ++ caps) G.w (Ret G fun v _ => v = .bool (p x))) :
  Calls Tryz.prog 75 #[lv, .func (.func f) #[] caps] G0.w (Ret G0 fun v _ => v = .int .i64 (firstI p l)) := by
 obtain ⟨A, c, rfl, hc1, hc2⟩ := Sq.form h
 have hml := max_le
 refine enterS (G := G0) (n := 19) 3000 hW Tryz.func75 rfl Tryz.ntmps75 (by simp) ?_
 simp only [go_sem, simprocAttr]
 refine loop_ok (N := 3000) (ι := Nat) (fun i => ⟨[(0, .c (.v (.slice A l.length c))), (1, .c (.v (.func (.func f) #[] caps))), (7, .c (.v (.int .i64 (l.length : Int)))), (8, .c (.v (.int .i64 (i : Int))))], [], [], [], [G0], 0⟩)
  (fun i => i ≤ l.length ∧ ∀ k y, k < i → l[k]? = some y → p y = false)
  (fun i => l.length - i) (QOk_body _ _ _) 0 ⟨by omega, fun k y hk => absurd hk (by omega)⟩ (by simp only [go_sem, simprocAttr]; simp) ?_
 rintro i ⟨hi, hno⟩
 by_cases hlt : i < l.length
 ·have q : decide ((i : Int) < (l.length : Int)) = true := decide_eq_true (by omega)
  obtain ⟨x, hx⟩ : ∃ x, l[i]? = some x := ⟨_, List.getElem?_eq_getElem hlt⟩
  simp only [go_sem, simprocAttr, q]
  refine pk (elem_does (R := BktG) (l := l) (m := i) rfl tySlice24 tySize42 rfl rfl (dk rfl) rfl hx (fun G hG => Sq.mono h bktG_mono (hG.le G0 (by simp)))) ?_
  rintro _ ⟨g4, o', cs, G2, hcl, ⟨rfl, _, _⟩, rfl⟩
  simp only [go_sem, simprocAttr]
  refine pk (callD_does (fun r _ => r = .bool (p x)) rfl rfl rfl rfl hf rfl (dk rfl) (fun G hG => hc G x (List.mem_of_getElem? hx) (hG.le G0 (by simp)) hG.wf)) ?_
  rintro _ ⟨_, G3, rfl, hn3, rfl⟩
  clear hn3
  simp only [go_sem, simprocAttr]
  refine Wb_mk (fun hp => ?_) (fun hp => ?_)
  ·refine fin_ret (G := G0) Tryz.results75 ?_
   simp only [go_sem, simprocAttr]
   intro aa w' _ _
   rw [firstI_at hx hp hno]
   rfl
  ·refine ⟨by omega, ?_⟩
   refine again_ok (i + 1) ⟨hlt, fun k y hk hy => ?_⟩ (by omega) (by simp only [go_sem, simprocAttr]; simp)
   by_cases e : k = i
   ·subst e
    rw [hx] at hy; cases hy
    exact hp
   ·exact hno k y (by omega) hy
 ·have q : decide ((i : Int) < (l.length : Int)) = false := decide_eq_false (by omega)
  simp only [go_sem, simprocAttr, q]
  refine fin_ret (G := G0) Tryz.results75 ?_
  simp only [go_sem, simprocAttr]
  intro aa w' _ _
  rw [firstI_no fun k y hy => hno k y (by have := (List.getElem?_eq_some_iff.1 hy).1; omega) hy]
  rfl
set_option maxRecDepth 100000 in
set_option maxHeartbeats 8000000 in
theorem containsBkt_does {l : List Bkt} {lv : Value} {f : FuncId} {caps : Array Value} {p : Bkt → Bool} {G0 : GW} (hW : G0.Wf) (h : BktsG G0 lv l) (hf : isFn Tryz.prog f = true) (hc : ∀ G x, x ∈ l → G0.Le G → G.Wf → Calls Tryz.prog f (#[.agg #[.string x.name, .int .i64 x.mode, .string x.rule.pre, .int .i64 x.rule.freeze, .int .i64 x.rule.drop]] ++ caps) G.w (Ret G fun v _ => v = .bool (p x))) :
  Calls Tryz.prog 80 #[lv, .func (.func f) #[] caps] G0.w (Ret G0 fun v _ => v = .bool (l.any p)) := by
 obtain ⟨A, c, rfl, hc1, hc2⟩ := Sq.form h
 have hml := max_le
 refine enterS (G := G0) (n := 9) 3000 hW Tryz.func80 rfl Tryz.ntmps80 (by simp) ?_
 simp only [go_sem, simprocAttr]
 refine pk (call_does (fun r _ => r = .int .i64 (firstI p l)) rfl rfl (by kernel_rfl) rfl (dk rfl) (fun G hG => indexBkt_does hG.wf (Sq.mono h bktG_mono (hG.le G0 (by simp))) hf (fun G' x hx hl hw => hc G' x hx ((hG.le G0 (by simp)).trans hl) hw))) ?_
 rintro _ ⟨_, G1, rfl, hn1, rfl⟩
 simp only [go_sem, simprocAttr]
 refine fin_ret (G := G0) Tryz.results80 ?_
 simp only [go_sem, simprocAttr]
 intro aa w' _ _
 exact congrArg Value.bool (firstI_any p l)
set_option maxRecDepth 100000 in
set_option maxHeartbeats 8000000 in
theorem lcheck_does {s : Sta} {sv : Value} {nm pre : ByteArray} {most : Int} {G0 : GW} (hW : G0.Wf) (hs : StaG G0 sv s) (hok : okSt s = true) (hp : pre.size ≤ maxLen) :
  Calls Tryz.prog 58 #[sv, .string nm, .string pre, .int .i64 most] G0.w (Ret G0 fun v _ => v = .int .i64 (lchkS s nm pre most)) := by
 obtain ⟨A1, c1, A2, c2, A3, c3, A4, c4, A5, c5, rfl, hP⟩ := hs.form
 have hml := max_le
 refine enterS (G := G0) (n := 33) 3000 hW Tryz.func58 rfl Tryz.ntmps58 (by simp) ?_
 simp only [go_sem, simprocAttr]
 intro g1 g2
 refine pk (call_does (fun v _ => v = .int .i64 0) rfl rfl (by kernel_rfl) rfl (dk rfl) (fun G hG => by rw [← errSt_ok hok]; exact check_does hG.wf (hP.mono (hG.le G0 (by simp))).g)) ?_
 rintro _ ⟨_, G1, rfl, hn1, rfl⟩
 clear hn1
 simp only [go_sem, simprocAttr]
 refine pk (call_does (fun v _ => v = .bool (s.bkts.any fun b => decide (b.name = nm))) rfl rfl (by kernel_rfl) rfl (dk rfl) (fun G hG => Ret.anyM (M' := (G.sub [g2]).M) (containsBkt_does (G0 := G.sub [g2]) (p := fun b => decide (b.name = nm)) (hG.wf.sub [g2]) (hP.mono ((hG.le G0 (by simp)).trans (GW.le_sub _ _))).bkts (by kernel_rfl) (fun G' x hx hl hw => lcheck1_does hw ((hG.blkG (b := ⟨1, g2, 9, [.v (.string nm)]⟩) (ks := [g2]) (by simp) (by simp)).mono hl))))) ?_
 rintro _ ⟨_, G2, rfl, hn2, rfl⟩
 clear hn2
 obtain ⟨r, hrr⟩ : ∃ r, r = lchkS s nm pre most := ⟨_, rfl⟩
 rw [← hrr]
 unfold lchkS at hrr
 cases hany : s.bkts.any fun b => decide (b.name = nm) with
 | false =>
  rw [if_pos hany] at hrr
  subst hrr
  simp only [go_sem, simprocAttr]
  refine fin_ret (G := G0) Tryz.results58 ?_
  simp only [go_sem, simprocAttr]
  intro aa w' _ _
  rfl
 | true =>
  rw [if_neg (by rw [hany]; simp)] at hrr
  simp only [go_sem, simprocAttr]
  refine pk (call_does (fun v _ => v = .int .i64 (rulErr ⟨pre, 0, 0⟩)) rfl rfl (by kernel_rfl) rfl (dk rfl) (fun G hG => checkRule_does (r := ⟨pre, 0, 0⟩) hG.wf hp)) ?_
  rintro _ ⟨_, G3, rfl, hn3, rfl⟩
  clear hn3
  by_cases hr : rulErr ⟨pre, 0, 0⟩ = 0
  ·have q : decide (rulErr ⟨pre, 0, 0⟩ = 0) = true := decide_eq_true hr
   rw [if_neg (fun h => h hr)] at hrr
   simp only [go_sem, simprocAttr, q, Bool.not_true]
   refine Wb_mk (fun h2 => ?_) (fun h2 => ?_)
   ·rw [if_pos h2] at hrr
    subst hrr
    refine fin_ret (G := G0) Tryz.results58 ?_
    simp only [go_sem, simprocAttr]
    intro aa w' _ _
    rfl
   ·rw [if_neg (by rw [h2]; simp)] at hrr
    subst hrr
    refine fin_ret (G := G0) Tryz.results58 ?_
    simp only [go_sem, simprocAttr]
    intro aa w' _ _
    rfl
  ·have q : decide (rulErr ⟨pre, 0, 0⟩ = 0) = false := decide_eq_false hr
   rw [if_pos hr] at hrr
   subst hrr
   simp only [go_sem, simprocAttr, q, Bool.not_false]
   refine fin_ret (G := G0) Tryz.results58 ?_
   simp only [go_sem, simprocAttr]
   intro aa w' _ _
   rfl
end Go.Proofs.YtohdfcnjcpjdcaaGreat
/- strings.Index of a delimiter of at most one byte. Conditions: as each law states them. -/
namespace Go.Proofs.YtohdfcnjcpjdcaaGreat
open Go.RowKit
set_option linter.unusedSimpArgs false
set_option maxRecDepth 100000 in
set_option maxHeartbeats 1000000 in
theorem idxByte_any (s : ByteArray) (c : UInt8) (w : World) : Calls Tryz.prog 122 #[.string s, .int .u8 (c.toNat : Int)] w fun e w' => e = .returned (.int .i64 (Lib.indexByte s.data.toList c)) ∧ w = w' := by
 go_enter Tryz.func122, Tryz.ntmps122
 go_wp2
 rw [run_callFunc_extern Tryz.func155 (by kernel_rfl) (by kernel_rfl) (by kernel_rfl) (e := Extern.BytealgIndexByte.indexByte) (by kernel_rfl), Lib.run_indexByteString]
 simp only [Result.andThen]
 rw [Oper.upon_value]
 go_wp2
 go_ret
 have e : (c.toNat : Int).toNat.toUInt8 = c := by simp
 rw [← e]
 exact ⟨rfl, rfl⟩
/-- where a delimiter of at most one byte stands -/
def idxS (s : ByteArray) : Option UInt8 → Int
 | none => 0
 | some c => Lib.indexByte s.data.toList c
def dlm : Option UInt8 → ByteArray
 | none => ⟨#[]⟩
 | some c => ⟨#[c]⟩
set_option maxRecDepth 100000 in
set_option maxHeartbeats 8000000 in
theorem lIndex_does {s : ByteArray} {d : Option UInt8} {G0 : GW} (hW : G0.Wf) :
  Calls Tryz.prog 91 #[.string s, .string (dlm d)] G0.w (Ret G0 fun v _ => v = .int .i64 (idxS s d)) := by
 refine enterS (G := G0) (n := 143) 3000 hW Tryz.func91 rfl Tryz.ntmps91 (by simp) ?_
 cases d with
 | none =>
  have q : decide (((dlm none).size : Int) = 0) = true := rfl
  simp only [go_sem, simprocAttr, q]
  refine fin_ret (G := G0) Tryz.results91 ?_
  simp only [go_sem, simprocAttr]
  intro aa w' _ _
  rfl
 | some c =>
  have q : decide (((dlm (some c)).size : Int) = 0) = false := rfl
  have q1 : decide (((dlm (some c)).size : Int) = 1) = true := rfl
  simp only [go_sem, simprocAttr, q, q1]
  refine Wb_mk (fun h => ?_) (fun h => ?_)
  ·refine fin_ret (G := G0) Tryz.results91 ?_
   simp only [go_sem, simprocAttr]
   intro aa w' _ _
   have e : s.data.toList = [c] := by
    have := eq_of_beq h
    rw [toL, toL] at this
    exact this.symm
   unfold idxS
   rw [e]
   simp [Lib.indexByte]
   rfl
  ·have hby : byteAt (dlm (some c)) 0 = (c.toNat : Int) := rfl
   simp only [go_sem, simprocAttr, q, q1, hby]
   refine ⟨by show (0 : Int) < ((1 : Nat) : Int); decide, ?_⟩
   refine pk (call_does (fun v _ => v = .int .i64 (idxS s (some c))) rfl rfl (by kernel_rfl) rfl (dk rfl) (fun G hG => ret_of (idxByte_any s c _) (fun e w' h => ⟨_, h.1, rfl, by rw [← h.2]; exact Below.refl _ _⟩))) ?_
   rintro _ ⟨_, G1, rfl, hn1, rfl⟩
   clear hn1
   simp only [go_sem, simprocAttr]
   refine fin_ret (G := G0) Tryz.results91 ?_
   simp only [go_sem, simprocAttr]
   intro aa w' _ _
   rfl
set_option maxRecDepth 100000 in
set_option maxHeartbeats 4000000 in
theorem sIndex_does {s : ByteArray} {d : Option UInt8} {G0 : GW} (hW : G0.Wf) :
  Calls Tryz.prog 61 #[.string s, .string (dlm d)] G0.w (Ret G0 fun v _ => v = .int .i64 (idxS s d)) := by
 refine enterS (G := G0) (n := 8) 3000 hW Tryz.func61 rfl Tryz.ntmps61 (by simp) ?_
 simp only [go_sem, simprocAttr]
 refine pk (call_does (fun v _ => v = .int .i64 (idxS s d)) rfl rfl (by kernel_rfl) rfl (dk rfl) (fun G hG => lIndex_does hG.wf)) ?_
 rintro _ ⟨_, G1, rfl, hn1, rfl⟩
 clear hn1
 simp only [go_sem, simprocAttr]
 refine fin_ret (G := G0) Tryz.results61 ?_
 simp only [go_sem, simprocAttr]
 intro aa w' _ _
 rfl
end Go.Proofs.YtohdfcnjcpjdcaaGreat
/- list.Versions. Conditions: as each law states them. -/
namespace Go.Proofs.YtohdfcnjcpjdcaaGreat
open Go.RowKit
set_option linter.unusedSimpArgs false
theorem getLast_split {α : Type} {l : List α} (h : l ≠ []) (d : α) : l.dropLast ++ [l.getLast?.getD d] = l := by
 rw [List.getLast?_eq_some_getLast h, Option.getD_some, List.dropLast_concat_getLast h]
theorem addV_flat (out : List (List Ver)) (x : Ver) : (addV out x).flatten = out.flatten ++ [x] := by
 unfold addV
 split
 ·rename_i h
  have hne : out ≠ [] := fun e => by subst e; simp [keyEnd] at h
  conv => rhs; rw [← getLast_split hne []]
  simp
 ·simp
theorem grpS_flatG (l : List Ver) : ∀ out, (l.foldl addV out).flatten = out.flatten ++ l := by
 induction l with
 | nil => intro out; simp
 | cons x l ih => intro out; rw [List.foldl_cons, ih, addV_flat, List.append_assoc]; rfl
theorem grpS_flat (l : List Ver) : (grpS l).flatten = l := by
 have := grpS_flatG l []
 simpa [grpS] using this
theorem grpS_neG (l : List Ver) : ∀ out : List (List Ver), (∀ g ∈ out, g ≠ []) → ∀ g ∈ l.foldl addV out, g ≠ [] := by
 induction l with
 | nil => intro out h; exact h
 | cons x l ih =>
  intro out h
  refine ih _ fun g hg => ?_
  unfold addV at hg
  split at hg
  ·rcases List.mem_append.1 hg with hg | hg
   ·exact h g ((List.dropLast_sublist _).subset hg)
   ·rw [List.mem_singleton.1 hg]; simp
  ·rcases List.mem_append.1 hg with hg | hg
   ·exact h g hg
   ·rw [List.mem_singleton.1 hg]; simp
theorem grpS_ne (l : List Ver) : ∀ g ∈ grpS l, g ≠ [] := grpS_neG l [] fun g h => by cases h
def grpRows : List Ver → List RowM
 | [] => []
 | v :: r => rowV v true :: r.map fun v => rowV v false
def versRows (gs : List (List Ver)) : List RowM := gs.flatMap grpRows
end Go.Proofs.YtohdfcnjcpjdcaaGreat
