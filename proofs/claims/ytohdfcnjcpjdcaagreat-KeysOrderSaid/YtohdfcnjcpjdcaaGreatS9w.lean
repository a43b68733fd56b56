/- versions. Conditions: as each law states them. -/
import Derived.Test.YtohdfcnjcpjdcaaGreatS8w
namespace Go.Proofs.YtohdfcnjcpjdcaaGreat
open Go.RowKit
set_option linter.unusedSimpArgs false
theorem repl_none : ∀ (B : List Bl), repl [] B = B
 | [] => rfl
 | ⟨i, g, t, cs⟩ :: r => by
  show ⟨i, g, t, pickCs [] i cs⟩ :: repl [] r = _
  rw [repl_none r]
  rfl
/-- a call with rows handed, in a region that draws -/
theorem anyH_ok {P : Program} {E : Env} {σ : St} {o : Oper} {k : Cont} {N : Nat} {ops : Array Oper} {B : List Bl} {V : List Vw} {fu i : Nat} {listed : Array Bool} {p : Plan} {R1 R2 : List Rw} {T : Value → List (List Value) → List Rw → GW → Prop}
  (hd : Does P E σ o (fun σ' => ∃ v css R G, T v css R G ∧ css.length = ([] : List Nat).length ∧ (∀ s ∈ σ.snaps, s.Le G) ∧ σ' = (St.seen { σ with blks := repl (([] : List Nat).zip (upV css)) σ.blks, rows := R1 ++ R ++ R2 } G).put o.dst (.c (.v v)))) (hk : k.ok) (hi : ops[i]? = some o) (hg : gdOk ops σ o)
  (h : ∀ σ', (∃ v R G, T v [] R G ∧ (∀ s ∈ σ.snaps, s.Le G) ∧ σ' = (St.seen { σ with rows := R1 ++ R ++ R2 } G).put o.dst (.c (.v v))) → W P E N k (.any ops B V fu (listed.setIfInBounds i true) p) σ') : AnyStop P E k ops B V fu listed i p o σ := by
 have hd' : Does P E σ o (fun σ' => ∃ v R G, T v [] R G ∧ (∀ s ∈ σ.snaps, s.Le G) ∧ σ' = (St.seen { σ with rows := R1 ++ R ++ R2 } G).put o.dst (.c (.v v))) := fun a w Q next hr hn => hd a w Q next hr fun σ' a' w' hS hr' => by
  obtain ⟨v, css, R, G, hT, hl, hle, rfl⟩ := hS
  have : css = [] := List.eq_nil_of_length_eq_zero hl
  subst this
  rw [show ([] : List Nat).zip (upV []) = [] from rfl, repl_none] at hr'
  exact hn _ _ _ ⟨v, R, G, hT, hle, rfl⟩ hr'
 refine any_ok hd' hk hi hg (fun σ' hS hB b hb => ?_) (fun σ' hS v hv => ?_) h
 ·obtain ⟨v, R, G, _, _, rfl⟩ := hS
  rw [(put_blks _ _ _).1]
  exact hB b hb
 ·obtain ⟨u, R, G, _, _, rfl⟩ := hS
  rw [(put_blks _ _ _).2]
  exact hv
def UsedOk (u : List Int) : Prop := u.Nodup ∧ ∀ x ∈ u, i64 x
theorem takeL_ok : ∀ (l u : List Int), UsedOk u → UsedOk (takeL u l).2
 | [], u, h => h
 | n :: r, u, h => by
  unfold takeL
  split
  ·exact h
  ·rename_i hn
   refine takeL_ok r _ ⟨?_, ?_⟩
   ·rw [List.nodup_append]
    exact ⟨h.1, by simp, fun a ha b hb e => hn (.inr (by rw [List.mem_singleton] at hb; rw [← hb, ← e]; exact ha))⟩
   ·intro x hx
    rcases List.mem_append.1 hx with hx | hx
    ·exact h.2 x hx
    ·rw [List.mem_singleton] at hx
     subst hx
     have : offSec x = false := by cases q : offSec x with | false => rfl | true => exact absurd (.inl q) hn
     unfold offSec at this
     simp only [Bool.or_eq_false_iff, decide_eq_false_iff_not] at this
     exact ⟨by omega, by omega⟩
theorem takeU_ok (l u : List Int) (n : Int) (h : UsedOk u) : UsedOk (takeU u l n).2 := by
 unfold takeU
 split
 ·exact takeL_ok l u h
 ·exact h
theorem tieredU_ok (s : Sta) (v : Ver) (u : List Int) (h : UsedOk u) : UsedOk (tieredU s v u).2 := by
 unfold tieredU
 repeat' split
 all_goals first | exact h | exact takeU_ok _ _ _ h
theorem soundU_ok (s : Sta) (v : Ver) (u : List Int) (h : UsedOk u) : UsedOk (soundU s v u).2 := by
 unfold soundU
 repeat' split
 all_goals first | exact h | exact tieredU_ok _ _ _ h
def verGe (p : Option Ver) (v : Ver) : Bool := match p with
 | none => false
 | some q => decide (v.id ≤ q.id)
def keyB (v : Ver) : ByteArray × ByteArray := (v.bucket, v.key)
def versU (s : Sta) : Option Ver → List (ByteArray × ByteArray) → List Int → List Ver → Bool × List Int
 | _, _, u, [] => (true, u)
 | p, nl, u, v :: r => if (!(soundU s v u).1 || verGe p v) = true then (false, (soundU s v u).2) else if (v.null && hasK (keyB v) nl) = true then (false, (soundU s v u).2) else versU s (some v) (mark (keyB v) v.null nl) (soundU s v u).2 r
def versB (s : Sta) (u : List Int) : Bool × List Int := ((versU s none [] u s.vers).1 && decide ((s.vers.length : Int) ≤ 40), (versU s none [] u s.vers).2)
theorem NulR.congr {al : List (Value × Value)} {nl nl' : List (ByteArray × ByteArray)} (h : NulR al nl) (he : ∀ k, k ∈ nl ↔ k ∈ nl') : NulR al nl' :=
 ⟨h.keys, fun e hx => let ⟨k, e'⟩ := h.all e hx; ⟨k, by rw [e', hasK_eq (he k)]⟩, fun k hk => h.has k ((he k).2 hk)⟩
theorem mark_has (k x : ByteArray × ByteArray) (nl : List (ByteArray × ByteArray)) : x ∈ mark k (hasK k nl) nl ↔ x ∈ mark k false nl := by
 rw [mark_mem, mark_mem]
 constructor
 ·rintro (⟨rfl, h⟩ | h)
  ·exact .inr (hasK_iff.1 h)
  ·exact .inr h
 ·rintro (⟨_, h⟩ | h)
  ·cases h
  ·exact .inr h
def nulRow (g : Nat) (al : List (Value × Value)) : Rw := ⟨.map (some g), 153, 0, al.length, flatM al⟩
theorem drop_cons {α : Type} {l : List α} {i : Nat} {x : α} (h : l[i]? = some x) : l.drop i = x :: l.drop (i + 1) := by
 have hlt := (List.getElem?_eq_some_iff.1 h).1
 rw [List.drop_eq_getElem_cons hlt]
 congr 1
 rw [List.getElem?_eq_getElem hlt] at h
 exact Option.some.inj h
theorem prevO_succ {α : Type} {l : List α} {i : Nat} {x : α} (h : l[i]? = some x) : prevO l (i + 1) = some x := by
 unfold prevO
 rw [if_neg (by omega)]
 simpa using h
set_option maxRecDepth 100000 in
set_option maxHeartbeats 32000000 in
theorem versions_does {g : Nat} {u : List Int} {s : Sta} {b x up q gv : Value} {G0 : GW} (hW : G0.Wf) (hh : HandsOk G0.w ⟨[], [usedR g u]⟩) (hM : ∀ k, Hands.A ⟨[], [usedR g u]⟩ k → G0.M k) (hb : BktsG G0 b s.bkts) (hx : VersG G0 x s.vers) (hg : IntsG G0 gv s.gone) (hbo : ∀ t, Ordered (ltBkt t) s.bkts) (hbn : s.bkts.length ≤ 1000000) (hu : UsedOk u) :
  Calls Tryz.prog 72 #[.agg #[.int .i64 s.next, .int .i64 s.clock, b, x, up, q, gv], .map (some g)] G0.w (RetH G0 ⟨[], [usedR g u]⟩ fun r _ R _ => r = .bool (versB s u).1 ∧ R = [usedR g (versB s u).2]) := by
 obtain ⟨A, c, rfl, hc1, hc2⟩ := Sq.form hx
 have hml := max_le
 refine enterH (n := 65) 3000 ([.c (.v (.agg #[.int .i64 s.next, .int .i64 s.clock, b, .slice A s.vers.length c, up, q, gv])), .c (.v (.map (some g)))]) ([]) rfl hW hh hM Tryz.func72 rfl Tryz.ntmps72 (by simp) ?_
 simp only [go_sem, simprocAttr]
 intro g1
 refine pk (makeMap_does rfl (dk rfl)) ?_
 rintro _ ⟨gn, G1, rfl⟩
 simp only [go_sem, simprocAttr]
 refine loop_ok (N := 3000) (ι := Nat × List (Value × Value) × List (ByteArray × ByteArray) × List Int) (fun i => match i with | (i, al, nl, ui) => ⟨[(1, .c (.v (.map (some g)))), (2, .c (.p 0 g1 0)), (5, .c (.v (.map (some gn)))), (11, .c (.v (.slice A s.vers.length c))), (12, .c (.v (.int .i64 (s.vers.length : Int)))), (13, .c (.v (.int .i64 (i : Int))))],
   [⟨0, g1, 30, [.v (.int .i64 s.next), .v (.int .i64 s.clock), .v b, .v (.slice A s.vers.length c), .v up, .v q, .v gv]⟩], [nulRow gn al, usedR g ui], [], [G0], 1⟩)
  (fun i => match i with | (i, al, nl, ui) => i ≤ s.vers.length ∧ versU s none [] u s.vers = versU s (prevO s.vers i) nl ui (s.vers.drop i) ∧ NulR al nl ∧ UsedOk ui)
  (fun i => s.vers.length - i.1) (QOk_body _ _ _) (0, [], [], u) ⟨by omega, by simp [prevO], NulR.nil, hu⟩ (by simp only [go_sem, simprocAttr]; simp [nulRow]) ?_
 rintro ⟨i, al, nl, ui⟩ ⟨hi, hT, hN, hu1⟩
 simp only
 by_cases hlt : i < s.vers.length
 ·have q1 : decide ((i : Int) < (s.vers.length : Int)) = true := decide_eq_true (by omega)
  obtain ⟨v, hv⟩ : ∃ v, s.vers[i]? = some v := ⟨_, List.getElem?_eq_getElem hlt⟩
  rw [drop_cons hv] at hT
  simp only [go_sem, simprocAttr, q1]
  refine pk (elem_does (R := VerG) (l := s.vers) (m := i) rfl tySlice25 tySize38 rfl rfl (dk rfl) rfl hv (fun G hG => Sq.mono hx verG_mono (hG.le G0 (by simp)))) ?_
  rintro _ ⟨g2, o', cs, G2, hcl, ⟨sv, rfl, hsv, hk1, hk2⟩, rfl⟩
  obtain ⟨As, cas, rfl, _⟩ := Sq.form hsv
  simp only [go_sem, simprocAttr, verV]
  intro g3
  obtain ⟨sb, us, hs⟩ : ∃ sb us, soundU s v ui = (sb, us) := ⟨_, _, rfl⟩
  have hus : UsedOk us := by have := soundU_ok s v ui hu1; rw [hs] at this; exact this
  have hkk := pair_key (keyB v) hk1 hk2
  by_cases hi0 : i = 0
  ·have q0 : decide (0 < (i : Int)) = false := decide_eq_false (by omega)
   have hp : prevO s.vers i = none := by unfold prevO; rw [if_pos hi0]
   refine draw_ok (N := 3000) (.take 0 (.take 1 (.take 2 (.alt 3 (.take 4 (.take 5 (.take 6 (.take 7 (.take 8 (.take 9 (.take 10 (.take 11 (.take 12 (.take 13 (.take 14 (.take 15 (.take 16 (.take 17 (.take 18 (.take 19 (.take 20 .done))))))))))))))))) .last)))) [] (QOk_body _ _ _) follows_mixed (by kernel_rfl) (by kernel_rfl) ?_
   simp only [go_sem, simprocAttr, q0]
   refine anyH_ok (N := 3000) (callH_does [] [nulRow gn al] [usedR g ui] [] (fun r _ R _ => r = .bool sb ∧ R = [usedR g us]) upV rfl rfl (by kernel_rfl) rfl (dk rfl) rfl rfl (by simp [ids, Diff]) (by simp) (fun G hG hh hM => RetH.mono (sound_does hG.wf hh hM (Sq.mono hb bktG_mono (hG.le G0 (by simp))) (IntsG.mono hg (hG.le G0 (by simp))) (IntsG.mono hsv (hG.le G2 (by simp))) hk2 (hbo _) hbn hu1.1 hu1.2) (fun v css R G' h => by rw [hs] at h; exact h)) (fun v css R G _ _ => upV_den css)) (QOk_body _ _ _) rfl (by first | exact .inl rfl | exact .inr ⟨_, _, rfl, rfl⟩) ?_
   rintro _ ⟨_, _, G3, ⟨rfl, rfl⟩, hle, rfl⟩
   clear hle
   simp only [go_sem, simprocAttr, q0]
   refine Wb_mk (fun h4 => ?_) (fun h4 => ?_)
   ·have hbad : (!sb || verGe (prevO s.vers i) v) = true := by rw [h4]; rfl
    refine dropRow_ok [] [usedR g us] rfl ?_
    refine fin_retH (G := G0) Tryz.results72 ?_
    simp only [go_sem, simprocAttr]
    intro aa w' _ _
    unfold versB
    rw [hT]
    simp only [versU, hs, hbad, if_true]
    first | exact ⟨rfl, rfl⟩ | exact ⟨rfl, trivial⟩ | trivial
   ·have hgood : (!sb || verGe (prevO s.vers i) v) = false := by rw [h4, hp]; rfl
    intro g4
    cases hnull : v.null with
    | false =>
     have hnh : (v.null && hasK (keyB v) nl) = false := by rw [hnull]; rfl
     simp only [go_sem, simprocAttr, hnull]
     refine draw_ok (N := 3000) (.take 0 (.take 1 (.take 2 (.take 3 (.alt 4 (.take 5 (.take 6 (.take 7 (.take 8 (.alt 9 .done .last))))) .last))))) [] (QOk_body _ _ _) follows_mixed (by kernel_rfl) (by kernel_rfl) ?_
     simp only [go_sem, simprocAttr, hnull]
     refine any_ok2 (N := 3000) (lookup_does (kt := 155) (et := 4) (tr := 153) (n := al.length) (al := al) (v := .bool (hasK (keyB v) nl)) rfl Tryz.underlying153 pairKeyed zeroBool (List.mem_cons_self) rfl rfl rfl hkk hN.keys (dk rfl) (hN.look (keyB v))) (QOk_body _ _ _) rfl (by first | exact .inl rfl | exact .inr ⟨_, _, rfl, rfl⟩) (by intro _ hK; first | (obtain ⟨_, _, _, _, rfl⟩ := hK; exact ⟨rfl, fun _ h => h⟩) | (obtain ⟨_, _, rfl⟩ := hK; exact ⟨rfl, fun _ h => h⟩) | (obtain ⟨_, _, _, _, _, _, rfl⟩ := hK; exact ⟨rfl, fun _ h => List.mem_cons_of_mem _ h⟩) | (obtain ⟨_, _, _, _, _, _, _, rfl⟩ := hK; exact ⟨rfl, fun _ h => List.mem_cons_of_mem _ h⟩) | (obtain rfl := hK; exact ⟨rfl, fun _ h => h⟩)) ?_
     rintro _ rfl
     simp only [go_sem, simprocAttr, hnull]
     by_cases hin : ∃ e ∈ al, e.1 = pairV (keyB v)
     ·obtain ⟨⟨e1, e2⟩, he, rfl⟩ := hin
      refine any_ok2 (N := 3000) (update_old_does (R1 := []) (R2 := [usedR g us]) (kt := 155) (et := 4) (tr := 153) (n := al.length) (al := al) (v0 := e2) rfl Tryz.underlying153 pairKeyed rfl rfl rfl rfl rfl rfl hkk hN.keys (dk rfl) he) (QOk_body _ _ _) rfl (by first | exact .inl rfl | exact .inr ⟨_, _, rfl, rfl⟩) (by intro _ hK; first | (obtain ⟨_, _, _, _, rfl⟩ := hK; exact ⟨rfl, fun _ h => h⟩) | (obtain ⟨_, _, rfl⟩ := hK; exact ⟨rfl, fun _ h => h⟩) | (obtain ⟨_, _, _, _, _, _, rfl⟩ := hK; exact ⟨rfl, fun _ h => List.mem_cons_of_mem _ h⟩) | (obtain ⟨_, _, _, _, _, _, _, rfl⟩ := hK; exact ⟨rfl, fun _ h => List.mem_cons_of_mem _ h⟩) | (obtain rfl := hK; exact ⟨rfl, fun _ h => h⟩)) ?_
      rintro _ ⟨j, hj, rfl⟩
      have hN2 := NulR.congr (nl' := mark (keyB v) v.null nl) (NulR.old hN hj (hasK (keyB v) nl) (fun h => hasK_iff.2 h)) (fun x => by rw [hnull]; exact mark_has (keyB v) x nl)
      simp only [go_sem, simprocAttr]
      refine ⟨by omega, ?_⟩
      refine again_ok (i + 1, _, mark (keyB v) v.null nl, us) ⟨hlt, ?_, hN2, hus⟩ (by show s.vers.length - (i + 1) < s.vers.length - i; omega) (by simp only [go_sem, simprocAttr]; simp [nulRow, pairV, keyB])
      rw [hT, prevO_succ hv]
      simp only [versU, hs, hgood, if_false, Bool.false_eq_true]
      rw [hnh]
      simp only [Bool.false_eq_true, if_false]
     ·have hno : ∀ e ∈ al, e.1 ≠ pairV (keyB v) := fun e he q => hin ⟨e, he, q⟩
      refine any_ok2 (N := 3000) (update_new_does (R1 := []) (R2 := [usedR g us]) (kt := 155) (et := 4) (tr := 153) (n := al.length) (al := al) rfl Tryz.underlying153 pairKeyed rfl rfl rfl rfl rfl rfl hkk hN.keys (dk rfl) hno) (QOk_body _ _ _) rfl (by first | exact .inl rfl | exact .inr ⟨_, _, rfl, rfl⟩) (by intro _ hK; first | (obtain ⟨_, _, _, _, rfl⟩ := hK; exact ⟨rfl, fun _ h => h⟩) | (obtain ⟨_, _, rfl⟩ := hK; exact ⟨rfl, fun _ h => h⟩) | (obtain ⟨_, _, _, _, _, _, rfl⟩ := hK; exact ⟨rfl, fun _ h => List.mem_cons_of_mem _ h⟩) | (obtain ⟨_, _, _, _, _, _, _, rfl⟩ := hK; exact ⟨rfl, fun _ h => List.mem_cons_of_mem _ h⟩) | (obtain rfl := hK; exact ⟨rfl, fun _ h => h⟩)) ?_
      rintro _ rfl
      have hN2 := NulR.congr (nl' := mark (keyB v) v.null nl) (NulR.new hN hkk hno (hasK (keyB v) nl)) (fun x => by rw [hnull]; exact mark_has (keyB v) x nl)
      simp only [go_sem, simprocAttr]
      refine ⟨by omega, ?_⟩
      refine again_ok (i + 1, _, mark (keyB v) v.null nl, us) ⟨hlt, ?_, hN2, hus⟩ (by show s.vers.length - (i + 1) < s.vers.length - i; omega) (by simp only [go_sem, simprocAttr]; simp [nulRow, pairV, keyB])
      rw [hT, prevO_succ hv]
      simp only [versU, hs, hgood, if_false, Bool.false_eq_true]
      rw [hnh]
      simp only [Bool.false_eq_true, if_false]
    | true =>
     simp only [go_sem, simprocAttr, hnull]
     refine pk (lookup_does (kt := 155) (et := 4) (tr := 153) (n := al.length) (al := al) (v := .bool (hasK (keyB v) nl)) rfl Tryz.underlying153 pairKeyed zeroBool (List.mem_cons_self) rfl rfl rfl hkk hN.keys (dk rfl) (hN.look (keyB v))) ?_
     rintro _ rfl
     simp only [go_sem, simprocAttr, hnull]
     refine Wb_mk (fun h6 => ?_) (fun h6 => ?_)
     ·have hnh : (v.null && hasK (keyB v) nl) = true := by rw [hnull, h6]; rfl
      refine dropRow_ok [] [usedR g us] rfl ?_
      refine fin_retH (G := G0) Tryz.results72 ?_
      simp only [go_sem, simprocAttr]
      intro aa w' _ _
      unfold versB
      rw [hT]
      simp only [versU, hs, hgood, hnh, if_true, if_false, Bool.false_eq_true]
      first | exact ⟨rfl, rfl⟩ | exact ⟨rfl, trivial⟩ | trivial
     ·have hnh : (v.null && hasK (keyB v) nl) = false := by rw [hnull, h6]; rfl
      simp only [go_sem, simprocAttr, hnull, h6]
      refine draw_ok (N := 3000) (.take 0 (.take 1 (.take 2 (.take 3 (.alt 4 (.take 5 (.take 6 (.take 7 (.take 8 (.alt 9 .done .last))))) .last))))) [] (QOk_body _ _ _) follows_mixed (by kernel_rfl) (by kernel_rfl) ?_
      simp only [go_sem, simprocAttr, hnull, h6]
      refine any_ok2 (N := 3000) (lookup_does (kt := 155) (et := 4) (tr := 153) (n := al.length) (al := al) (v := .bool (hasK (keyB v) nl)) rfl Tryz.underlying153 pairKeyed zeroBool (List.mem_cons_self) rfl rfl rfl hkk hN.keys (dk rfl) (hN.look (keyB v))) (QOk_body _ _ _) rfl (by first | exact .inl rfl | exact .inr ⟨_, _, rfl, rfl⟩) (by intro _ hK; first | (obtain ⟨_, _, _, _, rfl⟩ := hK; exact ⟨rfl, fun _ h => h⟩) | (obtain ⟨_, _, rfl⟩ := hK; exact ⟨rfl, fun _ h => h⟩) | (obtain ⟨_, _, _, _, _, _, rfl⟩ := hK; exact ⟨rfl, fun _ h => List.mem_cons_of_mem _ h⟩) | (obtain ⟨_, _, _, _, _, _, _, rfl⟩ := hK; exact ⟨rfl, fun _ h => List.mem_cons_of_mem _ h⟩) | (obtain rfl := hK; exact ⟨rfl, fun _ h => h⟩)) ?_
      rintro _ rfl
      simp only [go_sem, simprocAttr, hnull, h6]
      by_cases hin : ∃ e ∈ al, e.1 = pairV (keyB v)
      ·obtain ⟨⟨e1, e2⟩, he, rfl⟩ := hin
       refine any_ok2 (N := 3000) (update_old_does (R1 := []) (R2 := [usedR g us]) (kt := 155) (et := 4) (tr := 153) (n := al.length) (al := al) (v0 := e2) rfl Tryz.underlying153 pairKeyed rfl rfl rfl rfl rfl rfl hkk hN.keys (dk rfl) he) (QOk_body _ _ _) rfl (by first | exact .inl rfl | exact .inr ⟨_, _, rfl, rfl⟩) (by intro _ hK; first | (obtain ⟨_, _, _, _, rfl⟩ := hK; exact ⟨rfl, fun _ h => h⟩) | (obtain ⟨_, _, rfl⟩ := hK; exact ⟨rfl, fun _ h => h⟩) | (obtain ⟨_, _, _, _, _, _, rfl⟩ := hK; exact ⟨rfl, fun _ h => List.mem_cons_of_mem _ h⟩) | (obtain ⟨_, _, _, _, _, _, _, rfl⟩ := hK; exact ⟨rfl, fun _ h => List.mem_cons_of_mem _ h⟩) | (obtain rfl := hK; exact ⟨rfl, fun _ h => h⟩)) ?_
       rintro _ ⟨j, hj, rfl⟩
       have hN2 := NulR.congr (nl' := mark (keyB v) v.null nl) (NulR.old hN hj true (fun _ => rfl)) (fun x => by rw [hnull])
       simp only [go_sem, simprocAttr]
       refine ⟨by omega, ?_⟩
       refine again_ok (i + 1, _, mark (keyB v) v.null nl, us) ⟨hlt, ?_, hN2, hus⟩ (by show s.vers.length - (i + 1) < s.vers.length - i; omega) (by simp only [go_sem, simprocAttr]; simp [nulRow, pairV, keyB])
       rw [hT, prevO_succ hv]
       simp only [versU, hs, hgood, if_false, Bool.false_eq_true]
       rw [hnh]
       simp only [Bool.false_eq_true, if_false]
      ·have hno : ∀ e ∈ al, e.1 ≠ pairV (keyB v) := fun e he q => hin ⟨e, he, q⟩
       refine any_ok2 (N := 3000) (update_new_does (R1 := []) (R2 := [usedR g us]) (kt := 155) (et := 4) (tr := 153) (n := al.length) (al := al) rfl Tryz.underlying153 pairKeyed rfl rfl rfl rfl rfl rfl hkk hN.keys (dk rfl) hno) (QOk_body _ _ _) rfl (by first | exact .inl rfl | exact .inr ⟨_, _, rfl, rfl⟩) (by intro _ hK; first | (obtain ⟨_, _, _, _, rfl⟩ := hK; exact ⟨rfl, fun _ h => h⟩) | (obtain ⟨_, _, rfl⟩ := hK; exact ⟨rfl, fun _ h => h⟩) | (obtain ⟨_, _, _, _, _, _, rfl⟩ := hK; exact ⟨rfl, fun _ h => List.mem_cons_of_mem _ h⟩) | (obtain ⟨_, _, _, _, _, _, _, rfl⟩ := hK; exact ⟨rfl, fun _ h => List.mem_cons_of_mem _ h⟩) | (obtain rfl := hK; exact ⟨rfl, fun _ h => h⟩)) ?_
       rintro _ rfl
       have hN2 := NulR.congr (nl' := mark (keyB v) v.null nl) (NulR.new hN hkk hno true) (fun x => by rw [hnull])
       simp only [go_sem, simprocAttr]
       refine ⟨by omega, ?_⟩
       refine again_ok (i + 1, _, mark (keyB v) v.null nl, us) ⟨hlt, ?_, hN2, hus⟩ (by show s.vers.length - (i + 1) < s.vers.length - i; omega) (by simp only [go_sem, simprocAttr]; simp [nulRow, pairV, keyB])
       rw [hT, prevO_succ hv]
       simp only [versU, hs, hgood, if_false, Bool.false_eq_true]
       rw [hnh]
       simp only [Bool.false_eq_true, if_false]
  ·have q0 : decide (0 < (i : Int)) = true := decide_eq_true (by omega)
   obtain ⟨y, hy⟩ : ∃ y, s.vers[i - 1]? = some y := ⟨_, List.getElem?_eq_getElem (by omega)⟩
   have hp : prevO s.vers i = some y := by unfold prevO; rw [if_neg hi0, hy]
   have hcast : (i : Int) - 1 = ((i - 1 : Nat) : Int) := by omega
   refine preview_ok (R := VerG) (kc := 12) hy (fun G hG => (Sq.mono hx verG_mono (hG G0 (by simp))).sc) fun gy oy csy Gy hA hcly hcsy hley => ?_
   subst hA
   obtain ⟨svy, rfl, _, _, _⟩ := hcsy
   clear hley
   simp only [go_sem, simprocAttr, verV]
   refine draw_ok (N := 3000) (.take 0 (.take 1 (.take 2 (.alt 3 (.take 4 (.take 5 (.take 6 (.take 7 (.take 8 (.take 9 (.take 10 (.take 11 (.take 12 (.take 13 (.take 14 (.take 15 (.take 16 (.take 17 (.take 18 (.take 19 (.take 20 .done))))))))))))))))) .last)))) [] (QOk_body _ _ _) follows_mixed (by kernel_rfl) (by kernel_rfl) ?_
   simp only [go_sem, simprocAttr, q0]
   refine anyH_ok (N := 3000) (callH_does [] [nulRow gn al] [usedR g ui] [] (fun r _ R _ => r = .bool sb ∧ R = [usedR g us]) upV rfl rfl (by kernel_rfl) rfl (dk rfl) rfl rfl (by simp [ids, Diff]) (by simp) (fun G hG hh hM => RetH.mono (sound_does hG.wf hh hM (Sq.mono hb bktG_mono (hG.le G0 (by simp))) (IntsG.mono hg (hG.le G0 (by simp))) (IntsG.mono hsv (hG.le G2 (by simp))) hk2 (hbo _) hbn hu1.1 hu1.2) (fun v css R G' h => by rw [hs] at h; exact h)) (fun v css R G _ _ => upV_den css)) (QOk_body _ _ _) rfl (by first | exact .inl rfl | exact .inr ⟨_, _, rfl, rfl⟩) ?_
   rintro _ ⟨_, _, G3, ⟨rfl, rfl⟩, hle, rfl⟩
   clear hle
   simp only [go_sem, simprocAttr, q0]
   refine ⟨fun _ => by omega, ?_⟩
   cases sb with
   | false =>
    simp only [go_sem, simprocAttr, q0]
    have hbad : (!false || verGe (prevO s.vers i) v) = true := rfl
    refine dropRow_ok [] [usedR g us] rfl ?_
    refine fin_retH (G := G0) Tryz.results72 ?_
    simp only [go_sem, simprocAttr]
    intro aa w' _ _
    unfold versB
    rw [hT]
    simp only [versU, hs, hbad, if_true]
    first | exact ⟨rfl, rfl⟩ | exact ⟨rfl, trivial⟩ | trivial
   | true =>
    simp only [go_sem, simprocAttr, q0]
    refine take_elem 3 (m := i - 1) rfl tySlice25 tySize38 rfl rfl (dk rfl) hcast (by omega) ?_
    simp only [go_sem, simprocAttr, q0]
    refine Wb_mk (fun h4 => ?_) (fun h4 => ?_)
    ·have hbad : (!true || verGe (prevO s.vers i) v) = true := by rw [hp]; exact h4
     refine dropRow_ok [] [usedR g us] rfl ?_
     refine fin_retH (G := G0) Tryz.results72 ?_
     simp only [go_sem, simprocAttr]
     intro aa w' _ _
     unfold versB
     rw [hT]
     simp only [versU, hs, hbad, if_true]
     first | exact ⟨rfl, rfl⟩ | exact ⟨rfl, trivial⟩ | trivial
    ·have hgood : (!true || verGe (prevO s.vers i) v) = false := by rw [hp]; exact h4
     intro g4
     cases hnull : v.null with
     | false =>
      have hnh : (v.null && hasK (keyB v) nl) = false := by rw [hnull]; rfl
      simp only [go_sem, simprocAttr, hnull]
      refine draw_ok (N := 3000) (.take 0 (.take 1 (.take 2 (.take 3 (.alt 4 (.take 5 (.take 6 (.take 7 (.take 8 (.alt 9 .done .last))))) .last))))) [] (QOk_body _ _ _) follows_mixed (by kernel_rfl) (by kernel_rfl) ?_
      simp only [go_sem, simprocAttr, hnull]
      refine any_ok2 (N := 3000) (lookup_does (kt := 155) (et := 4) (tr := 153) (n := al.length) (al := al) (v := .bool (hasK (keyB v) nl)) rfl Tryz.underlying153 pairKeyed zeroBool (List.mem_cons_self) rfl rfl rfl hkk hN.keys (dk rfl) (hN.look (keyB v))) (QOk_body _ _ _) rfl (by first | exact .inl rfl | exact .inr ⟨_, _, rfl, rfl⟩) (by intro _ hK; first | (obtain ⟨_, _, _, _, rfl⟩ := hK; exact ⟨rfl, fun _ h => h⟩) | (obtain ⟨_, _, rfl⟩ := hK; exact ⟨rfl, fun _ h => h⟩) | (obtain ⟨_, _, _, _, _, _, rfl⟩ := hK; exact ⟨rfl, fun _ h => List.mem_cons_of_mem _ h⟩) | (obtain ⟨_, _, _, _, _, _, _, rfl⟩ := hK; exact ⟨rfl, fun _ h => List.mem_cons_of_mem _ h⟩) | (obtain rfl := hK; exact ⟨rfl, fun _ h => h⟩)) ?_
      rintro _ rfl
      simp only [go_sem, simprocAttr, hnull]
      by_cases hin : ∃ e ∈ al, e.1 = pairV (keyB v)
      ·obtain ⟨⟨e1, e2⟩, he, rfl⟩ := hin
       refine any_ok2 (N := 3000) (update_old_does (R1 := []) (R2 := [usedR g us]) (kt := 155) (et := 4) (tr := 153) (n := al.length) (al := al) (v0 := e2) rfl Tryz.underlying153 pairKeyed rfl rfl rfl rfl rfl rfl hkk hN.keys (dk rfl) he) (QOk_body _ _ _) rfl (by first | exact .inl rfl | exact .inr ⟨_, _, rfl, rfl⟩) (by intro _ hK; first | (obtain ⟨_, _, _, _, rfl⟩ := hK; exact ⟨rfl, fun _ h => h⟩) | (obtain ⟨_, _, rfl⟩ := hK; exact ⟨rfl, fun _ h => h⟩) | (obtain ⟨_, _, _, _, _, _, rfl⟩ := hK; exact ⟨rfl, fun _ h => List.mem_cons_of_mem _ h⟩) | (obtain ⟨_, _, _, _, _, _, _, rfl⟩ := hK; exact ⟨rfl, fun _ h => List.mem_cons_of_mem _ h⟩) | (obtain rfl := hK; exact ⟨rfl, fun _ h => h⟩)) ?_
       rintro _ ⟨j, hj, rfl⟩
       have hN2 := NulR.congr (nl' := mark (keyB v) v.null nl) (NulR.old hN hj (hasK (keyB v) nl) (fun h => hasK_iff.2 h)) (fun x => by rw [hnull]; exact mark_has (keyB v) x nl)
       simp only [go_sem, simprocAttr]
       refine ⟨by omega, ?_⟩
       refine again_ok (i + 1, _, mark (keyB v) v.null nl, us) ⟨hlt, ?_, hN2, hus⟩ (by show s.vers.length - (i + 1) < s.vers.length - i; omega) (by simp only [go_sem, simprocAttr]; simp [nulRow, pairV, keyB])
       rw [hT, prevO_succ hv]
       simp only [versU, hs, hgood, if_false, Bool.false_eq_true]
       rw [hnh]
       simp only [Bool.false_eq_true, if_false]
      ·have hno : ∀ e ∈ al, e.1 ≠ pairV (keyB v) := fun e he q => hin ⟨e, he, q⟩
       refine any_ok2 (N := 3000) (update_new_does (R1 := []) (R2 := [usedR g us]) (kt := 155) (et := 4) (tr := 153) (n := al.length) (al := al) rfl Tryz.underlying153 pairKeyed rfl rfl rfl rfl rfl rfl hkk hN.keys (dk rfl) hno) (QOk_body _ _ _) rfl (by first | exact .inl rfl | exact .inr ⟨_, _, rfl, rfl⟩) (by intro _ hK; first | (obtain ⟨_, _, _, _, rfl⟩ := hK; exact ⟨rfl, fun _ h => h⟩) | (obtain ⟨_, _, rfl⟩ := hK; exact ⟨rfl, fun _ h => h⟩) | (obtain ⟨_, _, _, _, _, _, rfl⟩ := hK; exact ⟨rfl, fun _ h => List.mem_cons_of_mem _ h⟩) | (obtain ⟨_, _, _, _, _, _, _, rfl⟩ := hK; exact ⟨rfl, fun _ h => List.mem_cons_of_mem _ h⟩) | (obtain rfl := hK; exact ⟨rfl, fun _ h => h⟩)) ?_
       rintro _ rfl
       have hN2 := NulR.congr (nl' := mark (keyB v) v.null nl) (NulR.new hN hkk hno (hasK (keyB v) nl)) (fun x => by rw [hnull]; exact mark_has (keyB v) x nl)
       simp only [go_sem, simprocAttr]
       refine ⟨by omega, ?_⟩
       refine again_ok (i + 1, _, mark (keyB v) v.null nl, us) ⟨hlt, ?_, hN2, hus⟩ (by show s.vers.length - (i + 1) < s.vers.length - i; omega) (by simp only [go_sem, simprocAttr]; simp [nulRow, pairV, keyB])
       rw [hT, prevO_succ hv]
       simp only [versU, hs, hgood, if_false, Bool.false_eq_true]
       rw [hnh]
       simp only [Bool.false_eq_true, if_false]
     | true =>
      simp only [go_sem, simprocAttr, hnull]
      refine pk (lookup_does (kt := 155) (et := 4) (tr := 153) (n := al.length) (al := al) (v := .bool (hasK (keyB v) nl)) rfl Tryz.underlying153 pairKeyed zeroBool (List.mem_cons_self) rfl rfl rfl hkk hN.keys (dk rfl) (hN.look (keyB v))) ?_
      rintro _ rfl
      simp only [go_sem, simprocAttr, hnull]
      refine Wb_mk (fun h6 => ?_) (fun h6 => ?_)
      ·have hnh : (v.null && hasK (keyB v) nl) = true := by rw [hnull, h6]; rfl
       refine dropRow_ok [] [usedR g us] rfl ?_
       refine fin_retH (G := G0) Tryz.results72 ?_
       simp only [go_sem, simprocAttr]
       intro aa w' _ _
       unfold versB
       rw [hT]
       simp only [versU, hs, hgood, hnh, if_true, if_false, Bool.false_eq_true]
       first | exact ⟨rfl, rfl⟩ | exact ⟨rfl, trivial⟩ | trivial
      ·have hnh : (v.null && hasK (keyB v) nl) = false := by rw [hnull, h6]; rfl
       simp only [go_sem, simprocAttr, hnull, h6]
       refine draw_ok (N := 3000) (.take 0 (.take 1 (.take 2 (.take 3 (.alt 4 (.take 5 (.take 6 (.take 7 (.take 8 (.alt 9 .done .last))))) .last))))) [] (QOk_body _ _ _) follows_mixed (by kernel_rfl) (by kernel_rfl) ?_
       simp only [go_sem, simprocAttr, hnull, h6]
       refine any_ok2 (N := 3000) (lookup_does (kt := 155) (et := 4) (tr := 153) (n := al.length) (al := al) (v := .bool (hasK (keyB v) nl)) rfl Tryz.underlying153 pairKeyed zeroBool (List.mem_cons_self) rfl rfl rfl hkk hN.keys (dk rfl) (hN.look (keyB v))) (QOk_body _ _ _) rfl (by first | exact .inl rfl | exact .inr ⟨_, _, rfl, rfl⟩) (by intro _ hK; first | (obtain ⟨_, _, _, _, rfl⟩ := hK; exact ⟨rfl, fun _ h => h⟩) | (obtain ⟨_, _, rfl⟩ := hK; exact ⟨rfl, fun _ h => h⟩) | (obtain ⟨_, _, _, _, _, _, rfl⟩ := hK; exact ⟨rfl, fun _ h => List.mem_cons_of_mem _ h⟩) | (obtain ⟨_, _, _, _, _, _, _, rfl⟩ := hK; exact ⟨rfl, fun _ h => List.mem_cons_of_mem _ h⟩) | (obtain rfl := hK; exact ⟨rfl, fun _ h => h⟩)) ?_
       rintro _ rfl
       simp only [go_sem, simprocAttr, hnull, h6]
       by_cases hin : ∃ e ∈ al, e.1 = pairV (keyB v)
       ·obtain ⟨⟨e1, e2⟩, he, rfl⟩ := hin
        refine any_ok2 (N := 3000) (update_old_does (R1 := []) (R2 := [usedR g us]) (kt := 155) (et := 4) (tr := 153) (n := al.length) (al := al) (v0 := e2) rfl Tryz.underlying153 pairKeyed rfl rfl rfl rfl rfl rfl hkk hN.keys (dk rfl) he) (QOk_body _ _ _) rfl (by first | exact .inl rfl | exact .inr ⟨_, _, rfl, rfl⟩) (by intro _ hK; first | (obtain ⟨_, _, _, _, rfl⟩ := hK; exact ⟨rfl, fun _ h => h⟩) | (obtain ⟨_, _, rfl⟩ := hK; exact ⟨rfl, fun _ h => h⟩) | (obtain ⟨_, _, _, _, _, _, rfl⟩ := hK; exact ⟨rfl, fun _ h => List.mem_cons_of_mem _ h⟩) | (obtain ⟨_, _, _, _, _, _, _, rfl⟩ := hK; exact ⟨rfl, fun _ h => List.mem_cons_of_mem _ h⟩) | (obtain rfl := hK; exact ⟨rfl, fun _ h => h⟩)) ?_
        rintro _ ⟨j, hj, rfl⟩
        have hN2 := NulR.congr (nl' := mark (keyB v) v.null nl) (NulR.old hN hj true (fun _ => rfl)) (fun x => by rw [hnull])
        simp only [go_sem, simprocAttr]
        refine ⟨by omega, ?_⟩
        refine again_ok (i + 1, _, mark (keyB v) v.null nl, us) ⟨hlt, ?_, hN2, hus⟩ (by show s.vers.length - (i + 1) < s.vers.length - i; omega) (by simp only [go_sem, simprocAttr]; simp [nulRow, pairV, keyB])
        rw [hT, prevO_succ hv]
        simp only [versU, hs, hgood, if_false, Bool.false_eq_true]
        rw [hnh]
        simp only [Bool.false_eq_true, if_false]
       ·have hno : ∀ e ∈ al, e.1 ≠ pairV (keyB v) := fun e he q => hin ⟨e, he, q⟩
        refine any_ok2 (N := 3000) (update_new_does (R1 := []) (R2 := [usedR g us]) (kt := 155) (et := 4) (tr := 153) (n := al.length) (al := al) rfl Tryz.underlying153 pairKeyed rfl rfl rfl rfl rfl rfl hkk hN.keys (dk rfl) hno) (QOk_body _ _ _) rfl (by first | exact .inl rfl | exact .inr ⟨_, _, rfl, rfl⟩) (by intro _ hK; first | (obtain ⟨_, _, _, _, rfl⟩ := hK; exact ⟨rfl, fun _ h => h⟩) | (obtain ⟨_, _, rfl⟩ := hK; exact ⟨rfl, fun _ h => h⟩) | (obtain ⟨_, _, _, _, _, _, rfl⟩ := hK; exact ⟨rfl, fun _ h => List.mem_cons_of_mem _ h⟩) | (obtain ⟨_, _, _, _, _, _, _, rfl⟩ := hK; exact ⟨rfl, fun _ h => List.mem_cons_of_mem _ h⟩) | (obtain rfl := hK; exact ⟨rfl, fun _ h => h⟩)) ?_
        rintro _ rfl
        have hN2 := NulR.congr (nl' := mark (keyB v) v.null nl) (NulR.new hN hkk hno true) (fun x => by rw [hnull])
        simp only [go_sem, simprocAttr]
        refine ⟨by omega, ?_⟩
        refine again_ok (i + 1, _, mark (keyB v) v.null nl, us) ⟨hlt, ?_, hN2, hus⟩ (by show s.vers.length - (i + 1) < s.vers.length - i; omega) (by simp only [go_sem, simprocAttr]; simp [nulRow, pairV, keyB])
        rw [hT, prevO_succ hv]
        simp only [versU, hs, hgood, if_false, Bool.false_eq_true]
        rw [hnh]
        simp only [Bool.false_eq_true, if_false]
 ·have q1 : decide ((i : Int) < (s.vers.length : Int)) = false := decide_eq_false (by omega)
  have e : s.vers.drop i = [] := List.drop_of_length_le (by omega)
  rw [e] at hT
  simp only [go_sem, simprocAttr, q1]
  refine dropRow_ok [] [usedR g ui] rfl ?_
  refine fin_retH (G := G0) Tryz.results72 ?_
  simp only [go_sem, simprocAttr]
  intro aa w' _ _
  unfold versB
  rw [hT]
  exact ⟨rfl, rfl⟩
end Go.Proofs.YtohdfcnjcpjdcaaGreat
