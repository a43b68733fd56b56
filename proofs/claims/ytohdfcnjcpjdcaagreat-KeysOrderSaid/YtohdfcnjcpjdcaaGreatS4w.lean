/- bucket, version, upload; used.take. Conditions: as each law states them. -/
import Derived.Test.YtohdfcnjcpjdcaaGreatS3w
namespace Go.Proofs.YtohdfcnjcpjdcaaGreat
open Go.RowKit
set_option linter.unusedSimpArgs false
def staV (s : Sta) (A1 : Option Addr) (c1 : Nat) (A2 : Option Addr) (c2 : Nat) (A3 : Option Addr) (c3 : Nat) (A4 : Option Addr) (c4 : Nat) (A5 : Option Addr) (c5 : Nat) : Value :=
 .agg #[.int .i64 s.next, .int .i64 s.clock, .slice A1 s.bkts.length c1, .slice A2 s.vers.length c2, .slice A3 s.upls.length c3, .slice A4 s.queue.length c4, .slice A5 s.gone.length c5]
/-- a bucket's place among all -/
def bktAt (s : Sta) (t : ByteArray) : Nat := ahead (ltBkt t) s.bkts
def bktIn (s : Sta) (t : ByteArray) : Bool := hit (ltBkt t) (eqBkt t) s.bkts
def verAt (s : Sta) (t : Int) : Nat := ahead (ltVer t) s.vers
def verIn (s : Sta) (t : Int) : Bool := hit (ltVer t) (eqVer t) s.vers
def uplAt (s : Sta) (t : Int) : Nat := ahead (ltUpl t) s.upls
def uplIn (s : Sta) (t : Int) : Bool := hit (ltUpl t) (eqUpl t) s.upls
set_option maxRecDepth 100000 in
set_option maxHeartbeats 8000000 in
theorem bucket_does {s : Sta} {b x u q g : Value} {t : ByteArray} {G0 : GW} (hW : G0.Wf) (h : BktsG G0 b s.bkts) (ho : Ordered (ltBkt t) s.bkts) (hn : s.bkts.length ≤ 1000000) :
  Calls Tryz.prog 110 #[.agg #[.int .i64 s.next, .int .i64 s.clock, b, x, u, q, g], .string t] G0.w (Ret G0 fun v _ => v = .tuple #[.int .i64 (bktAt s t : Int), .bool (bktIn s t)]) := by
 refine enterS (G := G0) (n := 12) 3000 hW Tryz.func110 rfl Tryz.ntmps110 (by simp) ?_
 simp only [go_sem, simprocAttr]
 intro g1
 refine pk (call_does (fun v _ => v = .tuple #[.int .i64 (ahead (ltBkt t) s.bkts : Int), .bool (hit (ltBkt t) (eqBkt t) s.bkts)]) rfl rfl (by kernel_rfl) rfl (dk rfl) (fun G hG => bsBkt_does hG.wf (Sq.mono h bktG_mono (hG.le G0 (by simp))) ho hn)) ?_
 rintro _ ⟨_, G1, rfl, hn1, rfl⟩
 simp only [go_sem, simprocAttr]
 refine fin_ret (G := G0) Tryz.results110 ?_
 simp only [go_sem, simprocAttr]
 intro aa w' _ _
 rfl
set_option maxRecDepth 100000 in
set_option maxHeartbeats 8000000 in
theorem version_does {s : Sta} {b x u q g : Value} {t : Int} {G0 : GW} (hW : G0.Wf) (h : VersG G0 x s.vers) (ho : Ordered (ltVer t) s.vers) (hn : s.vers.length ≤ 1000000) :
  Calls Tryz.prog 100 #[.agg #[.int .i64 s.next, .int .i64 s.clock, b, x, u, q, g], .int .i64 t] G0.w (Ret G0 fun v _ => v = .tuple #[.int .i64 (verAt s t : Int), .bool (verIn s t)]) := by
 refine enterS (G := G0) (n := 12) 3000 hW Tryz.func100 rfl Tryz.ntmps100 (by simp) ?_
 simp only [go_sem, simprocAttr]
 intro g1
 refine pk (call_does (fun v _ => v = .tuple #[.int .i64 (ahead (ltVer t) s.vers : Int), .bool (hit (ltVer t) (eqVer t) s.vers)]) rfl rfl (by kernel_rfl) rfl (dk rfl) (fun G hG => bsVer_does hG.wf (Sq.mono h verG_mono (hG.le G0 (by simp))) ho hn)) ?_
 rintro _ ⟨_, G1, rfl, hn1, rfl⟩
 simp only [go_sem, simprocAttr]
 refine fin_ret (G := G0) Tryz.results100 ?_
 simp only [go_sem, simprocAttr]
 intro aa w' _ _
 rfl
set_option maxRecDepth 100000 in
set_option maxHeartbeats 8000000 in
theorem upload_does {s : Sta} {b x u q g : Value} {t : Int} {G0 : GW} (hW : G0.Wf) (h : UplsG G0 u s.upls) (ho : Ordered (ltUpl t) s.upls) (hn : s.upls.length ≤ 1000000) :
  Calls Tryz.prog 133 #[.agg #[.int .i64 s.next, .int .i64 s.clock, b, x, u, q, g], .int .i64 t] G0.w (Ret G0 fun v _ => v = .tuple #[.int .i64 (uplAt s t : Int), .bool (uplIn s t)]) := by
 refine enterS (G := G0) (n := 12) 3000 hW Tryz.func133 rfl Tryz.ntmps133 (by simp) ?_
 simp only [go_sem, simprocAttr]
 intro g1
 refine pk (call_does (fun v _ => v = .tuple #[.int .i64 (ahead (ltUpl t) s.upls : Int), .bool (hit (ltUpl t) (eqUpl t) s.upls)]) rfl rfl (by kernel_rfl) rfl (dk rfl) (fun G hG => bsUpl_does hG.wf (Sq.mono h uplG_mono (hG.le G0 (by simp))) ho hn)) ?_
 rintro _ ⟨_, G1, rfl, hn1, rfl⟩
 simp only [go_sem, simprocAttr]
 refine fin_ret (G := G0) Tryz.results133 ?_
 simp only [go_sem, simprocAttr]
 intro aa w' _ _
 rfl
/-! ### used sectors -/
def secsOf (n : Int) : Int := (n + 63).tdiv 64
def offSec (n : Int) : Bool := decide (n < 0) || decide (200 ≤ n)
def takeL (u : List Int) : List Int → Bool × List Int
 | [] => (true, u)
 | n :: r => if offSec n = true ∨ n ∈ u then (false, u) else takeL (u ++ [n]) r
def takeU (u l : List Int) (size : Int) : Bool × List Int := if (l.length : Int) = secsOf size then takeL u l else (false, u)
def setA (u : List Int) : List (Value × Value) := u.map fun x => (.int .i64 x, .bool true)
def usedR (g : Nat) (u : List Int) : Rw := ⟨.map (some g), 126, 0, u.length, flatM (setA u)⟩
theorem intKeyed : Go.Maps.Keyed Tryz.prog 3 := Go.Maps.int_keyed Tryz.underlying3
theorem int_key (x : Int) (h : i64 x) : ∃ l, keyOf Tryz.prog 3 (.int .i64 x) = some l := by
 have hw : (Lit.int .i64 x).wf = true := by simp [Lit.wf, IntKind.signed, IntKind.bits, IntKind.min, IntKind.max]; omega
 simp [keyOf, Tryz.underlying3, mapKey, hw]
theorem setA_keys {u : List Int} (hu : u.Nodup) (hi : ∀ x ∈ u, i64 x) : KeysIn Tryz.prog 3 (setA u) := by
 refine ⟨fun e he => ?_, ?_⟩
 ·obtain ⟨x, hx, rfl⟩ := List.mem_map.1 he
  exact int_key x (hi x hx)
 ·unfold setA
  rw [List.pairwise_map]
  exact hu.imp fun {a b} hne e => hne (by simpa using e)
theorem setA_snoc (u : List Int) (n : Int) : setA (u ++ [n]) = setA u ++ [(.int .i64 n, .bool true)] := by simp [setA]
theorem zeroBool (w : World) : (zeroValue 4).run Tryz.prog w = .ok (.bool false) w := by kernel_rfl
set_option maxRecDepth 100000 in
set_option maxHeartbeats 8000000 in
theorem take_does {g : Nat} {u l : List Int} {lv : Value} {size : Int} {G0 : GW} (hW : G0.Wf) (hh : HandsOk G0.w ⟨[], [usedR g u]⟩) (hM : ∀ k, Hands.A ⟨[], [usedR g u]⟩ k → G0.M k) (h : IntsG G0 lv l) (hu : u.Nodup) (hi : ∀ x ∈ u, i64 x) (h0 : 0 ≤ size) (h1 : size ≤ 1000000) :
  Calls Tryz.prog 112 #[.map (some g), lv, .int .i64 size] G0.w (RetH G0 ⟨[], [usedR g u]⟩ fun v _ R _ => v = .bool (takeU u l size).1 ∧ R = [usedR g (takeU u l size).2]) := by
 obtain ⟨A, c, rfl, hc1, hc2⟩ := Sq.form h
 have hml := max_le
 refine enterH (n := 34) 3000 ([.c (.v (.map (some g))), .c (.v (.slice A l.length c)), .c (.v (.int .i64 size))]) ([]) rfl hW hh hM Tryz.func112 rfl Tryz.ntmps112 (by simp) ?_
 simp only [go_sem, simprocAttr]
 refine pk (call_does (fun v _ => v = .int .i64 (secsOf size)) rfl rfl (by kernel_rfl) rfl (dk rfl) (fun G hG => sectors_does hG.wf (by omega) (by omega))) ?_
 rintro _ ⟨_, G1, rfl, hn1, rfl⟩
 simp only [go_sem, simprocAttr]
 refine Wb_mk (fun h2 => ?_) (fun h2 => ?_)
 ·refine fin_retH (G := G0) Tryz.results112 ?_
  simp only [go_sem, simprocAttr]
  intro aa w' _ _
  have hne : ¬ ((l.length : Int) = secsOf size) := by simpa using h2
  unfold takeU
  rw [if_neg hne]
  exact ⟨rfl, rfl⟩
 have hne : (l.length : Int) = secsOf size := by simpa using h2
 clear h2
 have htk : takeU u l size = takeL u l := by unfold takeU; rw [if_pos hne]
 rw [htk]
 refine loop_ok (N := 3000) (ι := Nat × List Int) (fun i => match i with | (i, ui) => ⟨[(0, .c (.v (.map (some g)))), (14, .c (.v (.slice A l.length c))), (15, .c (.v (.int .i64 (l.length : Int)))), (16, .c (.v (.int .i64 (i : Int))))], [], [usedR g ui], [], [G0], 0⟩)
  (fun i => match i with | (i, ui) => i ≤ l.length ∧ takeL u l = takeL ui (l.drop i) ∧ ui.Nodup ∧ ∀ x ∈ ui, i64 x)
  (fun i => l.length - i.1) (QOk_body _ _ _) (0, u) ⟨by omega, by simp, hu, hi⟩ (by simp only [go_sem, simprocAttr]; simp) ?_
 rintro ⟨i, ui⟩ ⟨hi1, hT, hu1, hi2⟩
 simp only
 by_cases hlt : i < l.length
 ·have q : decide ((i : Int) < (l.length : Int)) = true := decide_eq_true (by omega)
  obtain ⟨x, hx⟩ : ∃ x, l[i]? = some x := ⟨_, List.getElem?_eq_getElem hlt⟩
  have hdrop : l.drop i = x :: l.drop (i + 1) := by
   rw [List.drop_eq_getElem_cons hlt]
   congr 1
   rw [List.getElem?_eq_getElem hlt] at hx
   exact Option.some.inj hx
  rw [hdrop] at hT
  simp only [go_sem, simprocAttr, q]
  refine pk (elem_does (R := IntG) (l := l) (m := i) rfl tySlice28 tySize3 rfl rfl (dk rfl) rfl hx (fun G hG => Sq.mono h intG_mono (hG.le G0 (by simp)))) ?_
  rintro _ ⟨g1, o', cs, G2, hcl, hcs, rfl⟩
  obtain rfl := hcs
  simp only [go_sem, simprocAttr]
  refine Wb_mk (fun h2 => ?_) (fun h2 => ?_)
  ·have h4 : (decide (x < 0) || decide (200 ≤ x)) = false := by simpa using h2
   have ho : offSec x = false := h4
   have hxi : i64 x := by
    simp only [Bool.or_eq_false_iff, decide_eq_false_iff_not] at h4
    exact ⟨by omega, by omega⟩
   simp only [go_sem, simprocAttr, h4]
   by_cases hin : x ∈ ui
   ·refine pk (lookup_does (kt := 3) (et := 4) (tr := 126) (n := ui.length) (al := setA ui) (v := .bool true) rfl Tryz.underlying126 intKeyed zeroBool (List.mem_singleton.2 rfl) rfl rfl rfl (int_key x hxi) (setA_keys hu1 hi2) (dk rfl) (.inl (List.mem_map.2 ⟨x, hin, rfl⟩))) ?_
    rintro _ rfl
    simp only [go_sem, simprocAttr, h4]
    refine fin_retH (G := G0) Tryz.results112 ?_
    simp only [go_sem, simprocAttr]
    intro aa w' _ _
    rw [hT]
    unfold takeL
    rw [if_pos (.inr hin)]
    exact ⟨rfl, rfl⟩
   ·refine pk (lookup_does (kt := 3) (et := 4) (tr := 126) (n := ui.length) (al := setA ui) (v := .bool false) rfl Tryz.underlying126 intKeyed zeroBool (List.mem_singleton.2 rfl) rfl rfl rfl (int_key x hxi) (setA_keys hu1 hi2) (dk rfl) (.inr ⟨fun e he hk => hin (by obtain ⟨y, hy, rfl⟩ := List.mem_map.1 he; cases hk; exact hy), rfl⟩)) ?_
    rintro _ rfl
    simp only [go_sem, simprocAttr, h4]
    refine pk (update_new_does (R1 := []) (R2 := []) (kt := 3) (et := 4) (tr := 126) (n := ui.length) (al := setA ui) rfl Tryz.underlying126 intKeyed rfl rfl rfl rfl rfl rfl (int_key x hxi) (setA_keys hu1 hi2) (dk rfl) (fun e he hk => hin (by obtain ⟨y, hy, rfl⟩ := List.mem_map.1 he; cases hk; exact hy))) ?_
    rintro _ rfl
    simp only [go_sem, simprocAttr, h4]
    refine ⟨by omega, ?_⟩
    refine again_ok (i + 1, ui ++ [x]) ⟨hlt, ?_, ?_, ?_⟩ (by show l.length - (i + 1) < l.length - i; omega) (by simp only [go_sem, simprocAttr]; simp [usedR, setA_snoc])
    ·rw [hT]
     show takeL ui (x :: l.drop (i + 1)) = _
     rw [takeL, if_neg (by rw [ho]; simp [hin])]
    ·rw [List.nodup_append]
     exact ⟨hu1, by simp, fun a ha b hb e => hin (by rw [List.mem_singleton] at hb; rw [← hb, ← e]; exact ha)⟩
    ·intro y hy
     rcases List.mem_append.1 hy with hy | hy
     ·exact hi2 y hy
     ·rw [List.mem_singleton] at hy; rw [hy]; exact hxi
  ·have h4 : (decide (x < 0) || decide (200 ≤ x)) = true := by cases hb : (decide (x < 0) || decide (200 ≤ x)) with | true => rfl | false => rw [hb] at h2; cases h2
   simp only [go_sem, simprocAttr, h4]
   refine fin_retH (G := G0) Tryz.results112 ?_
   simp only [go_sem, simprocAttr]
   intro aa w' _ _
   rw [hT]
   unfold takeL
   rw [if_pos (.inl h4)]
   exact ⟨rfl, rfl⟩
 ·have q : decide ((i : Int) < (l.length : Int)) = false := decide_eq_false (by omega)
  have e : l.drop i = [] := List.drop_of_length_le (by omega)
  rw [e] at hT
  rw [hT]
  simp only [go_sem, simprocAttr, q]
  refine fin_retH (G := G0) Tryz.results112 ?_
  simp only [go_sem, simprocAttr]
  intro aa w' _ _
  exact ⟨rfl, rfl⟩
end Go.Proofs.YtohdfcnjcpjdcaaGreat
