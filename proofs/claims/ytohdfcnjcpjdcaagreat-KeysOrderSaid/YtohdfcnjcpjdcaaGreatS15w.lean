/- slices.Clone: a row of the caller's own. Conditions: as each law states them. -/
import Derived.Test.YtohdfcnjcpjdcaaGreatS14w
import Derived.Test.YtohdfcnjcpjdcaaGreatPAw
namespace Go.Proofs.YtohdfcnjcpjdcaaGreat
open Go.RowKit
set_option linter.unusedSimpArgs false
theorem flat_of {α : Type} {R : GW → α → List Value → Prop} {f : α → List Value} {k : Nat} {G : GW} (hR : ∀ G x cs, R G x cs → cs = f x) : ∀ (css : List (List Value)) (l : List α), ElG R k G css l → css.flatten = l.flatMap f
 | [], [], _ => rfl
 | [], _ :: _, h => by cases h.1
 | _ :: _, [], h => by cases h.1
 | c :: css, x :: l, h => by
  obtain ⟨h1, h2, h3⟩ := h
  rw [List.flatten_cons, List.flatMap_cons, hR G x c (h3 0 c x rfl rfl)]
  congr 1
  exact flat_of hR css l ⟨by simpa using h1, fun cs hcs => h2 cs (List.mem_cons_of_mem _ hcs), fun i cs y h4 h5 => h3 (i + 1) cs y (by simpa using h4) (by simpa using h5)⟩
theorem sq_flat {α : Type} {R : GW → α → List Value → Prop} {f : α → List Value} {t k : Nat} {G : GW} {v : Value} {l : List α} (hR : ∀ G x cs, R G x cs → cs = f x) (h : Sq R t k G v l) : Sl G t k l.length v (l.flatMap f) := by
 obtain ⟨css, he, hs⟩ := h
 rw [flat_of hR css l he] at hs
 exact hs
theorem sq_of_flat {α : Type} {R : GW → α → List Value → Prop} {f : α → List Value} {t k : Nat} {G : GW} {v : Value} {l : List α} (hR : ∀ x ∈ l, R G x (f x)) (hk : ∀ x, (f x).length = k) (h : Sl G t k l.length v (l.flatMap f)) : Sq R t k G v l := by
 refine ⟨l.map f, ⟨by simp, fun cs h => ?_, fun i cs x h1 h2 => ?_⟩, by rw [← List.flatMap_def]; exact h⟩
 ·obtain ⟨x, _, rfl⟩ := List.mem_map.1 h
  exact hk x
 ·rw [List.getElem?_map, h2] at h1
  cases h1
  exact hR x (List.mem_of_getElem? h2)
def intC (x : Int) : List Value := [.int .i64 x]
def bktC (x : Bkt) : List Value := [.string x.name, .int .i64 x.mode, .string x.rule.pre, .int .i64 x.rule.freeze, .int .i64 x.rule.drop]
def askC (x : Ask) : List Value := [.int .i64 x.ver, .int .i64 x.days, .int .i64 x.cls]
theorem intC_one (l : List Int) : ∀ u ∈ l.flatMap intC, u.oneCell' = true := by
 intro u hu
 obtain ⟨x, _, hu⟩ := List.mem_flatMap.1 hu
 simp only [intC, List.mem_singleton] at hu
 rw [hu]; rfl
theorem bktC_one (l : List Bkt) : ∀ u ∈ l.flatMap bktC, u.oneCell' = true := by
 intro u hu
 obtain ⟨x, _, hu⟩ := List.mem_flatMap.1 hu
 simp only [bktC, List.mem_cons, List.not_mem_nil, or_false] at hu
 rcases hu with rfl | rfl | rfl | rfl | rfl <;> rfl
theorem askC_one (l : List Ask) : ∀ u ∈ l.flatMap askC, u.oneCell' = true := by
 intro u hu
 obtain ⟨x, _, hu⟩ := List.mem_flatMap.1 hu
 simp only [askC, List.mem_cons, List.not_mem_nil, or_false] at hu
 rcases hu with rfl | rfl | rfl <;> rfl
def intRow (v : Value) (l : List Int) : Rw := ⟨v, 3, 1, l.length, l.flatMap intC⟩
def bktRow (v : Value) (l : List Bkt) : Rw := ⟨v, 42, 5, l.length, l.flatMap bktC⟩
def askRow (v : Value) (l : List Ask) : Rw := ⟨v, 68, 3, l.length, l.flatMap askC⟩
set_option maxRecDepth 100000 in
set_option maxHeartbeats 8000000 in
theorem cloneInt_does {l : List Int} {lv : Value} {G0 : GW} (hW : G0.Wf) (h : Sq IntG 3 1 G0 lv l) (hn : l.length ≤ 1000000) :
  Calls Tryz.prog 64 #[lv] G0.w (RetH G0 ⟨[], []⟩ fun v _ R _ => ∃ A c, v = .slice A l.length c ∧ R = [intRow (.slice A l.length c) l]) := by
 obtain ⟨A, c, rfl, hc1, hc2⟩ := Sq.form h
 have hml := max_le
 have hh : HandsOk G0.w ⟨[], []⟩ := ⟨fun b hb => (by cases hb), List.Pairwise.nil, fun r hr => (by cases hr), fun r hr => (by cases hr), List.Pairwise.nil⟩
 have hM : ∀ k, Hands.A ⟨[], []⟩ k → G0.M k := fun k hk => by rcases hk with ⟨b, hb, _⟩ | ⟨r, hr, _⟩ <;> contradiction
 refine enterH (n := 8) 3000 ([.c (.v (.slice A l.length c))]) ([]) rfl hW hh hM Tryz.func64 rfl Tryz.ntmps64 (by simp) ?_
 simp only [go_sem, simprocAttr]
 refine pk (nilcmp_does rfl tySlice28 rfl rfl (dk rfl) (fun w => by kernel_rfl)) ?_
 rintro _ rfl
 cases A with
 | none =>
  have hl : l = [] := by
   obtain ⟨css, he, A', c', e, q1, q2, q3, q4⟩ := h
   cases l with
   | nil => rfl
   | cons x l =>
    obtain ⟨g, o, _, _, e2, _⟩ := q4 (by simp)
    cases e
    cases e2
  subst hl
  simp only [go_sem, simprocAttr, Option.isNone]
  refine row_ok 3 1 ?_
  refine fin_retH (G := G0) Tryz.results64 ?_
  simp only [go_sem, simprocAttr]
  intro aa w' _ _
  exact ⟨none, 0, rfl, rfl⟩
 | some a =>
  simp only [go_sem, simprocAttr, Option.isNone]
  intro g
  refine pk (litRow_append_does (B1 := []) (news := l.flatMap intC) rfl tySlice28 tyApp3 rfl rfl rfl rfl rfl rfl (dk rfl) (intC_one l) (by unfold maxLen; omega) (by omega) (fun G hG => (sq_flat (fun _ _ _ q => q) (Sq.mono h intG_mono (hG G0 (by simp)))).tsl)) ?_
  rintro _ ⟨A', c', rfl⟩
  simp only [go_sem, simprocAttr]
  refine fin_retH (G := G0) Tryz.results64 ?_
  simp only [go_sem, simprocAttr]
  intro aa w' _ _
  exact ⟨A', c', rfl, rfl⟩
set_option maxRecDepth 100000 in
set_option maxHeartbeats 8000000 in
theorem cloneBkt_does {l : List Bkt} {lv : Value} {G0 : GW} (hW : G0.Wf) (h : Sq BktG 42 5 G0 lv l) (hn : l.length ≤ 1000000) :
  Calls Tryz.prog 95 #[lv] G0.w (RetH G0 ⟨[], []⟩ fun v _ R _ => ∃ A c, v = .slice A l.length c ∧ R = [bktRow (.slice A l.length c) l]) := by
 obtain ⟨A, c, rfl, hc1, hc2⟩ := Sq.form h
 have hml := max_le
 have hh : HandsOk G0.w ⟨[], []⟩ := ⟨fun b hb => (by cases hb), List.Pairwise.nil, fun r hr => (by cases hr), fun r hr => (by cases hr), List.Pairwise.nil⟩
 have hM : ∀ k, Hands.A ⟨[], []⟩ k → G0.M k := fun k hk => by rcases hk with ⟨b, hb, _⟩ | ⟨r, hr, _⟩ <;> contradiction
 refine enterH (n := 8) 3000 ([.c (.v (.slice A l.length c))]) ([]) rfl hW hh hM Tryz.func95 rfl Tryz.ntmps95 (by simp) ?_
 simp only [go_sem, simprocAttr]
 refine pk (nilcmp_does rfl tySlice24 rfl rfl (dk rfl) (fun w => by kernel_rfl)) ?_
 rintro _ rfl
 cases A with
 | none =>
  have hl : l = [] := by
   obtain ⟨css, he, A', c', e, q1, q2, q3, q4⟩ := h
   cases l with
   | nil => rfl
   | cons x l =>
    obtain ⟨g, o, _, _, e2, _⟩ := q4 (by simp)
    cases e
    cases e2
  subst hl
  simp only [go_sem, simprocAttr, Option.isNone]
  refine row_ok 42 5 ?_
  refine fin_retH (G := G0) Tryz.results95 ?_
  simp only [go_sem, simprocAttr]
  intro aa w' _ _
  exact ⟨none, 0, rfl, rfl⟩
 | some a =>
  simp only [go_sem, simprocAttr, Option.isNone]
  intro g
  refine pk (litRow_append_does (B1 := []) (news := l.flatMap bktC) rfl tySlice24 tyApp42 rfl rfl rfl rfl rfl rfl (dk rfl) (bktC_one l) (by unfold maxLen; omega) (by omega) (fun G hG => (sq_flat (fun _ _ _ q => q.1) (Sq.mono h bktG_mono (hG G0 (by simp)))).tsl)) ?_
  rintro _ ⟨A', c', rfl⟩
  simp only [go_sem, simprocAttr]
  refine fin_retH (G := G0) Tryz.results95 ?_
  simp only [go_sem, simprocAttr]
  intro aa w' _ _
  exact ⟨A', c', rfl, rfl⟩
set_option maxRecDepth 100000 in
set_option maxHeartbeats 8000000 in
theorem cloneAsk_does {l : List Ask} {lv : Value} {G0 : GW} (hW : G0.Wf) (h : Sq AskG 68 3 G0 lv l) (hn : l.length ≤ 1000000) :
  Calls Tryz.prog 96 #[lv] G0.w (RetH G0 ⟨[], []⟩ fun v _ R _ => ∃ A c, v = .slice A l.length c ∧ R = [askRow (.slice A l.length c) l]) := by
 obtain ⟨A, c, rfl, hc1, hc2⟩ := Sq.form h
 have hml := max_le
 have hh : HandsOk G0.w ⟨[], []⟩ := ⟨fun b hb => (by cases hb), List.Pairwise.nil, fun r hr => (by cases hr), fun r hr => (by cases hr), List.Pairwise.nil⟩
 have hM : ∀ k, Hands.A ⟨[], []⟩ k → G0.M k := fun k hk => by rcases hk with ⟨b, hb, _⟩ | ⟨r, hr, _⟩ <;> contradiction
 refine enterH (n := 8) 3000 ([.c (.v (.slice A l.length c))]) ([]) rfl hW hh hM Tryz.func96 rfl Tryz.ntmps96 (by simp) ?_
 simp only [go_sem, simprocAttr]
 refine pk (nilcmp_does rfl tySlice27 rfl rfl (dk rfl) (fun w => by kernel_rfl)) ?_
 rintro _ rfl
 cases A with
 | none =>
  have hl : l = [] := by
   obtain ⟨css, he, A', c', e, q1, q2, q3, q4⟩ := h
   cases l with
   | nil => rfl
   | cons x l =>
    obtain ⟨g, o, _, _, e2, _⟩ := q4 (by simp)
    cases e
    cases e2
  subst hl
  simp only [go_sem, simprocAttr, Option.isNone]
  refine row_ok 68 3 ?_
  refine fin_retH (G := G0) Tryz.results96 ?_
  simp only [go_sem, simprocAttr]
  intro aa w' _ _
  exact ⟨none, 0, rfl, rfl⟩
 | some a =>
  simp only [go_sem, simprocAttr, Option.isNone]
  intro g
  refine pk (litRow_append_does (B1 := []) (news := l.flatMap askC) rfl tySlice27 tyApp68 rfl rfl rfl rfl rfl rfl (dk rfl) (askC_one l) (by unfold maxLen; omega) (by omega) (fun G hG => (sq_flat (fun _ _ _ q => q) (Sq.mono h askG_mono (hG G0 (by simp)))).tsl)) ?_
  rintro _ ⟨A', c', rfl⟩
  simp only [go_sem, simprocAttr]
  refine fin_retH (G := G0) Tryz.results96 ?_
  simp only [go_sem, simprocAttr]
  intro aa w' _ _
  exact ⟨A', c', rfl, rfl⟩
end Go.Proofs.YtohdfcnjcpjdcaaGreat
