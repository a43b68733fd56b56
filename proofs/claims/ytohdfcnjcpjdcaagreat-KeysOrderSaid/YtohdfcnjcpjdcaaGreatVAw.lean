/- slices.Clone and slices.DeleteFunc over versions. Conditions: as each law states them. -/
import Derived.Test.YtohdfcnjcpjdcaaGreatS19w
import Derived.Test.YtohdfcnjcpjdcaaGreatLBw
import Derived.Shelf.SlSortCmp.WholeK
import Derived.Test.YtohdfcnjcpjdcaaGreatProg
import Derived.Deep.RegionHeld3
import Derived.Shelf.SlSortCmp.NoneTotal
namespace Go.Proofs.YtohdfcnjcpjdcaaGreat
open Go.RowKit
set_option linter.unusedSimpArgs false
/-- a version in memory, with its sectors' slice -/
structure VxG (G : GW) (p : Ver × Value) : Prop where
 secs : IntsG G p.2 p.1.secs
 b : p.1.bucket.size ≤ maxLen
 k : p.1.key.size ≤ maxLen
theorem VxG.mono {G G' : GW} {p : Ver × Value} (h : VxG G p) (hl : G.Le G') : VxG G' p := ⟨h.secs.mono hl, h.b, h.k⟩
theorem vx_css {G : GW} : ∀ {css : List (List Value)} {l : List Ver}, ElG VerG 12 G css l → ∃ vx : List (Ver × Value), l = vx.map (·.1) ∧ (∀ p ∈ vx, VxG G p) ∧ css.flatten = vx.flatMap verX
 | [], [], _ => ⟨[], rfl, fun _ h => (by cases h), rfl⟩
 | [], _ :: _, h => by cases h.1
 | _ :: _, [], h => by cases h.1
 | c :: css, x :: l, h => by
  obtain ⟨h1, h2, h3⟩ := h
  obtain ⟨sv, rfl, hs, hb, hk⟩ := h3 0 c x rfl rfl
  obtain ⟨vx, rfl, hok, e⟩ := vx_css (G := G) (css := css) (l := l) ⟨by simpa using h1, fun cs hcs => h2 cs (List.mem_cons_of_mem _ hcs), fun i cs y h4 h5 => h3 (i + 1) cs y (by simpa using h4) (by simpa using h5)⟩
  refine ⟨(x, sv) :: vx, rfl, fun p hp => ?_, by rw [List.flatten_cons, e]; rfl⟩
  rcases List.mem_cons.1 hp with rfl | hp
  ·exact ⟨hs, hb, hk⟩
  ·exact hok p hp
theorem vx_of {G : GW} {v : Value} {l : List Ver} (h : VersG G v l) : ∃ vx : List (Ver × Value), l = vx.map (·.1) ∧ (∀ p ∈ vx, VxG G p) ∧ Sl G 38 12 vx.length v (vx.flatMap verX) := by
 obtain ⟨css, he, hs⟩ := h
 obtain ⟨vx, rfl, hok, e⟩ := vx_css he
 rw [e, List.length_map] at hs
 exact ⟨vx, rfl, hok, hs⟩
theorem vx_to {G : GW} {v : Value} {vx : List (Ver × Value)} (hok : ∀ p ∈ vx, VxG G p) (h : Sl G 38 12 vx.length v (vx.flatMap verX)) : VersG G v (vx.map (·.1)) := by
 refine ⟨vx.map verX, ⟨by simp, fun cs hcs => ?_, fun i cs x h1 h2 => ?_⟩, by rw [← List.flatMap_def, List.length_map]; exact h⟩
 ·obtain ⟨x, _, rfl⟩ := List.mem_map.1 hcs
  rfl
 ·rw [List.getElem?_map] at h1 h2
  cases hq : vx[i]? with
  | none => rw [hq] at h1; cases h1
  | some p =>
   rw [hq] at h1 h2
   cases h1
   cases h2
   have := hok p (List.mem_of_getElem? hq)
   exact ⟨p.2, rfl, this.secs, this.b, this.k⟩
theorem vx_one {G : GW} {vx : List (Ver × Value)} (hok : ∀ p ∈ vx, VxG G p) : ∀ u ∈ vx.flatMap verX, u.oneCell' = true := by
 intro u hu
 obtain ⟨⟨v, sv⟩, hp, hu⟩ := List.mem_flatMap.1 hu
 obtain ⟨A, n, c, rfl⟩ : ∃ A n c, sv = .slice A n c := by
  obtain ⟨A, c, e, _⟩ := Sq.form (hok _ hp).secs
  exact ⟨A, _, c, e⟩
 exact verX_one v A n c u hu
theorem noHands (w : World) : HandsOk w ⟨[], []⟩ := ⟨fun b hb => (by cases hb), List.Pairwise.nil, fun r hr => (by cases hr), fun r hr => (by cases hr), List.Pairwise.nil⟩
set_option maxRecDepth 100000 in
set_option maxHeartbeats 8000000 in
theorem cloneVer_does {vx : List (Ver × Value)} {lv : Value} {G0 : GW} (hW : G0.Wf) (hok : ∀ p ∈ vx, VxG G0 p) (h : Sl G0 38 12 vx.length lv (vx.flatMap verX)) (hn : vx.length ≤ 100000) :
  Calls Tryz.prog 84 #[lv] G0.w (RetH G0 ⟨[], []⟩ fun v _ R _ => ∃ A c, v = .slice A vx.length c ∧ R = [verRow (.slice A vx.length c) vx]) := by
 obtain ⟨A, c, rfl, hc1, hc2, hc3, hc4⟩ := h
 have h : Sl G0 38 12 vx.length (.slice A vx.length c) (vx.flatMap verX) := ⟨A, c, rfl, hc1, hc2, hc3, hc4⟩
 have hml := max_le
 have hh := noHands G0.w
 have hM : ∀ k, Hands.A ⟨[], []⟩ k → G0.M k := fun k hk => absurd hk (noA k)
 refine enterH (n := 8) 3000 ([.c (.v (.slice A vx.length c))]) ([]) rfl hW hh hM Tryz.func84 rfl Tryz.ntmps84 (by simp) ?_
 simp only [go_sem, simprocAttr]
 refine pk (nilcmp_does rfl tySlice25 rfl rfl (dk rfl) (fun w => by kernel_rfl)) ?_
 rintro _ rfl
 cases A with
 | none =>
  have hl : vx = [] := by
   cases vx with
   | nil => rfl
   | cons x l =>
    obtain ⟨g, o, _, _, e2, _⟩ := hc4 (by simp)
    cases e2
  subst hl
  simp only [go_sem, simprocAttr, Option.isNone]
  refine row_ok 38 12 ?_
  refine fin_retH (G := G0) Tryz.results84 ?_
  simp only [go_sem, simprocAttr]
  intro aa w' _ _
  exact ⟨none, 0, rfl, rfl⟩
 | some a =>
  simp only [go_sem, simprocAttr, Option.isNone]
  intro g
  refine pk (litRow_append_does (B1 := []) (news := vx.flatMap verX) rfl tySlice25 tyApp38 rfl rfl rfl rfl rfl rfl (dk rfl) (vx_one hok) (by unfold maxLen; omega) (by omega) (fun G hG => (h.mono (hG G0 (by simp))).tsl)) ?_
  rintro _ ⟨A', c', rfl⟩
  simp only [go_sem, simprocAttr]
  refine fin_retH (G := G0) Tryz.results84 ?_
  simp only [go_sem, simprocAttr]
  intro aa w' _ _
  exact ⟨A', c', rfl, rfl⟩
theorem firstI_map {α β : Type} (f : α → β) (p : β → Bool) : ∀ (l : List α), firstI (fun x => p (f x)) l = firstI p (l.map f)
 | l => by
  rcases first_or (fun x => p (f x)) l with ⟨i, x, hx, hp, hno⟩ | hno
  ·rw [firstI_at hx hp hno, firstI_at (p := p) (l := l.map f) (i := i) (x := f x) (by rw [List.getElem?_map, hx]; rfl) hp (fun k y hk hy => by
    rw [List.getElem?_map] at hy
    obtain ⟨z, hz, rfl⟩ := Option.map_eq_some_iff.1 hy
    exact hno k z hk hz)]
  ·rw [firstI_no hno, firstI_no (p := p) (l := l.map f) (fun k y hy => by
    rw [List.getElem?_map] at hy
    obtain ⟨z, hz, rfl⟩ := Option.map_eq_some_iff.1 hy
    exact hno k z hz)]
set_option maxRecDepth 100000 in
set_option maxHeartbeats 16000000 in
theorem deleteVerF_does {l : List (Ver × Value)} {lv : Value} {f : FuncId} {caps : Array Value} {p : Ver → Bool} {G0 : GW} (hW : G0.Wf) (hh : HandsOk G0.w ⟨[], [verRow lv l]⟩) (hM : ∀ k, Hands.A ⟨[], [verRow lv l]⟩ k → G0.M k) (hl : l.length ≤ 1000) (hf : isFn Tryz.prog f = true)
  (hok : ∀ q ∈ l, VxG G0 q) (hc : ∀ G x sv, IntsG G sv x.secs → x.bucket.size ≤ maxLen → x.key.size ≤ maxLen → G0.Le G → G.Wf → Calls Tryz.prog f (#[.agg (verV x sv).toArray] ++ caps) G.w (Ret G fun v _ => v = .bool (p x))) :
  Calls Tryz.prog 83 #[lv, .func (.func f) #[] caps] G0.w (RetH G0 ⟨[], [verRow lv l]⟩ fun v _ R _ => ∃ A c, v = .slice A (l.filter fun x => !p x.1).length c ∧ R = [verRow (.slice A (l.filter fun x => !p x.1).length c) (l.filter fun x => !p x.1)]) := by
 have hml := max_le
 have hv2 : ∀ (G : GW), G.Wf → G0.Le G → Sl (G.less [verRow lv l]) 38 12 l.length lv (l.flatMap verX) → VersG (G.less [verRow lv l]) lv (l.map (·.1)) := fun G _ hle hsl => vx_to (fun q hq => (hok q hq).mono (hle.trans (GW.le_less _ _))) hsl
 obtain ⟨A, c, e0, hc1, hc2⟩ := row_form (hh.rows (verRow lv l) (by simp)) (by show (12 : Nat) ≠ 0; decide)
 obtain rfl : lv = .slice A l.length c := e0
 have hc1' : l.length ≤ c := hc1
 refine enterH (n := 42) 3000 ([.c (.v (.slice A l.length c)), .c (.v (.func (.func f) #[] caps))]) ([]) rfl hW hh hM Tryz.func83 rfl Tryz.ntmps83 (by simp) ?_
 simp only [go_sem, simprocAttr]
 refine pk (call_does (fun v _ => v = .int .i64 (firstI (fun x => p x.1) l)) rfl rfl (by kernel_rfl) rfl (dk rfl) (fun G hG => by rw [firstI_map]; exact Ret.anyM (M' := (G.less [verRow (.slice A l.length c) l]).M) (indexVer_does (lv := .slice A l.length c) (G0 := G.less [verRow (.slice A l.length c) l]) (hG.wf.less _) (hv2 G hG.wf (hG.le G0 (by simp)) (hG.sl (r := verRow (.slice A l.length c) l) (by simp) (by show (12 : Nat) ≠ 0; decide))) hf (fun G' x sv h1 h2 h3 _ hle hw => hc G' x sv h1 h2 h3 (((hG.le G0 (by simp)).trans (GW.le_less _ _)).trans hle) hw)))) ?_
 rintro _ ⟨_, G1, rfl, hn1, rfl⟩
 clear hn1
 rcases first_or (fun x : Ver × Value => p x.1) l with ⟨i0, x0, hx0, hp0, hno⟩ | hno
 ·have hi0 : firstI (fun x => p x.1) l = (i0 : Int) := firstI_at hx0 hp0 hno
  have hlt0 := (List.getElem?_eq_some_iff.1 hx0).1
  have q : decide ((i0 : Int) = -1) = false := decide_eq_false (by omega)
  rw [hi0]
  simp only [go_sem, simprocAttr, q]
  refine ⟨by omega, ?_⟩
  refine rowChunk_ok (R1 := []) (R2 := []) (f := verX) (l := l) rfl verX_len (by omega) (by omega) rfl fun g tl hv hmx htl => ?_
  simp only [List.append_nil]
  cases hv
  refine loop_ok (N := 3000) (ι := Nat × Nat × List (Ver × Value)) (fun i => match i with | (i, j, m) => ⟨[(0, .c (.v (.slice (some ⟨g, 0, none⟩) l.length (l.length + tl.length)))), (1, .c (.v (.func (.func f) #[] caps))), (5, .c (.v (.int .i64 (i : Int)))), (6, .c (.v (.int .i64 (j : Int))))],
    [⟨0, g, 38, (m.map verX ++ tl).flatten.map .v⟩], [], [], [G1, G0], 1⟩)
   (fun i => match i with | (i, j, m) => i < j ∧ j ≤ l.length ∧ m.length = l.length ∧ m.take i = (l.take j).filter (fun x => !p x.1) ∧ m.drop j = l.drop j)
   (fun i => l.length - i.2.1) (QOk_body _ _ _) (i0, i0 + 1, l) ⟨by omega, by omega, rfl, ?_, rfl⟩ (by simp only [go_sem, simprocAttr]; simp) ?_
  ·rw [take_succ_filter hx0, hp0]
   simp only [Bool.not_true, Bool.false_eq_true, if_false, List.append_nil]
   exact (filter_all fun y hy => by
    obtain ⟨k, hk⟩ := List.mem_iff_getElem?.1 hy
    rw [List.getElem?_take] at hk
    split at hk
    ·rename_i hlt
     rw [hno k y hlt hk]; rfl
    ·cases hk).symm
  rintro ⟨i, j, m⟩ ⟨hij, hj, hml2, hpre, hdr⟩
  simp only
  by_cases hlt : j < l.length
  ·have q1 : decide ((j : Int) < (l.length : Int)) = true := decide_eq_true (by omega)
   obtain ⟨x, hx⟩ : ∃ x, l[j]? = some x := ⟨_, List.getElem?_eq_getElem hlt⟩
   have hxm := List.mem_of_getElem? hx
   have hx1 : x.2.oneCell' = true := by
    obtain ⟨Ax, cx, e, _⟩ := Sq.form (hok x hxm).secs
    rw [e]; rfl
   have hmx : m[j]? = some x := by
    have := congrArg (fun t => t[0]?) hdr
    simpa [List.getElem?_drop, hx] using this
   have hch : Chunks 12 (m.map verX ++ tl) := (chunks_map verX_len m).app htl
   have hget := chunk_get hch (m := j) (c := verX x) (by rw [List.getElem?_append_left (by simp; omega), List.getElem?_map, hmx]; rfl)
   have hlen : j * 12 + 12 ≤ ((m.map verX ++ tl).flatten.map SC.v).length := by rw [List.length_map, hch.len, List.length_append, List.length_map]; omega
   simp only [verX, verV, List.map_cons, List.map_nil] at hget
   simp only [go_sem, simprocAttr, q1]
   refine pk (own_elem_does (id := 0) (m := j) rfl tySlice25 tySize38 rfl rfl (dk rfl) rfl hlt) ?_
   rintro _ rfl
   simp only [go_sem, simprocAttr, hlen, hget]
   intro g2
   refine ⟨hx1, ?_⟩
   refine pk (callD_does (fun r _ => r = .bool (p x.1)) rfl rfl rfl rfl hf rfl (dk rfl) (fun G hG => hc G x.1 x.2 ((hok x hxm).secs.mono (hG.le G0 (by simp))) (hok x hxm).b (hok x hxm).k (hG.le G0 (by simp)) hG.wf)) ?_
   rintro _ ⟨_, G3, rfl, hn3, rfl⟩
   clear hn3
   simp only [go_sem, simprocAttr]
   refine Wb_mk (fun hp => ?_) (fun hp => ?_)
   ·have hp' : p x.1 = false := nt hp
    have hlen2 : i * 12 + 12 ≤ ((m.map verX ++ tl).flatten.map SC.v).length := by omega
    have hput := chunk_set (x := x) verX_len htl (l := m) (i := i) (by omega)
    simp only [verX, verV, List.map_cons, List.map_nil] at hput
    refine pk (own_elem_does (id := 0) (m := i) rfl tySlice25 tySize38 rfl rfl (dk rfl) rfl (by omega)) ?_
    rintro _ rfl
    simp only [go_sem, simprocAttr, hlen2, hput]
    refine ⟨hx1, by omega, by omega, ?_⟩
    refine again_ok (i + 1, j + 1, m.set i x) ⟨by show i + 1 < j + 1; omega, by show j + 1 ≤ l.length; omega, by simpa using hml2, ?_, ?_⟩ (by show l.length - (j + 1) < l.length - j; omega) (by simp only [go_sem, simprocAttr, verX, verV]; simp)
    ·show (m.set i x).take (i + 1) = _
     rw [List.take_succ_set (by omega), hpre, take_succ_filter hx, hp']
     rfl
    ·show (m.set i x).drop (j + 1) = _
     rw [List.drop_set_of_lt (by omega), ← List.drop_drop, hdr, List.drop_drop]
   ·have hp' : p x.1 = true := nf hp
    refine ⟨by omega, ?_⟩
    refine again_ok (i, j + 1, m) ⟨by show i < j + 1; omega, by show j + 1 ≤ l.length; omega, hml2, ?_, ?_⟩ (by show l.length - (j + 1) < l.length - j; omega) (by simp only [go_sem, simprocAttr]; simp)
    ·show m.take i = _
     rw [hpre, take_succ_filter hx, hp']
     simp
    ·show m.drop (j + 1) = _
     rw [← List.drop_drop, hdr, List.drop_drop]
  ·have hjl : j = l.length := by omega
   subst hjl
   have q1 : decide ((l.length : Int) < (l.length : Int)) = false := decide_eq_false (by omega)
   rw [List.take_length] at hpre
   have hkl : (l.filter fun x => !p x.1).length = i := by rw [← hpre, List.length_take]; omega
   simp only [go_sem, simprocAttr, q1]
   refine pk (cutv_does i (l.length - i) (l.length + tl.length - i) rfl tySlice25 tySize38 rfl ⟨_, _, rfl, rfl⟩ (show i + (l.length - i) = l.length from by omega) (show i + (l.length + tl.length - i) = l.length + tl.length from by omega) (by simp) (dk rfl) (by omega) (by omega)) ?_
   rintro _ rfl
   rw [if_neg (show ¬ i + (l.length + tl.length - i) = i from by omega)]
   simp only [Option.map_some, Addr.add_mid, Nat.zero_add]
   simp only [go_sem, simprocAttr]
   refine pk (ownClear_does (id := 0) (off := i * 12) (n := l.length - i) (z := [.int .i64 0, .string ⟨#[]⟩, .string ⟨#[]⟩, .bool false, .bool false, .int .i64 0, .int .i64 0, .int .i64 0, .slice none 0 0, .int .i64 0, .int .i64 0, .int .i64 0]) rfl tySlice25 tySize38 tyZero38 rfl rfl (dk rfl) (fun u hu => List.all_eq_true.1 (show ([.int .i64 0, .string ⟨#[]⟩, .string ⟨#[]⟩, .bool false, .bool false, .int .i64 0, .int .i64 0, .int .i64 0, .slice none 0 0, .int .i64 0, .int .i64 0, .int .i64 0] : List Value).all (fun u => u.oneCell') = true from rfl) u hu) rfl (by show i * 12 + (l.length - i) * 12 ≤ ((m.map verX ++ tl).flatten.map SC.v).length; rw [List.length_map, ((chunks_map verX_len m).app htl).len, List.length_append, List.length_map]; omega)) ?_
   rintro _ rfl
   have hz : Chunks 12 (List.replicate (l.length - i) ([.int .i64 0, .string ⟨#[]⟩, .string ⟨#[]⟩, .bool false, .bool false, .int .i64 0, .int .i64 0, .int .i64 0, .slice none 0 0, .int .i64 0, .int .i64 0, .int .i64 0] : List Value)) := fun c hc => by rw [(List.mem_replicate.1 hc).2]; rfl
   have hput := chunk_put ((chunks_map verX_len m).app htl) hz (m := i) (by rw [List.length_replicate, List.length_append, List.length_map]; omega)
   rw [List.take_append_of_le_length (by rw [List.length_map]; omega), List.length_replicate, show i + (l.length - i) = (m.map verX).length from by rw [List.length_map]; omega, List.drop_left, ← List.map_take, hpre, List.append_assoc] at hput
   simp only [go_sem, simprocAttr, hput]
   refine pk (cutv_does 0 i (l.length + tl.length) rfl tySlice25 tySize38 rfl rfl ⟨_, _, rfl, by omega⟩ (show 0 + (l.length + tl.length) = l.length + tl.length from by omega) (by simp) (dk rfl) (by omega) (by omega)) ?_
   rintro _ rfl
   rw [if_neg (show ¬ 0 + (l.length + tl.length) = 0 from by omega)]
   simp only [Option.map_some, Addr.add_mid, Nat.zero_mul, Nat.add_zero]
   simp only [go_sem, simprocAttr]
   refine chunkRow_ok (B1 := []) 12 i verX (l.filter fun x => !p x.1) (List.replicate (l.length - i) [.int .i64 0, .string ⟨#[]⟩, .string ⟨#[]⟩, .bool false, .bool false, .int .i64 0, .int .i64 0, .int .i64 0, .slice none 0 0, .int .i64 0, .int .i64 0, .int .i64 0] ++ tl) rfl verX_len (hz.app htl) hkl.symm (by rw [List.length_append, List.length_replicate]; omega) ?_
   refine fin_retH (G := G0) Tryz.results83 ?_
   simp only [go_sem, simprocAttr]
   intro aa w' _ _
   have e9 : i + (List.replicate (l.length - i) ([.int .i64 0, .string ⟨#[]⟩, .string ⟨#[]⟩, .bool false, .bool false, .int .i64 0, .int .i64 0, .int .i64 0, .slice none 0 0, .int .i64 0, .int .i64 0, .int .i64 0] : List Value) ++ tl).length = l.length + tl.length := by rw [List.length_append, List.length_replicate]; omega
   rw [e9]
   refine ⟨some ⟨g, 0, none⟩, l.length + tl.length, by rw [hkl], ?_⟩
   unfold verRow
   rw [hkl]
 ·have hi0 : firstI (fun x => p x.1) l = -1 := firstI_no hno
  have q : decide ((-1 : Int) = -1) = true := rfl
  have hfl : (l.filter fun x => !p x.1) = l := filter_all fun y hy => by
   obtain ⟨k, hk⟩ := List.mem_iff_getElem?.1 hy
   rw [hno k y hk]; rfl
  rw [hi0]
  simp only [go_sem, simprocAttr, q]
  refine fin_retH (G := G0) Tryz.results83 ?_
  simp only [go_sem, simprocAttr]
  intro aa w' _ _
  rw [hfl]
  exact ⟨A, c, rfl, rfl⟩
end Go.Proofs.YtohdfcnjcpjdcaaGreat
/- slices.SortFunc laid at this program: the kit's lay-shelf and lay-plain wrote it. Conditions: none. -/
namespace Go.Proofs.YtohdfcnjcpjdcaaGreat
open Go.Shelf
def sortVer_ren : Go.Shelf.Ren := ⟨fun | 6 => 86 | 15 => 119 | 14 => 118 | 28 => 152 | 29 => 153 | 20 => 144 | 21 => 145 | 22 => 146 | 23 => 147 | 24 => 148 | 25 => 149 | 26 => 150 | 27 => 151 | 46 => 170 | 47 => 171 | 48 => 172 | 49 => 173 | 50 => 174 | 57 => 179 | n => n, fun | 22 => 25 | 24 => 38 | 25 => 141 | 3 => 3 | 39 => 134 | 0 => 0 | 53 => 189 | 55 => 191 | 4 => 4 | 46 => 183 | 45 => 182 | 50 => 147 | 5 => 5 | 9 => 9 | 66 => 203 | 70 => 207 | 76 => 210 | 77 => 211 | n => n, fun | n => n⟩
theorem sortVer : Go.Proofs.SlLaysF0.n6 Tryz.prog sortVer_ren := {
 mixed := by kernel_rfl
 f6 := ⟨Tryz.f86.name, by decide, Tryz.func86.trans (congrArg some (by kernel_rfl))⟩
 f14 := ⟨Tryz.f118.name, by decide, Tryz.func118.trans (congrArg some (by kernel_rfl))⟩
 f15 := Tryz.func119.trans (congrArg some (by kernel_rfl))
 f20 := ⟨Tryz.f144.name, by decide, Tryz.func144.trans (congrArg some (by kernel_rfl))⟩
 f21 := ⟨Tryz.f145.name, by decide, Tryz.func145.trans (congrArg some (by kernel_rfl))⟩
 f22 := ⟨Tryz.f146.name, by decide, Tryz.func146.trans (congrArg some (by kernel_rfl))⟩
 f23 := ⟨Tryz.f147.name, by decide, Tryz.func147.trans (congrArg some (by kernel_rfl))⟩
 f24 := ⟨Tryz.f148.name, by decide, Tryz.func148.trans (congrArg some (by kernel_rfl))⟩
 f25 := ⟨Tryz.f149.name, by decide, Tryz.func149.trans (congrArg some (by kernel_rfl))⟩
 f26 := ⟨Tryz.f150.name, by decide, Tryz.func150.trans (congrArg some (by kernel_rfl))⟩
 f27 := ⟨Tryz.f151.name, by decide, Tryz.func151.trans (congrArg some (by kernel_rfl))⟩
 f28 := Tryz.func152.trans (congrArg some (by kernel_rfl))
 f29 := Tryz.func153.trans (congrArg some (by kernel_rfl))
 f46 := ⟨Tryz.f170.name, by decide, Tryz.func170.trans (congrArg some (by kernel_rfl))⟩
 f47 := Tryz.func171.trans (congrArg some (by kernel_rfl))
 f48 := Tryz.func172.trans (congrArg some (by kernel_rfl))
 f49 := ⟨Tryz.f173.name, by decide, Tryz.func173.trans (congrArg some (by kernel_rfl))⟩
 f50 := ⟨Tryz.f174.name, by decide, Tryz.func174.trans (congrArg some (by kernel_rfl))⟩
 f57 := ⟨Tryz.f179.name, by decide, Tryz.func179.trans (congrArg some (by kernel_rfl))⟩
 t0 := Tryz.underlying0
 a0 := Tryz.isAgg0
 z0 := Tryz.sizeOf0
 v0 := Tryz.zeroValue0
 t3 := Tryz.underlying3
 a3 := Tryz.isAgg3
 z3 := Tryz.sizeOf3
 v3 := Tryz.zeroValue3
 t4 := Tryz.underlying4
 a4 := Tryz.isAgg4
 z4 := Tryz.sizeOf4
 v4 := Tryz.zeroValue4
 t5 := Tryz.underlying5
 a5 := Tryz.isAgg5
 z5 := Tryz.sizeOf5
 v5 := Tryz.zeroValue5
 t9 := Tryz.underlying9
 a9 := Tryz.isAgg9
 z9 := Tryz.sizeOf9
 v9 := Tryz.zeroValue9
 t22 := Tryz.underlying25
 a22 := Tryz.isAgg25
 z22 := Tryz.sizeOf25
 v22 := Tryz.zeroValue25
 t25 := Tryz.underlying141
 a25 := Tryz.isAgg141
 z25 := Tryz.sizeOf141
 v25 := Tryz.zeroValue141
 t39 := Tryz.underlying134
 a39 := Tryz.isAgg134
 z39 := Tryz.sizeOf134
 v39 := Tryz.zeroValue134
 t45 := Tryz.underlying182
 a45 := Tryz.isAgg182
 z45 := Tryz.sizeOf182
 v45 := Tryz.zeroValue182
 t46 := Tryz.underlying183
 a46 := Tryz.isAgg183
 z46 := Tryz.sizeOf183
 v46 := Tryz.zeroValue183
 t50 := Tryz.underlying147
 a50 := Tryz.isAgg147
 z50 := Tryz.sizeOf147
 v50 := Tryz.zeroValue147
 t53 := Tryz.underlying189
 a53 := Tryz.isAgg189
 z53 := Tryz.sizeOf189
 v53 := Tryz.zeroValue189
 t55 := Tryz.underlying191
 a55 := Tryz.isAgg191
 z55 := Tryz.sizeOf191
 v55 := Tryz.zeroValue191
 t66 := Tryz.underlying203
 a66 := Tryz.isAgg203
 z66 := Tryz.sizeOf203
 v66 := Tryz.zeroValue203
 t70 := Tryz.underlying207
 a70 := Tryz.isAgg207
 z70 := Tryz.sizeOf207
 v70 := Tryz.zeroValue207
 t76 := Tryz.underlying210
 a76 := Tryz.isAgg210
 z76 := Tryz.sizeOf210
 v76 := Tryz.zeroValue210
 t77 := Tryz.underlying211
 a77 := Tryz.isAgg211
 z77 := Tryz.sizeOf211
 v77 := Tryz.zeroValue211 }
end Go.Proofs.YtohdfcnjcpjdcaaGreat
/- The order of a listing's sort: cmp.Or of two comparisons, in whatever world. Conditions: none. -/
namespace Go.Proofs.YtohdfcnjcpjdcaaGreat
open Go.RowKit
set_option linter.unusedSimpArgs false
set_option maxRecDepth 100000 in
set_option maxHeartbeats 1000000 in
theorem isNaN_any (n : Int) (w : World) : Calls Tryz.prog 121 #[.int .i64 n] w fun e w' => e = .returned (.bool false) ∧ w = w' := by
 go_enter Tryz.func121, Tryz.ntmps121
 go_wp2
 go_ret
 exact ⟨by simp, rfl⟩
set_option maxRecDepth 100000 in
set_option maxHeartbeats 1000000 in
theorem cmpInt_any (a b : Int) (w : World) : Calls Tryz.prog 90 #[.int .i64 a, .int .i64 b] w fun e w' => e = .returned (.int .i64 (cmpI a b)) ∧ w = w' := by
 have ha := fun W => isNaN_any a W
 have hb := fun W => isNaN_any b W
 go_enter Tryz.func90, Tryz.ntmps90
 go_wp2_with (first | (go_at_call 121; refine (ha _).mono ?_; rintro e w' ⟨rfl, rfl⟩) | (go_at_call 121; refine (hb _).mono ?_; rintro e w' ⟨rfl, rfl⟩))
 ·go_ret
  exact ⟨by unfold cmpI; rw [if_pos (by assumption)]; rfl, rfl⟩
 ·go_ret
  exact ⟨by unfold cmpI; rw [if_neg (by omega), if_pos (by omega)]; rfl, rfl⟩
 ·go_ret
  exact ⟨by unfold cmpI; rw [if_neg (by omega), if_neg (by omega)]; rfl, rfl⟩
set_option maxRecDepth 100000 in
set_option maxHeartbeats 1000000 in
theorem compare_any (a b : ByteArray) (w : World) : Calls Tryz.prog 89 #[.string a, .string b] w fun e w' => e = .returned (.int .i64 (cmpS a b)) ∧ w = w' := by
 have h := fun W => cmpStr_any a b W
 generalize cmpS a b = r at h ⊢
 go_enter Tryz.func89, Tryz.ntmps89
 go_wp2_with (go_at_call 120; refine (h _).mono ?_; rintro e w' ⟨rfl, rfl⟩)
 go_ret
 exact ⟨rfl, rfl⟩
set_option maxRecDepth 100000 in
set_option maxHeartbeats 1000000 in
theorem or_any (a b : Int) (B : Nat) (w : World) (h0 : w.cell? ⟨B, 0, none⟩ = some (.int .i64 a)) (h1 : w.cell? ⟨B, 1, none⟩ = some (.int .i64 b)) :
  Calls Tryz.prog 88 #[.slice (some ⟨B, 0, none⟩) 2 2] w fun e w' => e = .returned (.int .i64 (if a = 0 then b else a)) ∧ w = w' := by
 go_enter Tryz.func88, Tryz.ntmps88
 go_wp2
 refine wp_loop_rounds 3 ?_
 rw [rounds_succ]
 by_cases ha : a = 0
 ·have q : (a != 0) = false := by rw [ha]; rfl
  go_wp2
  rw [rounds_succ]
  by_cases hb : b = 0
  ·have q : (b != 0) = false := by rw [hb]; rfl
   go_wp2
   rw [rounds_succ]
   go_wp2
   go_ret
   exact ⟨by simp, rfl⟩
  ·have q : (b != 0) = true := by simp [hb]
   go_wp2
   go_ret
   exact ⟨by simp, rfl⟩
 ·have q : (a != 0) = true := by simp [ha]
  go_wp2
  go_ret
  exact ⟨by simp [ha], rfl⟩
theorem grown3 (W : World) (a b c : Obj) : ∃ q os', (((W.alloc a).alloc b).alloc c).drew = Go.Sort.grow (W.drewN q) os' := ⟨1, #[a] ++ #[b] ++ #[c], by
 rw [Go.Sort.alloc_eq_grow, Go.Sort.alloc_eq_grow, Go.Sort.alloc_eq_grow, Go.Sort.grow_grow, Go.Sort.grow_grow, Go.Sort.drew_grow]
 rfl⟩
/-- a version in memory: what it is, and its sectors' slice -/
structure VS where
 v : Ver
 A : Option Addr
 n : Nat
 c : Nat
instance : Inhabited VS := ⟨⟨⟨0, ⟨#[]⟩, ⟨#[]⟩, false, false, 0, 0, 0, [], 0, 0, 0⟩, none, 0, 0⟩⟩
def VS.p (x : VS) : Ver × Value := (x.v, .slice x.A x.n x.c)
def encS (x : VS) : List Value := verX x.p
def cfS (x y : VS) : Int := cfV x.v y.v
theorem swoS : Go.Sort.SWO (ltOf cfS) where
 irrefl x := vLt_irr x.v
 trans x y z h1 h2 := vLt_trans (x := x.v) (y := y.v) (z := z.v) h1 h2
 ntrans x y z h1 h2 := vLt_ntrans (x := x.v) (y := y.v) (z := z.v) h1 h2
set_option maxRecDepth 100000 in
set_option maxHeartbeats 4000000 in
theorem keys2_any (x y : VS) (W : World) : Calls Tryz.prog 87 #[.agg (encS x).toArray, .agg (encS y).toArray] W fun e w' => e = .returned (.int .i64 (cfS x y)) ∧ ∃ q os', w' = Go.Sort.grow (W.drewN q) os' := by
 have h1 := fun W => compare_any x.v.key y.v.key W
 have h2 := fun W => cmpInt_any y.v.id x.v.id W
 have hr : cfS x y = if cmpS x.v.key y.v.key = 0 then cmpI y.v.id x.v.id else cmpS x.v.key y.v.key := rfl
 rw [hr]
 clear hr
 generalize cmpS x.v.key y.v.key = r1 at h1 ⊢
 generalize cmpI y.v.id x.v.id = r2 at h2 ⊢
 have h3 := fun B W h0 h1 => or_any r1 r2 B W h0 h1
 generalize (if r1 = 0 then r2 else r1) = r3 at h3 ⊢
 unfold encS verX verV VS.p
 go_enter Tryz.func87, Tryz.ntmps87
 go_wp2
 obtain ⟨V, hV⟩ : ∃ V, V = (W.alloc (.cells #[.int .i64 x.v.id, .string x.v.bucket, .string x.v.key, .bool x.v.null, .bool x.v.marker, .int .i64 x.v.size, .int .i64 x.v.time, .int .i64 x.v.tier, .slice x.A x.n x.c, .int .i64 x.v.vol, .int .i64 x.v.at_, .int .i64 x.v.till] 38)).alloc (.cells #[.int .i64 y.v.id, .string y.v.bucket, .string y.v.key, .bool y.v.null, .bool y.v.marker, .int .i64 y.v.size, .int .i64 y.v.time, .int .i64 y.v.tier, .slice y.A y.n y.c, .int .i64 y.v.vol, .int .i64 y.v.at_, .int .i64 y.v.till] 38) := ⟨_, rfl⟩
 rw [← hV]
 have q0 : V.cell? ⟨W.heap.size, 0, none⟩ = some (.int .i64 x.v.id) := by rw [hV]; simp
 have q1 : V.cell? ⟨W.heap.size, 2, none⟩ = some (.string x.v.key) := by rw [hV]; simp
 have q2 : V.cell? ⟨W.heap.size + 1, 0, none⟩ = some (.int .i64 y.v.id) := by rw [hV]; simp
 have q3 : V.cell? ⟨W.heap.size + 1, 2, none⟩ = some (.string y.v.key) := by rw [hV]; simp
 have q4 : V.heap.size = W.heap.size + 2 := by rw [hV]; simp
 have k0 : (V.alloc (.cells #[.int .i64 r1, .int .i64 r2] 3)).drew.cell? ⟨W.heap.size + 2, 0, none⟩ = some (.int .i64 r1) := by rw [← q4]; simp
 have k1 : (V.alloc (.cells #[.int .i64 r1, .int .i64 r2] 3)).drew.cell? ⟨W.heap.size + 2, 1, none⟩ = some (.int .i64 r2) := by rw [← q4]; simp
 have HV := Lib.hid hV
 clear hV
 go_region_held3 (fun U => U.cell? ⟨W.heap.size, 0, none⟩ = some (.int .i64 x.v.id) ∧ U.cell? ⟨W.heap.size, 2, none⟩ = some (.string x.v.key) ∧ U.cell? ⟨W.heap.size + 1, 0, none⟩ = some (.int .i64 y.v.id) ∧ U.cell? ⟨W.heap.size + 1, 2, none⟩ = some (.string y.v.key) ∧ W.heap.size + 2 ≤ U.heap.size)
  (first | go_keep | (refine ⟨?_, ?_, ?_, ?_, ?_⟩ <;> first | go_keep | (simp; omega)))
  ((first | (go_at_call 89; refine (h1 _).mono ?_; rintro e w' ⟨rfl, rfl⟩) | (go_at_call 90; refine (h2 _).mono ?_; rintro e w' ⟨rfl, rfl⟩) | (go_at_call 88; refine Calls.mono (h3 _ _ ?_ ?_) ?_; exact k0; exact k1; rintro e w' ⟨rfl, rfl⟩)))
 go_wp2
 go_ret
 exact ⟨rfl, by rw [HV.out]; exact grown3 _ _ _ _⟩
end Go.Proofs.YtohdfcnjcpjdcaaGreat
/- slices.SortFunc over versions: a row that is handed, in its order. Conditions: as each law states them. -/
namespace Go.Proofs.YtohdfcnjcpjdcaaGreat
open Go.RowKit
open Go.Sort (flatK size_flatK get_flatK HoldsK onCells putCells)
set_option linter.unusedSimpArgs false
theorem getBang {α : Type} [Inhabited α] {l : List α} {i : Nat} {x : α} (h : l[i]? = some x) : l.toArray[i]! = x := by
 obtain ⟨hi, rfl⟩ := List.getElem?_eq_some_iff.1 h
 rw [getElem!_pos l.toArray i (by simpa using hi)]
 simp
theorem flat_at {α : Type} {f : α → List Value} {k : Nat} (hk : ∀ x, (f x).length = k) : ∀ (l : List α) (i r : Nat) (x : α), l[i]? = some x → r < k → (l.flatMap f)[i * k + r]? = (f x)[r]?
 | [], i, r, x, h, _ => by simp at h
 | y :: l, 0, r, x, h, hr => by
  simp at h
  subst h
  rw [List.flatMap_cons, List.getElem?_append_left (by rw [hk]; omega), Nat.zero_mul, Nat.zero_add]
 | y :: l, i + 1, r, x, h, hr => by
  rw [List.flatMap_cons, List.getElem?_append_right (by rw [hk, Nat.succ_mul]; omega), hk, show (i + 1) * k + r - k = i * k + r from by rw [Nat.succ_mul]; omega]
  exact flat_at hk l i r x (by simpa using h) hr
theorem encS_len (x : VS) : (encS x).length = 12 := rfl
theorem flat_len {α : Type} {f : α → List Value} {k : Nat} (hk : ∀ x, (f x).length = k) (l : List α) : (l.flatMap f).length = l.length * k := by
 induction l with
 | nil => simp
 | cons x l ih => rw [List.flatMap_cons, List.length_append, hk, ih, List.length_cons, Nat.succ_mul]; omega
theorem flatK_is (l : List VS) : (flatK encS 12 l.toArray).toList = l.flatMap encS := by
 refine List.ext_getElem? fun j => ?_
 by_cases hj : j < l.length * 12
 ·have hi : j / 12 < l.length := by omega
  obtain ⟨x, hx⟩ : ∃ x, l[j / 12]? = some x := ⟨_, List.getElem?_eq_getElem hi⟩
  have e := flat_at encS_len l (j / 12) (j % 12) x hx (by omega)
  rw [show j / 12 * 12 + j % 12 = j from by omega] at e
  have hs : j < (flatK encS 12 l.toArray).size := by rw [size_flatK]; simpa using hj
  have h2 := get_flatK encS 12 l.toArray j (by simpa using hj)
  rw [getBang hx, getElem!_pos (flatK encS 12 l.toArray) j hs] at h2
  have hr : j % 12 < (encS x).length := by rw [encS_len]; omega
  rw [e, Array.getElem?_toList, Array.getElem?_eq_getElem hs, h2, List.getElem?_eq_getElem hr, getElem!_pos (encS x) (j % 12) hr]
 ·rw [List.getElem?_eq_none (by rw [Array.length_toList, size_flatK]; simpa using hj), List.getElem?_eq_none (by rw [flat_len encS_len]; omega)]
theorem vs_of {G : GW} : ∀ {l : List (Ver × Value)}, (∀ p ∈ l, VxG G p) → ∃ xs : List VS, l = xs.map VS.p
 | [], _ => ⟨[], rfl⟩
 | (v, sv) :: l, h => by
  obtain ⟨xs, rfl⟩ := vs_of (l := l) fun p hp => h p (List.mem_cons_of_mem _ hp)
  obtain ⟨A, c, e, _⟩ := Sq.form (h (v, sv) List.mem_cons_self).secs
  exact ⟨⟨v, A, v.secs.length, c⟩ :: xs, by rw [List.map_cons]; congr 1; show (v, sv) = (v, _); rw [show sv = _ from e]⟩
theorem vs_flat (xs : List VS) : (xs.map VS.p).flatMap verX = xs.flatMap encS := by
 rw [List.flatMap_map]
 rfl
theorem encS_one (x : VS) : ∀ u ∈ encS x, u.oneCell' = true := verX_one x.v x.A x.n x.c
/-- a row of one's own that is not empty -/
theorem rowCells {w : World} {r : Rw} (h : RowIs w r) (hn : 0 < r.n) (hk : r.k ≠ 0) : ∃ g cap cur, r.v = .slice (some ⟨g, 0, none⟩) r.n cap ∧ w.heap[g]? = some (.cells cur r.t (0, 0)) ∧ r.n ≤ cap ∧ cap ≤ maxLen ∧ cur.size = cap * r.k ∧ cur.toList.take (r.n * r.k) = r.xs := by
 rcases h with ⟨_, _, e2, _⟩ | h | ⟨q, _⟩
 ·omega
 ·rcases h.2 with ⟨_, e2⟩ | ⟨g, cap, cur, e, _, hg, h1, h2, h3, h4⟩
  ·omega
  ·exact ⟨g, cap, cur, e, hg, h1, h2, h3, h4⟩
 ·exact absurd q hk
theorem sorted_list {xs : List VS} {d : Array VS} (hp : Go.Sort.PermIn 0 xs.toArray.size xs.toArray d) (hs : Go.Sort.SortedIn (ltOf cfS) 0 xs.toArray.size d) : d.toList.Perm xs ∧ d.toList.Pairwise fun a b => vLt b.v a.v = false := by
 obtain ⟨p1, _, p3⟩ := hp
 have p1' : d.size = xs.length := by simpa using p1
 refine ⟨?_, List.pairwise_iff_getElem.2 fun i j hi hj hij => ?_⟩
 ·have e : d.extract 0 xs.toArray.size = d := by rw [← p1]; simp
  have e2 : xs.toArray.extract 0 xs.toArray.size = xs.toArray := by simp
  rw [e, e2] at p3
  exact p3
 ·have hi' : i < d.size := by simpa using hi
  have hj' : j < d.size := by simpa using hj
  have := hs i j (Nat.zero_le _) hij (by rw [← p1]; exact hj')
  rw [getElem!_pos d i hi', getElem!_pos d j hj'] at this
  exact this
set_option maxRecDepth 100000 in
set_option maxHeartbeats 8000000 in
theorem sortVer_does {l : List (Ver × Value)} {lv : Value} {G0 : GW} (hh : HandsOk G0.w ⟨[], [verRow lv l]⟩) (hl : l.length ≤ 1000) (hok : ∀ q ∈ l, VxG G0 q) :
  Calls Tryz.prog 86 #[lv, .func (.func 87) #[] #[]] G0.w (RetH G0 ⟨[], [verRow lv l]⟩ fun v _ R _ => v = .tuple #[] ∧ ∃ l', R = [verRow lv l'] ∧ l'.Perm l ∧ l'.Pairwise fun a b => vLt b.1 a.1 = false) := by
 have hrow := hh.rows (verRow lv l) (by simp)
 have hap : RApart [verRow lv l] := hh.rapart
 by_cases h0 : l.length = 0
 ·have : l = [] := List.eq_nil_of_length_eq_zero h0
  subst this
  obtain ⟨A, c, e, _⟩ := row_form hrow (by show (12 : Nat) ≠ 0; decide)
  obtain rfl : lv = .slice A 0 c := e
  refine Calls.mono (AnyF.slices_SortFunc_none sortVer A c _ G0.w) fun e w' ⟨he, hw⟩ => ?_
  subst hw
  exact ⟨_, [], [verRow (.slice A 0 c) []], he, trivial, fun r hr => ⟨by rw [List.mem_singleton.1 hr]; exact hrow, fun g hg => .inl ⟨_, List.mem_singleton.2 rfl, by rw [← hg, List.mem_singleton.1 hr]⟩⟩, hap, ⟨rfl, [], rfl, List.Perm.refl _, List.Pairwise.nil⟩, Chg.refl _ _⟩
 ·obtain ⟨g, cap, cur, e, hg, hc1, hc2, hc3, hc4⟩ := rowCells hrow (by show 0 < l.length; omega) (by show (12 : Nat) ≠ 0; decide)
  obtain rfl : lv = .slice (some ⟨g, 0, none⟩) l.length cap := e
  obtain ⟨xs, rfl⟩ := vs_of hok
  have hc4' : cur.toList.take ((xs.map VS.p).length * 12) = (xs.map VS.p).flatMap verX := hc4
  rw [vs_flat, List.length_map] at hc4'
  have hc3' : cur.size = cap * 12 := hc3
  have hc1' : (xs.map VS.p).length ≤ cap := hc1
  rw [List.length_map] at hc1' h0 hl
  have hgl : g < G0.w.heap.size := (Array.getElem?_eq_some_iff.1 hg).1
  have hH : HoldsK encS 12 G0.w g 0 xs.toArray := by
   intro j hj
   rw [size_flatK] at hj
   have hj' : j < xs.length * 12 := by simpa using hj
   have hjc : j < cur.size := by rw [hc3']; omega
   have hg' : G0.w.heap[g]? = some (.cells cur 38 (0, 0)) := hg
   refine ⟨?_, ?_⟩
   ·have e0 : G0.w.cell? ⟨g, 0 + j, none⟩ = cur[j]? := by simp [World.cell?, hg']
    rw [e0]
    have e1 : cur[j]? = (flatK encS 12 xs.toArray).toList[j]? := by
     rw [flatK_is, ← hc4', List.getElem?_take, if_pos hj']
     simp
    rw [e1, Array.getElem?_toList, Array.getElem?_eq_getElem (by rw [size_flatK]; exact hj), getElem!_pos (flatK encS 12 xs.toArray) j (by rw [size_flatK]; exact hj)]
    rfl
   ·unfold World.frozen?
    simp [hg']
  have hcon := AnyQ.slices_SortFunc sortVer 12 Tryz.isAgg38 Tryz.sizeOf38 encS encS_len encS_one cfS swoS 87 #[] g 0 cap xs.toArray G0.w (enters_of Tryz.func87 (by kernel_rfl) rfl)
   (fun m os dk _ x y => keys2_any x y _) hH hgl (by simp; omega)
  rw [List.length_map]
  refine Calls.mono hcon fun e w' ⟨he, d, n, os, hp, hs, hw⟩ => ?_
  obtain ⟨q1, q2⟩ := sorted_list hp hs
  obtain ⟨ys, rfl⟩ : ∃ ys : List VS, d = ys.toArray := ⟨d.toList, by simp⟩
  have q1' : ys.Perm xs := by simpa using q1
  have q2' : ys.Pairwise fun a b => vLt b.v a.v = false := by simpa using q2
  have hlen := q1'.length_eq
  subst hw
  have hheap : (sortWorldK encS 12 G0.w g 0 n ys.toArray os).heap = (G0.w.heap.modify g (onCells (putCells id 0 (flatK encS 12 ys.toArray)))) ++ os := rfl
  have hat : ∀ k, k < G0.w.heap.size → (sortWorldK encS 12 G0.w g 0 n ys.toArray os).heap[k]? = (G0.w.heap.modify g (onCells (putCells id 0 (flatK encS 12 ys.toArray))))[k]? := fun k hk => by
   rw [hheap, Array.getElem?_append_left (by simpa using hk)]
  have hgn : (sortWorldK encS 12 G0.w g 0 n ys.toArray os).heap[g]? = some (.cells (putCells id 0 (flatK encS 12 ys.toArray) cur) 38 (0, 0)) := by
   rw [hat g hgl, Array.getElem?_modify, if_pos rfl, hg]
   rfl
  have hrow' : RowIs (sortWorldK encS 12 G0.w g 0 n ys.toArray os) (verRow (.slice (some ⟨g, 0, none⟩) xs.length cap) (ys.map VS.p)) := by
   refine .inr (.inl ⟨?_, .inr ⟨g, cap, _, ?_, Nat.zero_le _, hgn, ?_, hc2, ?_, ?_⟩⟩)
   ·show ((ys.map VS.p).flatMap verX).length = (ys.map VS.p).length * 12
    exact flat_len verX_len _
   ·show Value.slice _ xs.length cap = Value.slice _ (ys.map VS.p).length cap
    rw [List.length_map, hlen]
   ·show (ys.map VS.p).length ≤ cap
    rw [List.length_map, hlen]; exact hc1'
   ·show (putCells id 0 (flatK encS 12 ys.toArray) cur).size = cap * 12
    simp [putCells, hc3']
   ·show (putCells id 0 (flatK encS 12 ys.toArray) cur).toList.take ((ys.map VS.p).length * 12) = (ys.map VS.p).flatMap verX
    rw [vs_flat, ← flatK_is, List.length_map]
    refine List.ext_getElem? fun j => ?_
    by_cases hj : j < ys.length * 12
    ·have hs2 : j < (flatK encS 12 ys.toArray).size := by rw [size_flatK]; simpa using hj
     have hjc : j < cur.size := by rw [hc3']; omega
     rw [List.getElem?_take, if_pos hj, Array.getElem?_toList, Array.getElem?_toList, Array.getElem?_eq_getElem hs2]
     unfold putCells
     rw [Array.getElem?_mapIdx, Array.getElem?_eq_getElem hjc, Option.map_some, if_pos ⟨Nat.zero_le _, by rw [Nat.zero_add]; exact hs2⟩, Nat.sub_zero, getElem!_pos (flatK encS 12 ys.toArray) j hs2]
     rfl
    ·rw [List.getElem?_eq_none (by rw [List.length_take]; omega), List.getElem?_eq_none (by rw [Array.length_toList, size_flatK]; simpa using hj)]
  have hrb : rb (Value.slice (some ⟨g, 0, none⟩) xs.length cap) = some g := by
   show (if cap = 0 then none else some g) = some g
   rw [if_neg (by omega)]
  refine ⟨_, [], [verRow (.slice (some ⟨g, 0, none⟩) xs.length cap) (ys.map VS.p)], he, trivial, fun r hr => ⟨by rw [List.mem_singleton.1 hr]; exact hrow', fun g' hg' => .inl ⟨_, List.mem_singleton.2 rfl, by rw [← hg', List.mem_singleton.1 hr]; rfl⟩⟩, List.pairwise_singleton _ _, ⟨rfl, ys.map VS.p, rfl, q1'.map _, ?_⟩, ?_⟩
  ·rw [List.pairwise_map]
   exact q2'
  ·refine ⟨rfl, rfl, rfl, ?_, fun k hk hA => ?_⟩
   ·rw [hheap]
    simp
   ·have hne : g ≠ k := fun e => hA (.inr ⟨_, List.mem_singleton.2 rfl, by rw [← e]; exact hrb⟩)
    rw [hat k hk, Array.getElem?_modify, if_neg hne]
end Go.Proofs.YtohdfcnjcpjdcaaGreat
/- list.keys: versions of a bucket with a prefix, by their keys. Conditions: as each law states them. -/
namespace Go.Proofs.YtohdfcnjcpjdcaaGreat
open Go.RowKit
set_option linter.unusedSimpArgs false
theorem strEq (a b : ByteArray) : (a.toList == b.toList) = decide (a = b) := by
 rw [Bool.eq_iff_iff, decide_eq_true_iff, beq_iff_eq, ByteArray.toList_eq, ByteArray.toList_eq]
 cases a
 cases b
 simp [Array.toList_inj]
def prefB (k p : ByteArray) : Bool := decide ((p.size : Int) ≤ (k.size : Int)) && decide (k.extract 0 p.size = p)
set_option maxRecDepth 100000 in
set_option maxHeartbeats 4000000 in
theorem lhasPrefix_does {k p : ByteArray} {G0 : GW} (hW : G0.Wf) (hk : k.size ≤ maxLen) (hp : p.size ≤ maxLen) : Calls Tryz.prog 115 #[.string k, .string p] G0.w (Ret G0 fun v _ => v = .bool (prefB k p)) := by
 have hml := max_le
 refine enterS (G := G0) (n := 18) 3000 hW Tryz.func115 rfl Tryz.ntmps115 (by simp) ?_
 by_cases h : (p.size : Int) ≤ (k.size : Int)
 ·have q : decide ((p.size : Int) ≤ (k.size : Int)) = true := decide_eq_true h
  simp only [go_sem, simprocAttr, q]
  refine ⟨by omega, ?_⟩
  refine fin_ret (G := G0) Tryz.results115 ?_
  simp only [go_sem, simprocAttr]
  intro aa w' _ _
  unfold prefB
  rw [q]
  exact congrArg Value.bool (strEq _ _)
 ·have q : decide ((p.size : Int) ≤ (k.size : Int)) = false := decide_eq_false h
  simp only [go_sem, simprocAttr, q]
  refine fin_ret (G := G0) Tryz.results115 ?_
  simp only [go_sem, simprocAttr]
  intro aa w' _ _
  unfold prefB
  rw [q]
  rfl
set_option maxRecDepth 100000 in
set_option maxHeartbeats 4000000 in
theorem hasPrefix_does {k p : ByteArray} {G0 : GW} (hW : G0.Wf) (hk : k.size ≤ maxLen) (hp : p.size ≤ maxLen) : Calls Tryz.prog 77 #[.string k, .string p] G0.w (Ret G0 fun v _ => v = .bool (prefB k p)) := by
 refine enterS (G := G0) (n := 8) 3000 hW Tryz.func77 rfl Tryz.ntmps77 (by simp) ?_
 simp only [go_sem, simprocAttr]
 refine pk (call_does (fun v _ => v = .bool (prefB k p)) rfl rfl (by kernel_rfl) rfl (dk rfl) (fun G hG => lhasPrefix_does hG.wf hk hp)) ?_
 rintro _ ⟨_, G1, rfl, hn1, rfl⟩
 clear hn1
 simp only [go_sem, simprocAttr]
 refine fin_ret (G := G0) Tryz.results77 ?_
 simp only [go_sem, simprocAttr]
 intro aa w' _ _
 rfl
/-- whether a version is not told -/
def outB (nm pre : ByteArray) (x : Ver) : Bool := !decide (x.bucket = nm) || !prefB x.key pre
def selB (nm pre : ByteArray) (x : Ver) : Bool := !outB nm pre x
set_option maxRecDepth 100000 in
set_option maxHeartbeats 4000000 in
theorem keys1_does {x : Ver} {sv : Value} {nm pre : ByteArray} {gn gp : Nat} {G0 : GW} (hW : G0.Wf) (hsv : IntsG G0 sv x.secs) (hk : x.key.size ≤ maxLen) (hp : pre.size ≤ maxLen) (hb1 : BlkG G0 gn [.string nm]) (hb2 : BlkG G0 gp [.string pre]) :
  Calls Tryz.prog 85 #[.agg (verV x sv).toArray, .pointer (some ⟨gn, 0, none⟩), .pointer (some ⟨gp, 0, none⟩)] G0.w (Ret G0 fun v _ => v = .bool (outB nm pre x)) := by
 obtain ⟨Aw, cw, rfl, _⟩ := Sq.form hsv
 refine enterV (G := G0) (n := 16) 3000 [.c (.v (.agg (verV x (.slice Aw x.secs.length cw)).toArray)), .c (.q 0 gn 0 0), .c (.q 1 gp 0 0)] [⟨0, gn, 0, [.string nm]⟩, ⟨1, gp, 0, [.string pre]⟩] (fun v hv => by
  rcases List.mem_cons.1 hv with rfl | hv
  ·exact hb1
  ·rw [List.mem_singleton.1 hv]; exact hb2) hW Tryz.func85 rfl Tryz.ntmps85 (by simp) ?_
 simp only [go_sem, simprocAttr, verV]
 intro g1
 by_cases hb : x.bucket = nm
 ·have q : (x.bucket.toList == nm.toList) = true := (strEq _ _).trans (decide_eq_true hb)
  simp only [go_sem, simprocAttr, q, Bool.not_true, Bool.not_false]
  refine pk (call_does (fun v _ => v = .bool (prefB x.key pre)) rfl rfl (by kernel_rfl) rfl (dk rfl) (fun G hG => hasPrefix_does hG.wf hk hp)) ?_
  rintro _ ⟨_, G1, rfl, hn1, rfl⟩
  clear hn1
  simp only [go_sem, simprocAttr]
  refine fin_ret (G := G0) Tryz.results85 ?_
  simp only [go_sem, simprocAttr]
  intro aa w' _ _
  unfold outB
  rw [decide_eq_true hb]
  rfl
 ·have q : (x.bucket.toList == nm.toList) = false := (strEq _ _).trans (decide_eq_false hb)
  simp only [go_sem, simprocAttr, q, Bool.not_true, Bool.not_false]
  refine fin_ret (G := G0) Tryz.results85 ?_
  simp only [go_sem, simprocAttr]
  intro aa w' _ _
  unfold outB
  rw [decide_eq_false hb]
  rfl
end Go.Proofs.YtohdfcnjcpjdcaaGreat
