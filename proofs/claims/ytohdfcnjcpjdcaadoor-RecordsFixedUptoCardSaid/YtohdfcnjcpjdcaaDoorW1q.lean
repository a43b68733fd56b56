/- The reader of bytes: what it reads, in plain words; take. Conditions: as each law states them. -/
import Derived.Test.YtohdfcnjcpjdcaaDoorP12q
import Derived.Test.YtohdfcnjcpjdcaaDoorS15q
import Derived.Test.YtohdfcnjcpjdcaaDoorS26q
namespace Go.Proofs.YtohdfcnjcpjdcaaDoor
open Go.RowKit
set_option linter.unusedSimpArgs false
def ByG (G : GW) (v : Value) (l : List UInt8) : Prop := Byt 5 G v l
theorem ByG.mono {G G' : GW} {v : Value} {l : List UInt8} (h : ByG G v l) (hl : G.Le G') : ByG G' v l := Sl.mono h hl
theorem ByG.form {G : GW} {v : Value} {l : List UInt8} (h : ByG G v l) : ∃ A c, v = .slice A l.length c ∧ l.length ≤ c ∧ c ≤ maxLen := let ⟨A, c, e, h1, h2, _⟩ := h; ⟨A, c, e, h1, h2⟩
def ByteG (_ : GW) (x : UInt8) (cs : List Value) : Prop := cs = [enc8 x]
theorem byteG_mono : MonoR ByteG := fun _ _ _ _ _ h => h
theorem ByG.sq {G : GW} {v : Value} {l : List UInt8} (h : ByG G v l) : Sq ByteG 5 1 G v l := by
  refine ⟨l.map fun x => [enc8 x], ⟨by simp, by simp, fun i cs x h1 h2 => ?_⟩, ?_⟩
  · rw [List.getElem?_map, h2] at h1
    cases h1
    rfl
  · have : (l.map fun x => [enc8 x]).flatten = l.map enc8 := by
      clear h
      induction l with
      | nil => rfl
      | cons a r ih => simp [ih]
    rw [this]
    exact h
theorem ByG.nil (G : GW) : ByG G (.slice none 0 0) [] := Sl.nil _ _ _
theorem ByG.cut {G : GW} {A : Option Addr} {c k : Nat} {l : List UInt8} (h : ByG G (.slice A l.length c) l) (hk : k ≤ l.length) (hc : l.length ≤ c) : ByG G (.slice (if k + (c - k) = k then A else A.map (·.add (k * 1))) (l.length - k) (c - k)) (l.drop k) := by
  have h2 := Sl.cut (l := k) (n' := l.length - k) (c' := c - k) h (by omega) (by omega) (by omega)
  show Sl G _ 1 (l.drop k).length _ ((l.drop k).map enc8)
  rw [List.length_drop, List.map_drop]
  have e : ((l.map enc8).drop (k * 1)).take ((l.length - k) * 1) = (l.map enc8).drop k := by
    rw [Nat.mul_one, Nat.mul_one]
    exact List.take_of_length_le (by simp)
  rw [e] at h2
  exact h2
/-! ### in plain words -/
structure RS where
  l : List UInt8
  f : Int
def tk (k : Nat) (s : RS) : Int × RS := if s.l.length < k then (0, ⟨[], if s.f = 0 then 5 else s.f⟩) else (valB (s.l.take k), ⟨s.l.drop k, s.f⟩)
def tx (s : RS) : ByteArray × RS := if ((tk 1 s).2.l.length : Int) < (tk 1 s).1 then (⟨#[]⟩, (tk (tk 1 s).1.toNat (tk 1 s).2).2) else (⟨((tk 1 s).2.l.take (tk 1 s).1.toNat).toArray⟩, ⟨(tk 1 s).2.l.drop (tk 1 s).1.toNat, (tk 1 s).2.f⟩)
def bt (s : RS) : Bool × RS := (decide ((tk 1 s).1 = 1), if (decide (1 < (tk 1 s).1) && decide ((tk 1 s).2.f = 0)) = true then ⟨(tk 1 s).2.l, 4⟩ else (tk 1 s).2)
/-- many times something is read, as long as nothing is wrong -/
def mn {α : Type} (st : α → RS → α × RS) : Nat → α → RS → α × RS
  | 0, a, s => (a, s)
  | n + 1, a, s => if s.f = 0 then mn st n (st a s).1 (st a s).2 else (a, s)
def mny {α : Type} (st : α → RS → α × RS) (a : α) (s : RS) : α × RS := mn st (tk 1 s).1.toNat a (tk 1 s).2
def itS (a : List Int) (s : RS) : List Int × RS := (a ++ [(tk 1 s).1], (tk 1 s).2)
def its (s : RS) : List Int × RS := mny itS [] s
theorem tk_bd {k : Nat} (s : RS) (hk : k ≤ 4) : 0 ≤ (tk k s).1 ∧ (tk k s).1 < 4294967296 := by
  unfold tk
  split
  · exact ⟨Int.le_refl _, by show (0 : Int) < _; omega⟩
  · have h := valB_bd (s.l.take k)
    have h1 : (256 : Nat) ^ (s.l.take k).length ≤ 256 ^ 4 := Nat.pow_le_pow_right (by omega) (by rw [List.length_take]; omega)
    have h2 : (256 : Nat) ^ 4 = 4294967296 := rfl
    exact ⟨h.1, by show valB _ < _; omega⟩
theorem tk1_bd (s : RS) : 0 ≤ (tk 1 s).1 ∧ (tk 1 s).1 < 256 := by
  unfold tk
  split
  · exact ⟨Int.le_refl _, by show (0 : Int) < _; omega⟩
  · have h := valB_bd (s.l.take 1)
    have h1 : (256 : Nat) ^ (s.l.take 1).length ≤ 256 ^ 1 := Nat.pow_le_pow_right (by omega) (by rw [List.length_take]; omega)
    exact ⟨h.1, by show valB _ < _; omega⟩
/-! ### take -/
set_option maxRecDepth 100000 in
set_option maxHeartbeats 8000000 in
theorem take_does' {g : Nat} {k : Nat} {rv : Value} {s : RS} {G0 : GW} (hW : G0.Wf) (hh : HandsOk G0.w ⟨[⟨g, 56, [rv, .int .i64 s.f]⟩], []⟩) (hM : ∀ k, Hands.A ⟨[⟨g, 56, [rv, .int .i64 s.f]⟩], []⟩ k → G0.M k) (hb : ByG G0 rv s.l) (hk : k ≤ 4 ∨ s.l.length < k) (hk2 : k ≤ 1000000) :
    Calls Tryd.prog 15 #[.pointer (some ⟨g, 0, none⟩), .int .i64 (k : Int)] G0.w (RetH G0 ⟨[⟨g, 56, [rv, .int .i64 s.f]⟩], []⟩ fun y css R G => R = [] ∧ y = .int .i64 (tk k s).1 ∧ ∃ rv', css = [[rv', .int .i64 (tk k s).2.f]] ∧ ByG G rv' (tk k s).2.l) := by
  obtain ⟨A, c, rfl, hc1, hc2⟩ := hb.form
  have hml := max_le
  refine enterH (n := 53) 3000 ([.c (.p 0 g 0), .c (.v (.int .i64 (k : Int)))]) ([⟨0, g, 56, [.v (.slice A s.l.length c), .v (.int .i64 s.f)]⟩]) rfl hW hh hM Tryd.func15 rfl Tryd.ntmps15 (by simp) ?_
  by_cases hlt : s.l.length < k
  · have q : decide ((s.l.length : Int) < (k : Int)) = true := decide_eq_true (by omega)
    have e : tk k s = (0, ⟨[], if s.f = 0 then 5 else s.f⟩) := by unfold tk; rw [if_pos hlt]
    rw [e]
    by_cases hf : s.f = 0
    · have qf : decide (s.f = 0) = true := decide_eq_true hf
      rw [if_pos hf]
      simp only [go_sem, simprocAttr, q, qf]
      refine fin_retH (G := G0) Tryd.results15 ?_
      simp only [go_sem, simprocAttr]
      intro aa w' _ _
      exact ⟨_, rfl, ByG.nil _⟩
    · have qf : decide (s.f = 0) = false := decide_eq_false hf
      rw [if_neg hf]
      simp only [go_sem, simprocAttr, q, qf]
      refine fin_retH (G := G0) Tryd.results15 ?_
      simp only [go_sem, simprocAttr]
      intro aa w' _ _
      exact ⟨_, rfl, ByG.nil _⟩
  · have q : decide ((s.l.length : Int) < (k : Int)) = false := decide_eq_false (by omega)
    have e : tk k s = (valB (s.l.take k), ⟨s.l.drop k, s.f⟩) := by unfold tk; rw [if_neg hlt]
    have hk4 : k ≤ 4 := by omega
    have hkl : (s.l.take k).length = k := by rw [List.length_take]; omega
    rw [e]
    simp only [go_sem, simprocAttr, q]
    refine plain_ok (N := 3000) (cutq_does (R := ByteG) (l := s.l) (m := k) rfl rfl tySlice37 tySize5 rfl ⟨_, _, rfl, by omega⟩ (dk rfl) (by omega) hc1) (QOk_body _ _ _) (by first | exact .inl rfl | exact .inr ⟨_, _, rfl, rfl⟩) ?_
    rintro _ ⟨A', hA, rfl⟩
    simp only [go_sem, simprocAttr]
    refine loop_ok (N := 3000) (ι := Nat × Nat) (fun i => match i with | (i, n) => ⟨[(0, .c (.p 0 g 0)), (1, .c (.v (.int .i64 (k : Int)))), (5, .c (.v (.int .i64 (n : Int)))), (31, .c (.v (.slice A' k c))), (32, .c (.v (.int .i64 (k : Int)))), (33, .c (.v (.int .i64 (i : Int))))],
        [⟨0, g, 56, [.v (.slice A s.l.length c), .v (.int .i64 s.f)]⟩], [], [], [G0], 1⟩)
      (fun i => match i with | (i, n) => i ≤ k ∧ (n : Int) = valB ((s.l.take k).take i))
      (fun i => k - i.1) (QOk_body _ _ _) (0, 0) ⟨Nat.zero_le _, rfl⟩ (by simp only [go_sem, simprocAttr]; simp) ?_
    rintro ⟨i, n⟩ ⟨hi, hn⟩
    simp only
    by_cases hli : i < k
    · have qi : decide ((i : Int) < (k : Int)) = true := decide_eq_true (by omega)
      obtain ⟨x, hx⟩ : ∃ x, (s.l.take k)[i]? = some x := ⟨_, List.getElem?_eq_getElem (by omega)⟩
      have hxl := x.toNat_lt
      have hbd := valB_bd ((s.l.take k).take i)
      have hbn : n < 4294967296 := by
        have h1 : (256 : Nat) ^ ((s.l.take k).take i).length ≤ 256 ^ 4 := Nat.pow_le_pow_right (by omega) (by rw [List.length_take]; omega)
        have h2 : (256 : Nat) ^ 4 = 4294967296 := rfl
        omega
      simp only [go_sem, simprocAttr, qi]
      refine plain_ok (N := 3000) (elem_does (R := ByteG) (l := s.l.take k) (m := i) rfl tySlice37 tySize5 rfl rfl (dk rfl) rfl hx (fun G hG => by have := hA G ((hb.mono (hG.le G0 (by simp))).sq); exact this)) (QOk_body _ _ _) (by first | exact .inl rfl | exact .inr ⟨_, _, rfl, rfl⟩) ?_
      rintro _ ⟨gw, ow, cs, G9, _, rfl, rfl⟩
      simp only [go_sem, simprocAttr, enc8]
      refine plain_ok (N := 3000) (shl_does (m := 256) rfl rfl rfl (by omega) (by omega) (by decide) (dk rfl) (by omega) (by omega)) (QOk_body _ _ _) (by first | exact .inl rfl | exact .inr ⟨_, _, rfl, rfl⟩) ?_
      rintro _ rfl
      simp only [go_sem, simprocAttr]
      refine ⟨by omega, ?_⟩
      refine plain_ok (N := 3000) (or_does (n := n) (c := x.toNat) rfl rfl rfl rfl rfl (by omega) (by omega) (dk rfl)) (QOk_body _ _ _) (by first | exact .inl rfl | exact .inr ⟨_, _, rfl, rfl⟩) ?_
      rintro _ rfl
      simp only [go_sem, simprocAttr]
      have e1 : ((n : Int) * 256 + (x.toNat : Int)) = ((n * 256 + x.toNat : Nat) : Int) := by omega
      have e9 : valB ((s.l.take k).take (i + 1)) = valB ((s.l.take k).take i) * 256 + (x.toNat : Int) := by
        unfold valB
        rw [List.take_add_one, hx]
        exact valFrom_app 0 ((s.l.take k).take i) x
      rw [e1]
      refine ⟨by omega, ?_⟩
      exact again_ok (i + 1, n * 256 + x.toNat) ⟨hli, (by rw [e9, ← hn, e1])⟩ (by show k - (i + 1) < k - i; omega) (by simp only [go_sem, simprocAttr]; simp)
    have hik : i = k := by omega
    subst hik
    have qi : decide ((i : Int) < (i : Int)) = false := decide_eq_false (by omega)
    rw [List.take_of_length_le (by omega)] at hn
    simp only [go_sem, simprocAttr, qi]
    refine plain_ok (N := 3000) (cutv_does i (s.l.length - i) (c - i) rfl tySlice37 tySize5 rfl ⟨_, _, rfl, rfl⟩ (show i + (s.l.length - i) = s.l.length from by omega) (show i + (c - i) = c from by omega) (by simp) (dk rfl) (by omega) (by omega)) (QOk_body _ _ _) (by first | exact .inl rfl | exact .inr ⟨_, _, rfl, rfl⟩) ?_
    rintro _ rfl
    have hcut := hb.cut (k := i) (by omega) hc1
    obtain ⟨A2, hA2⟩ : ∃ A2, A2 = (if i + (c - i) = i then A else A.map (·.add (i * 1))) := ⟨_, rfl⟩
    rw [← hA2] at hcut ⊢
    simp only [go_sem, simprocAttr]
    refine fin_retH (G := G0) Tryd.results15 ?_
    simp only [go_sem, simprocAttr]
    intro aa w' _ hle
    refine ⟨?_, _, rfl, hcut.mono (hle G0 (by simp))⟩
    rw [← hn]
end Go.Proofs.YtohdfcnjcpjdcaaDoor
