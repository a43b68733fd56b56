/- The reader of bytes: text, bit, ints, rule, part, ask, version, end. Conditions: as each law states them. -/
import Derived.Test.YtohdfcnjcpjdcaaDoorW1q
namespace Go.Proofs.YtohdfcnjcpjdcaaDoor
open Go.RowKit
set_option linter.unusedSimpArgs false
theorem by_of_sq {G : GW} {A : Option Addr} {n c : Nat} {l : List UInt8} (h : Sq ByteG 5 1 G (.slice A n c) l) : ByG G (.slice A n c) l := by
  have h2 := sq_flat (R := ByteG) (f := fun x => [enc8 x]) (fun _ _ _ h => h) h
  have : l.flatMap (fun x => [enc8 x]) = l.map enc8 := by
    clear h h2
    induction l with
    | nil => rfl
    | cons a r ih => simp [ih]
  rw [this] at h2
  exact h2
theorem tk1_nat (s : RS) : ∃ n : Nat, (tk 1 s).1 = (n : Int) ∧ n < 256 := ⟨(tk 1 s).1.toNat, by have := tk1_bd s; omega, by have := tk1_bd s; omega⟩
set_option maxRecDepth 100000 in
set_option maxHeartbeats 8000000 in
theorem rtext_does {g : Nat} {rv : Value} {s : RS} {G0 : GW} (hW : G0.Wf) (hh : HandsOk G0.w ⟨[⟨g, 56, [rv, .int .i64 s.f]⟩], []⟩) (hM : ∀ k, Hands.A ⟨[⟨g, 56, [rv, .int .i64 s.f]⟩], []⟩ k → G0.M k) (hb : ByG G0 rv s.l) :
    Calls Tryd.prog 30 #[.pointer (some ⟨g, 0, none⟩)] G0.w (RetH G0 ⟨[⟨g, 56, [rv, .int .i64 s.f]⟩], []⟩ fun y css R G => R = [] ∧ y = .string (tx s).1 ∧ ∃ rv', css = [[rv', .int .i64 (tx s).2.f]] ∧ ByG G rv' (tx s).2.l) := by
  obtain ⟨A, c, rfl, hc1, hc2⟩ := hb.form
  have hml := max_le
  refine enterH (n := 34) 3000 ([.c (.p 0 g 0)]) ([⟨0, g, 56, [.v (.slice A s.l.length c), .v (.int .i64 s.f)]⟩]) rfl hW hh hM Tryd.func30 rfl Tryd.ntmps30 (by simp) ?_
  simp only [go_sem, simprocAttr]
  refine plain_ok (N := 3000) (callH_does ([0]) ([]) ([]) ([]) (fun y css R G => R = [] ∧ y = .int .i64 (tk 1 s).1 ∧ ∃ rv', css = [[rv', .int .i64 (tk 1 s).2.f]] ∧ ByG G rv' (tk 1 s).2.l) upV rfl rfl (by kernel_rfl) rfl (dk rfl) rfl rfl (by simp [ids, Diff]) (by simp) (fun G hG hh hM => take_does' (k := 1) (s := s) hG.wf hh hM (hb.mono (hG.le G0 (by simp))) (.inl (by omega)) (by omega)) (fun v css R G _ _ => upV_den css)) (QOk_body _ _ _) (by first | exact .inl rfl | exact .inr ⟨_, _, rfl, rfl⟩) ?_
  rintro _ ⟨_, css, _, G1, ⟨rfl, rfl, rv1, rfl, hb1⟩, hcs, hle, rfl⟩
  clear hcs hle
  obtain ⟨A1, c1, rfl, hc11, hc12⟩ := hb1.form
  
  obtain ⟨n, hn, hn2⟩ := tk1_nat s
  obtain ⟨s1, hs1⟩ : ∃ s1, s1 = (tk 1 s).2 := ⟨_, rfl⟩
  have ht : tx s = if (s1.l.length : Int) < (n : Int) then (⟨#[]⟩, (tk n s1).2) else (⟨(s1.l.take n).toArray⟩, ⟨s1.l.drop n, s1.f⟩) := by
    unfold tx
    rw [← hs1, hn, Int.toNat_natCast]
  rw [ht, hn, ← hs1]
  rw [← hs1] at hb1 hc11
  clear ht
  by_cases hlt : (s1.l.length : Int) < (n : Int)
  · have q : decide ((s1.l.length : Int) < (n : Int)) = true := decide_eq_true hlt
    rw [if_pos hlt]
    simp only [go_sem, simprocAttr, q]
    refine plain_ok (N := 3000) (callH_does ([0]) ([]) ([]) ([]) (fun y css R G => R = [] ∧ y = .int .i64 (tk n s1).1 ∧ ∃ rv', css = [[rv', .int .i64 (tk n s1).2.f]] ∧ ByG G rv' (tk n s1).2.l) upV rfl rfl (by kernel_rfl) rfl (dk rfl) rfl rfl (by simp [ids, Diff]) (by simp) (fun G hG hh hM => take_does' (k := n) (s := s1) hG.wf hh hM (hb1.mono (hG.le G1 (by simp))) (.inr (by omega)) (by omega)) (fun v css R G _ _ => upV_den css)) (QOk_body _ _ _) (by first | exact .inl rfl | exact .inr ⟨_, _, rfl, rfl⟩) ?_
    rintro _ ⟨_, css, _, G2, ⟨rfl, rfl, rv2, rfl, hb2⟩, hcs, hle, rfl⟩
    clear hcs hle
    obtain ⟨A2, c2, rfl, hc21, hc22⟩ := hb2.form
    simp only [go_sem, simprocAttr]
    refine fin_retH (G := G0) Tryd.results30 ?_
    simp only [go_sem, simprocAttr]
    intro aa w' _ hle
    exact ⟨_, rfl, hb2.mono (hle G2 (by simp))⟩
  · have q : decide ((s1.l.length : Int) < (n : Int)) = false := decide_eq_false hlt
    rw [if_neg hlt]
    simp only [go_sem, simprocAttr, q]
    refine plain_ok (N := 3000) (cutq_does (R := ByteG) (l := s1.l) (m := n) rfl rfl tySlice37 tySize5 rfl ⟨_, _, rfl, by omega⟩ (dk rfl) (by omega) hc11) (QOk_body _ _ _) (by first | exact .inl rfl | exact .inr ⟨_, _, rfl, rfl⟩) ?_
    rintro _ ⟨A', hA, rfl⟩
    have hkl : (s1.l.take n).length = n := by rw [List.length_take]; omega
    simp only [go_sem, simprocAttr]
    refine plain_ok (N := 3000) (text_does (bs := s1.l.take n) rfl tyStr9 tySlice37 tyInt5 rfl (dk rfl) (fun G hG => by_of_sq (hA G ((hb1.mono (hG.le G1 (by simp))).sq)))) (QOk_body _ _ _) (by first | exact .inl rfl | exact .inr ⟨_, _, rfl, rfl⟩) ?_
    rintro _ rfl
    simp only [go_sem, simprocAttr]
    refine plain_ok (N := 3000) (cutv_does n (s1.l.length - n) (c1 - n) rfl tySlice37 tySize5 rfl ⟨_, _, rfl, rfl⟩ (show n + (s1.l.length - n) = s1.l.length from by omega) (show n + (c1 - n) = c1 from by omega) (by simp) (dk rfl) (by omega) (by omega)) (QOk_body _ _ _) (by first | exact .inl rfl | exact .inr ⟨_, _, rfl, rfl⟩) ?_
    rintro _ rfl
    have hcut := hb1.cut (k := n) (by omega) hc11
    obtain ⟨A2, hA2⟩ : ∃ A2, A2 = (if n + (c1 - n) = n then A1 else A1.map (·.add (n * 1))) := ⟨_, rfl⟩
    rw [← hA2] at hcut ⊢
    simp only [go_sem, simprocAttr]
    refine fin_retH (G := G0) Tryd.results30 ?_
    simp only [go_sem, simprocAttr]
    intro aa w' _ hle
    exact ⟨_, rfl, hcut.mono (hle G1 (by simp))⟩
set_option maxRecDepth 100000 in
set_option maxHeartbeats 8000000 in
theorem bit_does {g : Nat} {rv : Value} {s : RS} {G0 : GW} (hW : G0.Wf) (hh : HandsOk G0.w ⟨[⟨g, 56, [rv, .int .i64 s.f]⟩], []⟩) (hM : ∀ k, Hands.A ⟨[⟨g, 56, [rv, .int .i64 s.f]⟩], []⟩ k → G0.M k) (hb : ByG G0 rv s.l) :
    Calls Tryd.prog 39 #[.pointer (some ⟨g, 0, none⟩)] G0.w (RetH G0 ⟨[⟨g, 56, [rv, .int .i64 s.f]⟩], []⟩ fun y css R G => R = [] ∧ y = .bool (bt s).1 ∧ ∃ rv', css = [[rv', .int .i64 (bt s).2.f]] ∧ ByG G rv' (bt s).2.l) := by
  obtain ⟨A, c, rfl, hc1, hc2⟩ := hb.form
  have hml := max_le
  refine enterH (n := 20) 3000 ([.c (.p 0 g 0)]) ([⟨0, g, 56, [.v (.slice A s.l.length c), .v (.int .i64 s.f)]⟩]) rfl hW hh hM Tryd.func39 rfl Tryd.ntmps39 (by simp) ?_
  simp only [go_sem, simprocAttr]
  refine plain_ok (N := 3000) (callH_does ([0]) ([]) ([]) ([]) (fun y css R G => R = [] ∧ y = .int .i64 (tk 1 s).1 ∧ ∃ rv', css = [[rv', .int .i64 (tk 1 s).2.f]] ∧ ByG G rv' (tk 1 s).2.l) upV rfl rfl (by kernel_rfl) rfl (dk rfl) rfl rfl (by simp [ids, Diff]) (by simp) (fun G hG hh hM => take_does' (k := 1) (s := s) hG.wf hh hM (hb.mono (hG.le G0 (by simp))) (.inl (by omega)) (by omega)) (fun v css R G _ _ => upV_den css)) (QOk_body _ _ _) (by first | exact .inl rfl | exact .inr ⟨_, _, rfl, rfl⟩) ?_
  rintro _ ⟨_, css, _, G1, ⟨rfl, rfl, rv1, rfl, hb1⟩, hcs, hle, rfl⟩
  clear hcs hle
  obtain ⟨A1, c1, rfl, hc11, hc12⟩ := hb1.form
  
  obtain ⟨n, hn⟩ : ∃ n, n = (tk 1 s).1 := ⟨_, rfl⟩
  obtain ⟨s1, hs1⟩ : ∃ s1, s1 = (tk 1 s).2 := ⟨_, rfl⟩
  have ht : bt s = (decide (n = 1), if (decide (1 < n) && decide (s1.f = 0)) = true then ⟨s1.l, 4⟩ else s1) := by
    unfold bt
    rw [← hs1, ← hn]
  rw [ht, ← hn, ← hs1]
  rw [← hs1] at hb1 hc11
  clear ht
  simp only [go_sem, simprocAttr]
  refine Wb_mk (fun h1 => ?_) (fun h1 => ?_)
  · rw [if_pos h1]
    refine fin_retH (G := G0) Tryd.results39 ?_
    simp only [go_sem, simprocAttr]
    intro aa w' _ hle
    exact ⟨_, rfl, hb1.mono (hle G1 (by simp))⟩
  · rw [if_neg (by rw [h1]; simp)]
    refine fin_retH (G := G0) Tryd.results39 ?_
    simp only [go_sem, simprocAttr]
    intro aa w' _ hle
    exact ⟨_, rfl, hb1.mono (hle G1 (by simp))⟩
def en (s : RS) : RS := if (decide (s.f = 0) && decide (0 < (s.l.length : Int))) = true then ⟨s.l, 4⟩ else s
set_option maxRecDepth 100000 in
set_option maxHeartbeats 8000000 in
theorem end_does {g : Nat} {rv : Value} {s : RS} {G0 : GW} (hW : G0.Wf) (hh : HandsOk G0.w ⟨[⟨g, 56, [rv, .int .i64 s.f]⟩], []⟩) (hM : ∀ k, Hands.A ⟨[⟨g, 56, [rv, .int .i64 s.f]⟩], []⟩ k → G0.M k) (hb : ByG G0 rv s.l) :
    Calls Tryd.prog 17 #[.pointer (some ⟨g, 0, none⟩)] G0.w (RetH G0 ⟨[⟨g, 56, [rv, .int .i64 s.f]⟩], []⟩ fun y css R G => R = [] ∧ y = .int .i64 (en s).f ∧ ∃ rv', css = [[rv', .int .i64 (en s).f]] ∧ ByG G rv' (en s).l) := by
  obtain ⟨A, c, rfl, hc1, hc2⟩ := hb.form
  have hml := max_le
  refine enterH (n := 23) 3000 ([.c (.p 0 g 0)]) ([⟨0, g, 56, [.v (.slice A s.l.length c), .v (.int .i64 s.f)]⟩]) rfl hW hh hM Tryd.func17 rfl Tryd.ntmps17 (by simp) ?_
  simp only [go_sem, simprocAttr]
  refine Wb_mk (fun h1 => ?_) (fun h1 => ?_)
  · have e : en s = ⟨s.l, 4⟩ := by unfold en; rw [if_pos h1]
    rw [e]
    refine fin_retH (G := G0) Tryd.results17 ?_
    simp only [go_sem, simprocAttr]
    intro aa w' _ hle
    exact ⟨_, rfl, hb.mono (hle G0 (by simp))⟩
  · have e : en s = s := by unfold en; rw [if_neg (by rw [h1]; simp)]
    rw [e]
    refine fin_retH (G := G0) Tryd.results17 ?_
    simp only [go_sem, simprocAttr]
    intro aa w' _ hle
    exact ⟨_, rfl, hb.mono (hle G0 (by simp))⟩
end Go.Proofs.YtohdfcnjcpjdcaaDoor
