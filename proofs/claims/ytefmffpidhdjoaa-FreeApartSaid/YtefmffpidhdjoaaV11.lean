/- 'icehousekeep.FreeApart' returns true for all raw things and numbers. Conditions: none. -/
import Derived.Test.YtefmffpidhdjoaaV1
import Derived.Test.YtefmffpidhdjoaaP11
namespace Go.Proofs.Ytefmffpidhdjoaa
open Go.RowKit
open Nat (reduceAdd reduceSub reduceMul reduceEqDiff reduceLT reduceLeDiff)
set_option linter.unusedSimpArgs false
/-! ### what is taken -/
theorem takeU_snd {u l : List Int} {n : Int} (h : l = [] ∨ (l.length : Int) = secsOf n) (hf : Fr u l) : (takeU u l n).2 = u ++ l := by
  rcases h with rfl | h
  · rw [List.append_nil]
    unfold takeU
    split <;> rfl
  · exact (takeU_iff u l n).2 ((takeU_iff u l n).1.2 ⟨h, hf⟩)
theorem Snd0.len_or {s : Sta} {v : Ver} (h : Snd0 s v) : v.secs = [] ∨ (v.secs.length : Int) = secsOf v.size := by
  rcases h.2 with ⟨_, m⟩ | ⟨_, _, _, t⟩
  · unfold markB at m
    simp only [Bool.and_eq_true, decide_eq_true_eq, len0] at m
    exact .inl m.1.1.1.2
  · rcases t with ⟨_, _, e⟩ | ⟨_, _, _, e⟩ | ⟨_, _, _, _, e⟩
    · exact .inr e
    · exact .inl e
    · exact .inr e
theorem takenV_eq : ∀ (l : List Ver) (u : List Int), (∀ v ∈ l, v.secs = [] ∨ (v.secs.length : Int) = secsOf v.size) → Fr u (secsV l) → takenV u l = u ++ secsV l
  | [], u, _, _ => by simp [takenV, secsV]
  | v :: r, u, h, hf => by
    rw [show secsV (v :: r) = v.secs ++ secsV r from rfl] at hf ⊢
    obtain ⟨h1, h2⟩ := fr_app.1 hf
    rw [takenV, takeU_snd (h v List.mem_cons_self) h1, takenV_eq r _ (fun x hx => h x (List.mem_cons_of_mem _ hx)) h2, List.append_assoc]
theorem takenP_eq : ∀ (l : List Prt) (u : List Int), (∀ v ∈ l, (v.secs.length : Int) = secsOf v.size) → Fr u (secsP l) → takenP u l = u ++ secsP l
  | [], u, _, _ => by simp [takenP, secsP]
  | v :: r, u, h, hf => by
    rw [show secsP (v :: r) = v.secs ++ secsP r from rfl] at hf ⊢
    obtain ⟨h1, h2⟩ := fr_app.1 hf
    rw [takenP, takeU_snd (.inr (h v List.mem_cons_self)) h1, takenP_eq r _ (fun x hx => h x (List.mem_cons_of_mem _ hx)) h2, List.append_assoc]
theorem takenU_eq : ∀ (l : List Upl) (u : List Int), (∀ x ∈ l, ∀ v ∈ x.parts, (v.secs.length : Int) = secsOf v.size) → Fr u (secsU l) → takenU u l = u ++ secsU l
  | [], u, _, _ => by simp [takenU, secsU]
  | v :: r, u, h, hf => by
    rw [show secsU (v :: r) = secsP v.parts ++ secsU r from rfl] at hf ⊢
    obtain ⟨h1, h2⟩ := fr_app.1 hf
    rw [takenU, takenP_eq v.parts u (h v List.mem_cons_self) h1, takenU_eq r _ (fun x hx => h x (List.mem_cons_of_mem _ hx)) h2, List.append_assoc]
theorem taken_eq {s : Sta} (h : Good s) : takenS s = secsV s.vers ++ secsU s.upls := by
  obtain ⟨h1, h2⟩ := fr_app.1 h.fr
  unfold takenS
  rw [takenV_eq s.vers [] (fun v hv => (h.snd v hv).len_or) h1, takenU_eq s.upls _ (fun x hx v hv => ((h.prt x hx).1 v hv).2) h2, List.nil_append]
/-! ### a table of what is taken -/
def tkB (u : List Int) : List Bool := (List.range 200).map fun (i : Nat) => decide ((i : Int) ∈ u)
def tkC (u : List Int) : List SC := (tkB u).map fun b => .v (.bool b)
theorem tkC_len (u : List Int) : (tkC u).length = 200 := by simp [tkC, tkB]
theorem tkC_nil : tkC [] = List.replicate 200 (.v (.bool false)) := List.eq_replicate_iff.2 ⟨tkC_len _, fun b hb => by
  obtain ⟨x, hx, rfl⟩ := List.mem_map.1 hb
  obtain ⟨i, _, rfl⟩ := List.mem_map.1 hx
  simp⟩
theorem tkC_get (u : List Int) {i : Nat} (h : i < 200) : (tkC u)[i * 1]? = some (.v (.bool (decide ((i : Int) ∈ u)))) := by
  simp [tkC, tkB, h]
theorem tkC_put (u : List Int) {i : Nat} (h : i < 200) : putCs (tkC u) (i * 1) [.v (.bool true)] = tkC (u ++ [(i : Int)]) := by
  rw [putCs_eq _ _ _ (by rw [tkC_len]; simp; omega), Nat.mul_one]
  apply List.ext_getElem
  · simp [tkC_len]; omega
  · intro j h1 h2
    rw [tkC_len] at h2
    have e2 : (tkC (u ++ [(i : Int)]))[j]'(by rw [tkC_len]; exact h2) = .v (.bool (decide ((j : Int) ∈ u ++ [(i : Int)]))) := by simp [tkC, tkB]
    have e1 : ∀ q : j < (tkC u).length, (tkC u)[j]'q = .v (.bool (decide ((j : Int) ∈ u))) := by intro q; simp [tkC, tkB]
    rw [e2]
    rcases Nat.lt_trichotomy j i with q | q | q
    · rw [List.getElem_append_left (by simp [tkC_len]; omega), List.getElem_append_left (by simp [tkC_len]; omega), List.getElem_take, e1 (by rw [tkC_len]; omega)]
      congr 2
      have : ((j : Int) = (i : Int)) = False := by simp; omega
      simp [this]
    · subst q
      rw [List.getElem_append_left (by simp [tkC_len]; omega), List.getElem_append_right (by simp [tkC_len]; omega)]
      simp
    · rw [List.getElem_append_right (by simp [tkC_len]; omega), List.getElem_drop]
      have : i + 1 + (j - ((tkC u).take i ++ [SC.v (.bool true)]).length) = j := by simp [tkC_len]; omega
      have e3 : ∀ k (hk : k < (tkC u).length), k = j → (tkC u)[k]'hk = .v (.bool (decide ((j : Int) ∈ u))) := by rintro k hk rfl; exact e1 hk
      rw [e3 _ _ (by simpa using this)]
      congr 2
      have : ((j : Int) = (i : Int)) = False := by simp; omega
      simp [this]
theorem secsV_succ {l : List Ver} {i : Nat} {v : Ver} (h : l[i]? = some v) : secsV (l.take (i + 1)) = secsV (l.take i) ++ v.secs := by
  unfold secsV
  rw [List.take_add_one, h, List.flatMap_append]
  simp
theorem secsP_succ {l : List Prt} {i : Nat} {v : Prt} (h : l[i]? = some v) : secsP (l.take (i + 1)) = secsP (l.take i) ++ v.secs := by
  unfold secsP
  rw [List.take_add_one, h, List.flatMap_append]
  simp
theorem secsU_succ {l : List Upl} {i : Nat} {v : Upl} (h : l[i]? = some v) : secsU (l.take (i + 1)) = secsU (l.take i) ++ secsP v.parts := by
  unfold secsU
  rw [List.take_add_one, h, List.flatMap_append]
  simp
theorem take_succ_at {α : Type} {l : List α} {i : Nat} {x : α} (h : l[i]? = some x) : l.take (i + 1) = l.take i ++ [x] := by
  rw [List.take_add_one, h]
  rfl
theorem frees_at {u : List Int} {n i : Nat} (h : i < n) (hu : (i : Int) ∉ u) : (frees u n)[(frees u i).length]? = some (i : Int) := by
  obtain ⟨m, rfl⟩ : ∃ m, n = i + 1 + m := ⟨n - (i + 1), by omega⟩
  clear h
  induction m with
  | zero => rw [Nat.add_zero, frees_succ, if_neg hu, List.getElem?_append_right (Nat.le_refl _), Nat.sub_self]; rfl
  | succ m ih =>
    rw [show i + 1 + (m + 1) = (i + 1 + m) + 1 from rfl, frees_succ, List.getElem?_append_left (List.getElem?_eq_some_iff.1 ih).1]
    exact ih
theorem infoB : (Try.prog.info? 4).map (fun i => (i.zero, i.size, i.bytes)) = some (some (.bool false), 1, 1) := by kernel_rfl
theorem freeS_ok {s : Sta} (h : okSt s = true) {m : Nat} (hm : m ≤ 200) : freeS s m = (frees (takenS s) m, 0) := by
  unfold freeS
  rw [if_pos h, if_neg (by simp; omega), Int.toNat_natCast]
theorem freeS_no {s : Sta} (h : okSt s = true) : freeS s 201 = ([], 2) := by
  unfold freeS
  rw [if_pos h, if_pos (by simp)]
set_option maxRecDepth 100000 in
set_option maxHeartbeats 8000000 in
theorem freeApart_ret {w : World} (v0 : Value) (l0 : List Raw) (h0 : RawsG ⟨Non, w⟩ v0 l0) (n0 : Int) (hn : i64 n0) :
    Calls Try.prog 7 #[v0, .int .i64 n0] w (Ret ⟨Non, w⟩ fun v _ => v = .bool true) := by
  have hml := max_le
  have hok := stateS_ok l0 40
  obtain ⟨A0, c0, rfl, _, _⟩ := ScR.form h0
  refine enterS (G := ⟨Non, w⟩) (n := 126) 3000 (wf_nonL w) Try.func7 rfl Try.ntmps7 (by simp) ?_
  simp only [go_sem, simprocAttr]
  refine plain_ok (N := 3000) (call_does (fun v G => ∃ sv ov, v = .tuple #[sv, ov] ∧ StaG G sv (stateS l0 40).1 ∧ RecsG G ov (stateS l0 40).2) rfl rfl (by kernel_rfl) rfl (dk rfl) (fun G hG => state_does (most := 40) hG.wf (ScR.mono h0 rawG_mono (hG.le ⟨Non, w⟩ (by simp))) (by omega))) (QOk_body _ _ _) (by first | exact .inl rfl | exact .inr ⟨_, _, rfl, rfl⟩) ?_
  rintro _ ⟨_, G1, ⟨sv, ov, rfl, hs, ho⟩, hn1, rfl⟩
  clear hn1
  obtain ⟨A1, c1, A2, c2, A3, c3, A4, c4, A5, c5, rfl, hP⟩ := hs.form
  obtain ⟨Ao, co, rfl, _⟩ := Sq.form ho
  obtain ⟨s, hsd⟩ : ∃ s, s = (stateS l0 40).1 := ⟨_, rfl⟩
  obtain ⟨rs, hrd⟩ : ∃ rs, rs = (stateS l0 40).2 := ⟨_, rfl⟩
  rw [← hsd] at hok hP hs ⊢
  rw [← hrd] at ho ⊢
  clear hsd hrd
  have hgd := okSt_good.1 hok
  have hT := taken_eq hgd
  have b2 := hgd.vlen
  have b3 := hgd.ulen
  have hkb := pick_bd n0 201 (by omega)
  obtain ⟨m, hm⟩ : ∃ m : Nat, pick n0 201 = (m : Int) := ⟨(pick n0 201).toNat, by omega⟩
  have hm200 : m ≤ 200 := by omega
  have hF := freeS_ok hok hm200
  have hF2 := freeS_no hok
  simp only [go_sem, simprocAttr]
  intro g1
  refine plain_ok (N := 3000) (call_does (fun v _ => v = .int .i64 (m : Int)) rfl rfl (by kernel_rfl) rfl (dk rfl) (fun G hG => by rw [← hm]; exact picked_does hG.wf hn (by omega) (by omega))) (QOk_body _ _ _) (by first | exact .inl rfl | exact .inr ⟨_, _, rfl, rfl⟩) ?_
  rintro _ ⟨_, G2, rfl, hn2, rfl⟩
  clear hn2
  simp only [go_sem, simprocAttr]
  refine plain_ok (N := 3000) (call_does (fun y G => ∃ fv, y = .tuple #[fv, .int .i64 0] ∧ IntsG G fv (frees (takenS s) m)) rfl rfl (by kernel_rfl) rfl (dk rfl) (fun G hG => by have h := free_does (many := (m : Int)) hG.wf (hP.mono (hG.le G1 (by simp))).g; rw [hF] at h; exact h)) (QOk_body _ _ _) (by first | exact .inl rfl | exact .inr ⟨_, _, rfl, rfl⟩) ?_
  rintro _ ⟨_, G3, ⟨fv, rfl, hfv⟩, hn3, rfl⟩
  clear hn3
  obtain ⟨Af, cf, rfl, _⟩ := Sq.form hfv
  have hfl := frees_len (takenS s) m
  simp only [go_sem, simprocAttr]
  refine plain_ok (N := 3000) (makeOwn_does 200 rfl tySlice62 infoB rfl (by omega) rfl rfl (by omega) (dk rfl)) (QOk_body _ _ _) (by first | exact .inl rfl | exact .inr ⟨_, _, rfl, rfl⟩) ?_
  rintro _ ⟨g2, rfl⟩
  rw [← tkC_nil]
  simp only [go_sem, simprocAttr]
  refine loop_ok (N := 3000) (ι := Nat) (fun i => ⟨[(5, .c (.p 0 g1 0)), (7, .c (.v (.int .i64 (m : Int)))), (8, .c (.v (.slice Af (frees (takenS s) m).length cf))), (9, .c (.v (.int .i64 0))), (10, .c (.v (.slice (some ⟨g2, 0, none⟩) 200 200))), (40, .c (.v (.slice A2 s.vers.length c2))), (41, .c (.v (.int .i64 (s.vers.length : Int)))), (42, .c (.v (.int .i64 (i : Int))))],
      [⟨1, g2, 4, tkC (secsV (s.vers.take i))⟩, ⟨0, g1, 29, [.v (.int .i64 s.next), .v (.int .i64 s.clock), .v (.slice A1 s.bkts.length c1), .v (.slice A2 s.vers.length c2), .v (.slice A3 s.upls.length c3), .v (.slice A4 s.queue.length c4), .v (.slice A5 s.gone.length c5)]⟩], [], [], [G3, G1, ⟨Non, w⟩], 2⟩)
    (fun i => i ≤ s.vers.length)
    (fun i => s.vers.length - i) (QOk_body _ _ _) 0 (Nat.zero_le _) (by simp only [go_sem, simprocAttr]; simp [secsV]) ?_
  rintro i hi
  by_cases hlt : i < s.vers.length
  · have q : decide ((i : Int) < (s.vers.length : Int)) = true := decide_eq_true (by omega)
    obtain ⟨v, hv⟩ : ∃ v, s.vers[i]? = some v := ⟨_, List.getElem?_eq_getElem hlt⟩
    have hvm := List.mem_of_getElem? hv
    have hsucc := secsV_succ hv
    simp only [go_sem, simprocAttr, q]
    refine plain_ok (N := 3000) (elem_does (R := VerG) (l := s.vers) (m := i) rfl tySlice24 tySize44 rfl rfl (dk rfl) rfl hv (fun G hG => Sq.mono hP.vers verG_mono (hG.le G1 (by simp)))) (QOk_body _ _ _) (by first | exact .inl rfl | exact .inr ⟨_, _, rfl, rfl⟩) ?_
    rintro _ ⟨g4, o', cs, G4, hcl, ⟨svx, rfl, hsl, hk1, hk2⟩, rfl⟩
    obtain ⟨Aw, cw, rfl, hwl, hwm⟩ := Sq.form hsl
    obtain ⟨l, hl⟩ : ∃ l, l = v.secs := ⟨_, rfl⟩
    have hll : l.length = v.secs.length := by rw [hl]
    simp only [go_sem, simprocAttr, verV]
    intro g5
    rw [← hl] at hsl hsucc ⊢
    refine loop_ok (N := 3000) (ι := Nat) (fun j => ⟨[(5, .c (.p 0 g1 0)), (7, .c (.v (.int .i64 (m : Int)))), (8, .c (.v (.slice Af (frees (takenS s) m).length cf))), (9, .c (.v (.int .i64 0))), (10, .c (.v (.slice (some ⟨g2, 0, none⟩) 200 200))), (40, .c (.v (.slice A2 s.vers.length c2))), (41, .c (.v (.int .i64 (s.vers.length : Int)))), (42, .c (.v (.int .i64 (i : Int)))), (47, .c (.v (.slice Aw l.length cw))), (48, .c (.v (.int .i64 (l.length : Int)))), (49, .c (.v (.int .i64 (j : Int))))],
        [⟨1, g2, 4, tkC (secsV (s.vers.take i) ++ l.take j)⟩, ⟨0, g1, 29, [.v (.int .i64 s.next), .v (.int .i64 s.clock), .v (.slice A1 s.bkts.length c1), .v (.slice A2 s.vers.length c2), .v (.slice A3 s.upls.length c3), .v (.slice A4 s.queue.length c4), .v (.slice A5 s.gone.length c5)]⟩], [], [], [G4, G3, G1, ⟨Non, w⟩], 4⟩)
      (fun j => j ≤ l.length)
      (fun j => l.length - j) (QOk_body _ _ _) 0 (Nat.zero_le _) (by rw [List.take_zero, List.append_nil]; simp only [go_sem, simprocAttr]; simp) ?_
    rintro j hj
    by_cases hltj : j < l.length
    · have qj : decide ((j : Int) < (l.length : Int)) = true := decide_eq_true (by omega)
      obtain ⟨y, hy⟩ : ∃ y, l[j]? = some y := ⟨_, List.getElem?_eq_getElem hltj⟩
      have hys : y ∈ secsV s.vers ++ secsU s.upls := by refine List.mem_append_left _ (List.mem_flatMap.2 ⟨v, hvm, ?_⟩); rw [← hl]; exact List.mem_of_getElem? hy
      have hyo := (hgd.fr.1 y hys).1
      unfold offSec at hyo
      simp only [Bool.or_eq_false_iff, decide_eq_false_iff_not] at hyo
      obtain ⟨n, rfl⟩ : ∃ n : Nat, y = (n : Int) := ⟨y.toNat, by omega⟩
      have hn2 : n < 200 := by omega
      simp only [go_sem, simprocAttr, qj]
      refine plain_ok (N := 3000) (elem_does (R := IntG) (l := l) (m := j) rfl tySlice27 tySize3 rfl rfl (dk rfl) rfl hy (fun G hG => IntsG.mono hsl (hG.le G4 (by simp)))) (QOk_body _ _ _) (by first | exact .inl rfl | exact .inr ⟨_, _, rfl, rfl⟩) ?_
      rintro _ ⟨g6, o6, cs6, G6, hcl6, hcs6, rfl⟩
      obtain rfl := hcs6
      simp only [go_sem, simprocAttr]
      have hput := tkC_put (secsV (s.vers.take i) ++ l.take j) hn2
      have hlen : n * 1 + 1 ≤ (tkC (secsV (s.vers.take i) ++ l.take j)).length := by rw [tkC_len]; omega
      refine plain_ok (N := 3000) (own_elem_does (id := 1) (m := n) rfl tySlice62 tySize4 rfl rfl (dk rfl) rfl hn2) (QOk_body _ _ _) (by first | exact .inl rfl | exact .inr ⟨_, _, rfl, rfl⟩) ?_
      rintro _ rfl
      simp only [go_sem, reduceAdd, reduceSub, reduceMul, reduceEqDiff, reduceLT, reduceLeDiff, Nat.reduceBEq, Nat.reduceBNe, Int.reduceLT, Int.reduceLE, Int.reduceEq, Int.reduceAdd, Int.reduceSub, Int.reduceNeg, reduceCtorEq, hlen, hput]
      refine ⟨by omega, ?_⟩
      refine again_ok (j + 1) hltj (by omega) (by rw [take_succ_at hy, ← List.append_assoc]; simp only [go_sem, simprocAttr]; simp)
    have hjl : j = l.length := by omega
    subst hjl
    have qj : decide ((l.length : Int) < (l.length : Int)) = false := decide_eq_false (by omega)
    rw [List.take_length]
    simp only [go_sem, simprocAttr, qj]
    rw [← hsucc]
    refine ⟨by omega, ?_⟩
    refine again_ok (i + 1) hlt (by omega) (by simp only [go_sem, simprocAttr]; simp)
  have hil : i = s.vers.length := by omega
  subst hil
  have q : decide ((s.vers.length : Int) < (s.vers.length : Int)) = false := decide_eq_false (by omega)
  rw [List.take_length]
  simp only [go_sem, simprocAttr, q]
  refine loop_ok (N := 3000) (ι := Nat) (fun i => ⟨[(5, .c (.p 0 g1 0)), (7, .c (.v (.int .i64 (m : Int)))), (8, .c (.v (.slice Af (frees (takenS s) m).length cf))), (9, .c (.v (.int .i64 0))), (10, .c (.v (.slice (some ⟨g2, 0, none⟩) 200 200))), (59, .c (.v (.slice A3 s.upls.length c3))), (60, .c (.v (.int .i64 (s.upls.length : Int)))), (61, .c (.v (.int .i64 (i : Int))))],
      [⟨1, g2, 4, tkC (secsV s.vers ++ secsU (s.upls.take i))⟩, ⟨0, g1, 29, [.v (.int .i64 s.next), .v (.int .i64 s.clock), .v (.slice A1 s.bkts.length c1), .v (.slice A2 s.vers.length c2), .v (.slice A3 s.upls.length c3), .v (.slice A4 s.queue.length c4), .v (.slice A5 s.gone.length c5)]⟩], [], [], [G3, G1, ⟨Non, w⟩], 2⟩)
    (fun i => i ≤ s.upls.length)
    (fun i => s.upls.length - i) (QOk_body _ _ _) 0 (Nat.zero_le _) (by simp only [go_sem, simprocAttr]; simp [secsU]) ?_
  clear q hi hlt
  rintro i hi
  by_cases hlt : i < s.upls.length
  · have q : decide ((i : Int) < (s.upls.length : Int)) = true := decide_eq_true (by omega)
    obtain ⟨x, hx⟩ : ∃ x, s.upls[i]? = some x := ⟨_, List.getElem?_eq_getElem hlt⟩
    have hxm := List.mem_of_getElem? hx
    have hpl := (okSt_iff.1 hok).parts_len x hxm
    have hsuccU := secsU_succ hx
    simp only [go_sem, simprocAttr, q]
    refine plain_ok (N := 3000) (elem_does (R := UplG) (l := s.upls) (m := i) rfl tySlice25 tySize65 rfl rfl (dk rfl) rfl hx (fun G hG => Sq.mono hP.upls uplG_mono (hG.le G1 (by simp)))) (QOk_body _ _ _) (by first | exact .inl rfl | exact .inr ⟨_, _, rfl, rfl⟩) ?_
    rintro _ ⟨g4, o', cs, G4, hcl, ⟨pv, rfl, hpv, hk1, hk2⟩, rfl⟩
    obtain ⟨Ap, cp, rfl, _⟩ := Sq.form hpv
    simp only [go_sem, simprocAttr]
    intro g5
    refine loop_ok (N := 3000) (ι := Nat) (fun k => ⟨[(5, .c (.p 0 g1 0)), (7, .c (.v (.int .i64 (m : Int)))), (8, .c (.v (.slice Af (frees (takenS s) m).length cf))), (9, .c (.v (.int .i64 0))), (10, .c (.v (.slice (some ⟨g2, 0, none⟩) 200 200))), (59, .c (.v (.slice A3 s.upls.length c3))), (60, .c (.v (.int .i64 (s.upls.length : Int)))), (61, .c (.v (.int .i64 (i : Int)))), (66, .c (.v (.slice Ap x.parts.length cp))), (67, .c (.v (.int .i64 (x.parts.length : Int)))), (68, .c (.v (.int .i64 (k : Int))))],
        [⟨1, g2, 4, tkC ((secsV s.vers ++ secsU (s.upls.take i)) ++ secsP (x.parts.take k))⟩, ⟨0, g1, 29, [.v (.int .i64 s.next), .v (.int .i64 s.clock), .v (.slice A1 s.bkts.length c1), .v (.slice A2 s.vers.length c2), .v (.slice A3 s.upls.length c3), .v (.slice A4 s.queue.length c4), .v (.slice A5 s.gone.length c5)]⟩], [], [], [G4, G3, G1, ⟨Non, w⟩], 4⟩)
      (fun k => k ≤ x.parts.length)
      (fun k => x.parts.length - k) (QOk_body _ _ _) 0 (Nat.zero_le _) (by simp only [go_sem, simprocAttr]; simp [secsP]) ?_
    rintro k hk
    by_cases hltk : k < x.parts.length
    · have q2 : decide ((k : Int) < (x.parts.length : Int)) = true := decide_eq_true (by omega)
      obtain ⟨p, hp⟩ : ∃ p, x.parts[k]? = some p := ⟨_, List.getElem?_eq_getElem hltk⟩
      have hpm := List.mem_of_getElem? hp
      have hsuccP := secsP_succ hp
      simp only [go_sem, simprocAttr, q2]
      refine plain_ok (N := 3000) (elem_does (R := PrtG) (l := x.parts) (m := k) rfl tySlice63 tySize48 rfl rfl (dk rfl) rfl hp (fun G hG => Sq.mono hpv prtG_mono (hG.le G4 (by simp)))) (QOk_body _ _ _) (by first | exact .inl rfl | exact .inr ⟨_, _, rfl, rfl⟩) ?_
      rintro _ ⟨g7, o7, cs7, G7, hcl7, ⟨svx, rfl, hsl⟩, rfl⟩
      obtain ⟨Aw, cw, rfl, hwl, hwm⟩ := Sq.form hsl
      obtain ⟨l, hl⟩ : ∃ l, l = p.secs := ⟨_, rfl⟩
      have hll : l.length = p.secs.length := by rw [hl]
      simp only [go_sem, simprocAttr]
      intro g8
      rw [← hl] at hsl hsuccP ⊢
      refine loop_ok (N := 3000) (ι := Nat) (fun j => ⟨[(5, .c (.p 0 g1 0)), (7, .c (.v (.int .i64 (m : Int)))), (8, .c (.v (.slice Af (frees (takenS s) m).length cf))), (9, .c (.v (.int .i64 0))), (10, .c (.v (.slice (some ⟨g2, 0, none⟩) 200 200))), (59, .c (.v (.slice A3 s.upls.length c3))), (60, .c (.v (.int .i64 (s.upls.length : Int)))), (61, .c (.v (.int .i64 (i : Int)))), (66, .c (.v (.slice Ap x.parts.length cp))), (67, .c (.v (.int .i64 (x.parts.length : Int)))), (68, .c (.v (.int .i64 (k : Int)))), (73, .c (.v (.slice Aw l.length cw))), (74, .c (.v (.int .i64 (l.length : Int)))), (75, .c (.v (.int .i64 (j : Int))))],
          [⟨1, g2, 4, tkC ((secsV s.vers ++ secsU (s.upls.take i)) ++ secsP (x.parts.take k) ++ l.take j)⟩, ⟨0, g1, 29, [.v (.int .i64 s.next), .v (.int .i64 s.clock), .v (.slice A1 s.bkts.length c1), .v (.slice A2 s.vers.length c2), .v (.slice A3 s.upls.length c3), .v (.slice A4 s.queue.length c4), .v (.slice A5 s.gone.length c5)]⟩], [], [], [G7, G4, G3, G1, ⟨Non, w⟩], 6⟩)
        (fun j => j ≤ l.length)
        (fun j => l.length - j) (QOk_body _ _ _) 0 (Nat.zero_le _) (by rw [List.take_zero, List.append_nil]; simp only [go_sem, simprocAttr]; simp) ?_
      rintro j hj
      by_cases hltj : j < l.length
      · have qj : decide ((j : Int) < (l.length : Int)) = true := decide_eq_true (by omega)
        obtain ⟨y, hy⟩ : ∃ y, l[j]? = some y := ⟨_, List.getElem?_eq_getElem hltj⟩
        have hys : y ∈ secsV s.vers ++ secsU s.upls := by refine List.mem_append_right _ (List.mem_flatMap.2 ⟨x, hxm, List.mem_flatMap.2 ⟨p, hpm, ?_⟩⟩); rw [← hl]; exact List.mem_of_getElem? hy
        have hyo := (hgd.fr.1 y hys).1
        unfold offSec at hyo
        simp only [Bool.or_eq_false_iff, decide_eq_false_iff_not] at hyo
        obtain ⟨n, rfl⟩ : ∃ n : Nat, y = (n : Int) := ⟨y.toNat, by omega⟩
        have hn2 : n < 200 := by omega
        simp only [go_sem, simprocAttr, qj]
        refine plain_ok (N := 3000) (elem_does (R := IntG) (l := l) (m := j) rfl tySlice27 tySize3 rfl rfl (dk rfl) rfl hy (fun G hG => IntsG.mono hsl (hG.le G7 (by simp)))) (QOk_body _ _ _) (by first | exact .inl rfl | exact .inr ⟨_, _, rfl, rfl⟩) ?_
        rintro _ ⟨g6, o6, cs6, G6, hcl6, hcs6, rfl⟩
        obtain rfl := hcs6
        simp only [go_sem, simprocAttr]
        have hput := tkC_put ((secsV s.vers ++ secsU (s.upls.take i)) ++ secsP (x.parts.take k) ++ l.take j) hn2
        have hlen : n * 1 + 1 ≤ (tkC ((secsV s.vers ++ secsU (s.upls.take i)) ++ secsP (x.parts.take k) ++ l.take j)).length := by rw [tkC_len]; omega
        refine plain_ok (N := 3000) (own_elem_does (id := 1) (m := n) rfl tySlice62 tySize4 rfl rfl (dk rfl) rfl hn2) (QOk_body _ _ _) (by first | exact .inl rfl | exact .inr ⟨_, _, rfl, rfl⟩) ?_
        rintro _ rfl
        simp only [go_sem, reduceAdd, reduceSub, reduceMul, reduceEqDiff, reduceLT, reduceLeDiff, Nat.reduceBEq, Nat.reduceBNe, Int.reduceLT, Int.reduceLE, Int.reduceEq, Int.reduceAdd, Int.reduceSub, Int.reduceNeg, reduceCtorEq, hlen, hput]
        refine ⟨by omega, ?_⟩
        refine again_ok (j + 1) hltj (by omega) (by rw [take_succ_at hy, ← List.append_assoc]; simp only [go_sem, simprocAttr]; simp)
      have hjl : j = l.length := by omega
      subst hjl
      have qj : decide ((l.length : Int) < (l.length : Int)) = false := decide_eq_false (by omega)
      rw [List.take_length]
      simp only [go_sem, simprocAttr, qj]
      rw [List.append_assoc, ← hsuccP]
      refine ⟨by omega, ?_⟩
      refine again_ok (k + 1) hltk (by omega) (by simp only [go_sem, simprocAttr]; simp)
    have hkl : k = x.parts.length := by omega
    subst hkl
    have q2 : decide ((x.parts.length : Int) < (x.parts.length : Int)) = false := decide_eq_false (by omega)
    rw [List.take_length]
    simp only [go_sem, simprocAttr, q2]
    rw [List.append_assoc, ← hsuccU]
    refine ⟨by omega, ?_⟩
    refine again_ok (i + 1) hlt (by omega) (by simp only [go_sem, simprocAttr]; simp)
  have hil : i = s.upls.length := by omega
  subst hil
  have q : decide ((s.upls.length : Int) < (s.upls.length : Int)) = false := decide_eq_false (by omega)
  rw [List.take_length, ← hT]
  simp only [go_sem, simprocAttr, q]
  obtain ⟨u, hu⟩ : ∃ u, u = takenS s := ⟨_, rfl⟩
  rw [← hu] at hfv hfl ⊢
  refine loop_ok (N := 3000) (ι := Nat) (fun i => ⟨[(5, .c (.p 0 g1 0)), (7, .c (.v (.int .i64 (m : Int)))), (8, .c (.v (.slice Af (frees (u) m).length cf))), (9, .c (.v (.int .i64 0))), (10, .c (.v (.slice (some ⟨g2, 0, none⟩) 200 200))), (21, .c (.v (.int .i64 ((frees u i).length : Int)))), (22, .c (.v (.int .i64 (i : Int))))],
      [⟨1, g2, 4, tkC (u)⟩, ⟨0, g1, 29, [.v (.int .i64 s.next), .v (.int .i64 s.clock), .v (.slice A1 s.bkts.length c1), .v (.slice A2 s.vers.length c2), .v (.slice A3 s.upls.length c3), .v (.slice A4 s.queue.length c4), .v (.slice A5 s.gone.length c5)]⟩], [], [], [G3, G1, ⟨Non, w⟩], 2⟩)
    (fun i => i ≤ m)
    (fun i => m - i) (QOk_body _ _ _) 0 (Nat.zero_le _) (by simp only [go_sem, simprocAttr]; simp [frees]) ?_
  clear q hi hlt
  rintro i hi
  have hfi := frees_len u i
  by_cases hlt : i < m
  · have q : decide ((i : Int) < (m : Int)) = true := decide_eq_true (by omega)
    have hget := tkC_get u (show i < 200 by omega)
    have hlen : i * 1 + 1 ≤ (tkC u).length := by rw [tkC_len]; omega
    have hfs := frees_succ u i
    simp only [go_sem, simprocAttr, q]
    refine plain_ok (N := 3000) (own_elem_does (id := 1) (m := i) rfl tySlice62 tySize4 rfl rfl (dk rfl) rfl (show i < 200 by omega)) (QOk_body _ _ _) (by first | exact .inl rfl | exact .inr ⟨_, _, rfl, rfl⟩) ?_
    rintro _ rfl
    simp only [go_sem, reduceAdd, reduceSub, reduceMul, reduceEqDiff, reduceLT, reduceLeDiff, Nat.reduceBEq, Nat.reduceBNe, Int.reduceLT, Int.reduceLE, Int.reduceEq, Int.reduceAdd, Int.reduceSub, Int.reduceNeg, reduceCtorEq, hlen, hget]
    by_cases hin : (i : Int) ∈ u
    · rw [if_pos hin, List.append_nil] at hfs
      have q3 : decide ((i : Int) ∈ u) = true := decide_eq_true hin
      simp only [go_sem, simprocAttr, q3, Bool.not_true]
      refine ⟨by omega, ?_⟩
      refine again_ok (i + 1) hlt (by omega) (by rw [hfs]; simp only [go_sem, simprocAttr]; simp)
    · rw [if_neg hin] at hfs
      have q3 : decide ((i : Int) ∈ u) = false := decide_eq_false hin
      have hfa := frees_at hlt hin
      have hfa2 := (List.getElem?_eq_some_iff.1 hfa).1
      have hfn : (frees u (i + 1)).length = (frees u i).length + 1 := by rw [hfs, List.length_append]; rfl
      have q4 : decide (((frees u i).length : Int) = ((frees u m).length : Int)) = false := decide_eq_false (by omega)
      have q5 : decide ((i : Int) = (i : Int)) = true := decide_eq_true rfl
      simp only [go_sem, simprocAttr, q3, Bool.not_false, q4]
      refine plain_ok (N := 3000) (elem_does (R := IntG) (l := frees u m) (m := (frees u i).length) rfl tySlice27 tySize3 rfl rfl (dk rfl) rfl hfa (fun G hG => IntsG.mono hfv (hG.le G3 (by simp)))) (QOk_body _ _ _) (by first | exact .inl rfl | exact .inr ⟨_, _, rfl, rfl⟩) ?_
      rintro _ ⟨g6, o6, cs, G7, hcl7, hcs, rfl⟩
      obtain rfl := hcs
      simp only [go_sem, simprocAttr, q5]
      refine ⟨by omega, ?_⟩
      refine ⟨by omega, ?_⟩
      refine again_ok (i + 1) hlt (by omega) (by rw [hfn]; simp only [go_sem, simprocAttr]; simp)
  have him : i = m := by omega
  subst him
  have q : decide ((i : Int) < (i : Int)) = false := decide_eq_false (by omega)
  have q2 : decide (((frees u i).length : Int) = ((frees u i).length : Int)) = true := decide_eq_true rfl
  simp only [go_sem, simprocAttr, q]
  refine plain_ok (N := 3000) (call_does (fun y G => ∃ fv, y = .tuple #[fv, .int .i64 2] ∧ IntsG G fv []) rfl rfl (by kernel_rfl) rfl (dk rfl) (fun G hG => by have h := free_does (many := 201) hG.wf (hP.mono (hG.le G1 (by simp))).g; rw [hF2] at h; exact h)) (QOk_body _ _ _) (by first | exact .inl rfl | exact .inr ⟨_, _, rfl, rfl⟩) ?_
  rintro _ ⟨_, G8, ⟨fw, rfl, hfw⟩, hn8, rfl⟩
  clear hn8
  obtain ⟨Ax, cx, rfl, _⟩ := Sq.form hfw
  simp only [go_sem, simprocAttr, q2]
  refine fin_ret (G := ⟨Non, w⟩) Try.results7 ?_
  simp only [go_sem, simprocAttr, q2]
  intro aa w' _ hle
  rfl
theorem freeApart_walk {w : World} (v0 : Value) (l0 : List Raw) (h0 : RawsG ⟨Non, w⟩ v0 l0) (n : Int) (hn : i64 n) : Calls Try.prog 7 #[v0, .int .i64 n] w fun e w' => e = .returned (.bool true) ∧ Below w.heap.size w w' := ret_walk (freeApart_ret v0 l0 h0 n hn)
end Go.Proofs.Ytefmffpidhdjoaa
