/- tier.ids and tier.Chill. Conditions: as each law states them; Conditions: none. -/
import Derived.Test.YtefmffpidhdjoaaGreatV7
namespace Go.Proofs.YtefmffpidhdjoaaGreat
open Go.RowKit
set_option linter.unusedSimpArgs false
def idsL (p : Ver → Bool) (l : List Ver) : List Int := (l.filter p).map (·.id)
theorem idsL_succ {p : Ver → Bool} {l : List Ver} {i : Nat} {x : Ver} (hx : l[i]? = some x) : idsL p (l.take (i + 1)) = idsL p (l.take i) ++ if p x = true then [x.id] else [] := by
  unfold idsL
  rw [take_succ_filter hx, List.map_append]
  cases p x <;> rfl
theorem idsL_len (p : Ver → Bool) (l : List Ver) : (idsL p l).length ≤ l.length := by
  unfold idsL
  rw [List.length_map]
  exact List.length_filter_le _ _
set_option maxRecDepth 100000 in
set_option maxHeartbeats 4000000 in
theorem ids_does {s : Sta} {sv : Value} {f : FuncId} {caps : Array Value} {p : Ver → Bool} {G0 : GW} (hW : G0.Wf) (hs : StaG G0 sv s) (hn : s.vers.length ≤ 40) (hf : isFn Tryz.prog f = true)
    (hc : ∀ G x vv, x ∈ s.vers → IntsG G vv x.secs → G0.Le G → G.Wf → Calls Tryz.prog f (#[.agg (verV x vv).toArray] ++ caps) G.w (Ret G fun v _ => v = .bool (p x))) :
    Calls Tryz.prog 27 #[sv, .func (.func f) #[] caps] G0.w (RetH G0 ⟨[], []⟩ fun v _ R _ => ∃ A c, v = .slice A (idsL p s.vers).length c ∧ R = [intRow (.slice A (idsL p s.vers).length c) (idsL p s.vers)]) := by
  obtain ⟨A1, c1, A2, c2, A3, c3, A4, c4, A5, c5, rfl, hP⟩ := hs.form
  have hml := max_le
  have hh : HandsOk G0.w ⟨[], []⟩ := ⟨fun b hb => (by cases hb), List.Pairwise.nil, fun r hr => (by cases hr), fun r hr => (by cases hr), List.Pairwise.nil⟩
  have hM : ∀ k, Hands.A ⟨[], []⟩ k → G0.M k := fun k hk => by rcases hk with ⟨b, hb, _⟩ | ⟨r, hr, _⟩ <;> contradiction
  refine enterH (n := 25) 3000 ([.c (.v (.agg #[.int .i64 s.next, .int .i64 s.clock, .slice A1 s.bkts.length c1, .slice A2 s.vers.length c2, .slice A3 s.upls.length c3, .slice A4 s.queue.length c4, .slice A5 s.gone.length c5])), .c (.v (.func (.func f) #[] caps))]) ([]) rfl hW hh hM Tryz.func27 rfl Tryz.ntmps27 (by simp) ?_
  simp only [go_sem, simprocAttr]
  intro g1
  refine row_ok 3 1 ?_
  refine loop_ok (N := 3000) (ι := Nat × Option Addr × Nat) (fun i => match i with | (i, A, c) => ⟨[(1, .c (.v (.func (.func f) #[] caps))), (5, .c (.v (.slice A (idsL p (s.vers.take i)).length c))), (9, .c (.v (.slice A2 s.vers.length c2))), (10, .c (.v (.int .i64 (s.vers.length : Int)))), (11, .c (.v (.int .i64 (i : Int))))],
      [], [intRow (.slice A (idsL p (s.vers.take i)).length c) (idsL p (s.vers.take i))], [], [G0], 1⟩)
    (fun i => match i with | (i, A, c) => i ≤ s.vers.length)
    (fun i => s.vers.length - i.1) (QOk_body _ _ _) (0, none, 0) (by show 0 ≤ s.vers.length; omega) (by simp only [go_sem, simprocAttr]; simp [intRow, idsL]) ?_
  rintro ⟨i, A, c⟩ hi
  simp only at hi ⊢
  have hfl := idsL_len p (s.vers.take i)
  rw [List.length_take] at hfl
  by_cases hlt : i < s.vers.length
  · have q : decide ((i : Int) < (s.vers.length : Int)) = true := decide_eq_true (by omega)
    obtain ⟨x, hx⟩ : ∃ x, s.vers[i]? = some x := ⟨_, List.getElem?_eq_getElem hlt⟩
    have hfs := idsL_succ (p := p) hx
    simp only [go_sem, simprocAttr, q]
    refine plain_ok (N := 3000) (elem_does (R := VerG) (l := s.vers) (m := i) rfl tySlice25 tySize38 rfl rfl (dk rfl) rfl hx (fun G hG => Sq.mono hP.vers verG_mono (hG.le G0 (by simp)))) (QOk_body _ _ _) (by first | exact .inl rfl | exact .inr ⟨_, _, rfl, rfl⟩) ?_
    rintro _ ⟨g4, o', cs, G2, hcl, ⟨svx, rfl, hsv, hk1, hk2⟩, rfl⟩
    obtain ⟨Aw, cw, rfl, _⟩ := Sq.form hsv
    simp only [go_sem, simprocAttr, verV]
    intro g5
    refine plain_ok (N := 3000) (callD_does (fun r _ => r = .bool (p x)) rfl rfl rfl rfl hf rfl (dk rfl) (fun G hG => hc G x _ (List.mem_of_getElem? hx) (hsv.mono (hG.le G2 (by simp))) (hG.le G0 (by simp)) hG.wf)) (QOk_body _ _ _) (by first | exact .inl rfl | exact .inr ⟨_, _, rfl, rfl⟩) ?_
    rintro _ ⟨_, G3, rfl, hn3, rfl⟩
    clear hn3
    simp only [go_sem, simprocAttr]
    refine Wb_mk (fun hp => ?_) (fun hp => ?_)
    · rw [hp, if_pos rfl] at hfs
      have hfn : (idsL p (s.vers.take (i + 1))).length = (idsL p (s.vers.take i)).length + 1 := by rw [hfs, List.length_append]; rfl
      intro g6
      refine plain_ok (N := 3000) (append_does (R1 := []) (R2 := []) (n := (idsL p (s.vers.take i)).length) (v := .slice A (idsL p (s.vers.take i)).length c) (xs := (idsL p (s.vers.take i)).flatMap intC) (news := [.int .i64 x.id]) rfl tySlice28 tyApp3 rfl rfl rfl rfl (dk rfl) (fun u hu => by rw [List.mem_singleton.1 hu]; rfl) (by unfold maxLen; omega) (by omega) (fun G hG => tsl_blk hG List.mem_cons_self rfl (by unfold maxLen; omega))) (QOk_body _ _ _) (by first | exact .inl rfl | exact .inr ⟨_, _, rfl, rfl⟩) ?_
      rintro _ ⟨A', c', rfl⟩
      simp only [go_sem, simprocAttr]
      refine ⟨by omega, ?_⟩
      refine again_ok (i + 1, A', c') (by show i + 1 ≤ s.vers.length; omega) (by show s.vers.length - (i + 1) < s.vers.length - i; omega) (by rw [hfn, hfs]; simp only [go_sem, simprocAttr]; simp [intRow, intC])
    · rw [show p x = false from hp, if_neg (by simp), List.append_nil] at hfs
      refine ⟨by omega, ?_⟩
      refine again_ok (i + 1, A, c) (by show i + 1 ≤ s.vers.length; omega) (by show s.vers.length - (i + 1) < s.vers.length - i; omega) (by rw [hfs]; simp only [go_sem, simprocAttr]; simp)
  · have him : i = s.vers.length := by omega
    subst him
    have q : decide ((s.vers.length : Int) < (s.vers.length : Int)) = false := decide_eq_false (by omega)
    rw [List.take_length]
    simp only [go_sem, simprocAttr, q]
    refine fin_retH (G := G0) Tryz.results27 ?_
    simp only [go_sem, simprocAttr]
    intro aa w' _ _
    exact ⟨A, c, rfl, rfl⟩
end Go.Proofs.YtefmffpidhdjoaaGreat
