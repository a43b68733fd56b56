/- Record. Conditions: as each law states them. -/
import Derived.Test.YtefmffpidhdjoaaE2
namespace Go.Proofs.Ytefmffpidhdjoaa
open Go.RowKit
set_option linter.unusedSimpArgs false
section
variable {P : Program} {E : Env} {σ : St} {o : Oper}
/-- an element of a literal's row of the call's own, in a region that draws -/
theorem take_lit {rec_ : Cmd → St → Prop} {dr : Dr} {q : Nat} {p : Plan} {t e kc : Nat} {x i : Operand} {g n c m id : Nat} {kk : IntKind} {j : Int} (ho : o.op = .indexAddr t x i) (ht : tSlice P t = some e) (hk : tSize P e = some kc)
    (hx : ev σ x = some (.c (.s id g 0 n c))) (hi : ev σ i = some (.c (.v (.int kk j)))) (hd : dOk E o.dst) (hj : j = (m : Int)) (hm : m < n)
    (h : rec_ (dr.next q p) (σ.put o.dst (.c (.p id g (m * kc))))) : TakeStop P E rec_ dr q p o σ := by
  refine ⟨.c (.p id g (m * kc)), hd, fun a w hr => ?_, h⟩
  have hx' : a.eval x = .slice (some ⟨g, 0, none⟩) n c := ev_den hr hx
  have hi' : a.eval i = .int kk j := ev_den hr hi
  obtain ⟨inf, hinf, hsz⟩ := tSize_spec hk
  show (execOp a.eval o).run P w = .ok (.value (.pointer (some ⟨g, m * kc, none⟩))) w
  unfold execOp
  subst hj
  have hc1 : 0 ≤ (m : Int) ∧ (m : Int) < (n : Int) := ⟨by omega, by omega⟩
  simp only [ho, hx', hi', Instr.indexAt, Sem.run_bind, asIntOf, Sem.run_pure, Result.andThen_ok, run_underlying (tSlice_spec ht), hc1, and_self, if_true, sizeOf, typeInfo, run_program, hinf, hsz, Int.toNat_natCast, Addr.add_mid, Nat.zero_add]
end
theorem nameS_size (n : Int) : (nameS n).size ≤ maxLen := by unfold nameS; split <;> (show 1 ≤ maxLen; unfold maxLen; omega)
theorem keyS_size (n : Int) : (keyS n).size ≤ maxLen := by
  have h : (keyS n).size ≤ 5 := by
    unfold keyS
    repeat' split
    all_goals decide
  unfold maxLen
  omega
theorem prefS_size (n : Int) : (prefS n).size ≤ maxLen := by
  have h : (prefS n).size ≤ 5 := by
    unfold prefS
    repeat' split
    all_goals decide
  unfold maxLen
  omega
theorem freeS_len (s : Sta) : (freeS s 200).1.length ≤ 200 := by
  unfold freeS
  split
  · split
    · exact Nat.zero_le _
    · exact frees_len _ _
  · exact Nat.zero_le _
theorem sectorsS_len (s : Sta) (n : Int) : (sectorsS s n).length ≤ 1000 := by
  have := freeS_len s
  unfold sectorsS
  rw [List.length_take]
  omega
theorem thawL_cons (s : Sta) (i : Int) (acc : List Int) (v : Ver) (r : List Ver) : thawL s i acc (v :: r) = thawL s i (if v.id = i then sectorsS s v.size else acc) r := rfl
theorem thawL_len (s : Sta) (i : Int) : ∀ (l : List Ver) (acc : List Int), acc.length ≤ 1000 → (thawL s i acc l).length ≤ 1000
  | [], acc, h => h
  | v :: r, acc, h => by
    unfold thawL
    refine thawL_len s i r _ ?_
    split
    · exact sectorsS_len _ _
    · exact h
theorem rec0_ok (k : Int) : RecOk (rec0 k) := ⟨Nat.zero_le _, Nat.zero_le _, Nat.zero_le _, Nat.zero_le _, Nat.zero_le _, Nat.zero_le _, Nat.zero_le _, Nat.zero_le _, by show i64 0; exact ⟨by decide, by decide⟩⟩
theorem newV_ok (s : Sta) (r : Raw) : (newV s r).bucket.size ≤ maxLen ∧ (newV s r).key.size ≤ maxLen ∧ (newV s r).secs.length ≤ 1000 := by
  unfold newV
  by_cases h : pick r.d 5 = 0
  · rw [if_pos h]
    exact ⟨nameS_size _, keyS_size _, Nat.zero_le _⟩
  · rw [if_neg h]
    exact ⟨nameS_size _, keyS_size _, sectorsS_len _ _⟩
theorem recS_ok {s : Sta} (h : OkS s) (r : Raw) : RecOk (recS s r) := by
  have z := rec0_ok (1 + pick r.kind 14)
  have n1 := nameS_size r.a
  have c1 := h.c1
  have c2 := h.c2
  show RecOk (recK s r (1 + pick r.kind 14))
  unfold recK
  generalize 1 + pick r.kind 14 = k at z ⊢
  by_cases q : k = 1
  · rw [if_pos q]
    exact ⟨n1, z.key, z.pre, z.vb, z.vk, z.vl, z.pl, z.sl, z.n⟩
  rw [if_neg q]
  clear q
  by_cases q : k = 2
  · rw [if_pos q]
    have := pick_bd r.b 2 (by omega)
    exact ⟨n1, z.key, z.pre, z.vb, z.vk, z.vl, z.pl, z.sl, by show i64 (1 + pick r.b 2); constructor <;> omega⟩
  rw [if_neg q]
  clear q
  by_cases q : k = 3
  · rw [if_pos q]
    exact ⟨n1, z.key, prefS_size _, z.vb, z.vk, z.vl, z.pl, z.sl, z.n⟩
  rw [if_neg q]
  clear q
  by_cases q : k = 4
  · rw [if_pos q]
    obtain ⟨a, b, c⟩ := newV_ok s r
    exact ⟨z.name, z.key, z.pre, a, b, c, z.pl, z.sl, z.n⟩
  rw [if_neg q]
  clear q
  by_cases q : k = 5 ∨ k = 9
  · rw [if_pos q]
    exact ⟨z.name, z.key, z.pre, z.vb, z.vk, z.vl, z.pl, z.sl, z.n⟩
  rw [if_neg q]
  clear q
  by_cases q : k = 6
  · rw [if_pos q]
    exact ⟨z.name, z.key, z.pre, z.vb, z.vk, z.vl, z.pl, z.sl, z.n⟩
  rw [if_neg q]
  clear q
  by_cases q : k = 7
  · rw [if_pos q]
    exact ⟨z.name, z.key, z.pre, z.vb, z.vk, z.vl, z.pl, z.sl, z.n⟩
  rw [if_neg q]
  clear q
  by_cases q : k = 8
  · rw [if_pos q]
    have := pick_bd r.b 9 (by omega)
    exact ⟨z.name, z.key, z.pre, z.vb, z.vk, z.vl, z.pl, thawL_len _ _ _ _ (Nat.zero_le _), by show i64 (s.clock + pick r.b 9); constructor <;> omega⟩
  rw [if_neg q]
  clear q
  by_cases q : k = 10
  · rw [if_pos q]
    exact ⟨n1, keyS_size _, z.pre, z.vb, z.vk, z.vl, z.pl, z.sl, z.n⟩
  rw [if_neg q]
  clear q
  by_cases q : k = 11
  · rw [if_pos q]
    exact ⟨z.name, z.key, z.pre, z.vb, z.vk, z.vl, sectorsS_len _ _, z.sl, z.n⟩
  rw [if_neg q]
  clear q
  by_cases q : k = 12
  · rw [if_pos q]
    exact ⟨z.name, z.key, z.pre, z.vb, z.vk, z.vl, z.pl, z.sl, z.n⟩
  rw [if_neg q]
  clear q
  by_cases q : k = 13
  · rw [if_pos q]
    have := pick_bd r.a 12 (by omega)
    exact ⟨z.name, z.key, z.pre, z.vb, z.vk, z.vl, z.pl, z.sl, by show i64 (pick r.a 12); constructor <;> omega⟩
  rw [if_neg q]
  clear q
  exact ⟨z.name, z.key, z.pre, z.vb, z.vk, z.vl, z.pl, z.sl, z.n⟩
def rawV (r : Raw) : Value := .agg #[.int .i64 r.kind, .int .i64 r.a, .int .i64 r.b, .int .i64 r.c, .int .i64 r.d, .string r.text]
structure RawOk (r : Raw) : Prop where
  kind : i64 r.kind
  a : i64 r.a
  b : i64 r.b
  c : i64 r.c
  d : i64 r.d
set_option maxRecDepth 100000 in
set_option maxHeartbeats 32000000 in
theorem record_does {s : Sta} {sv : Value} {r : Raw} {G0 : GW} (hW : G0.Wf) (hs : StaG G0 sv s) (hr : RawOk r) (hok : okSt s = true) :
    Calls Try.prog 23 #[sv, rawV r] G0.w (Ret G0 fun v G => RecG G v (recS s r)) := by
  have hS := okSt_iff.1 hok
  have hgd := okSt_good.1 hok
  have hRK := recS_ok hS r
  have b2 := hS.vers_len
  have d1 := hS.n1
  have d2 := hS.n2
  have d3 := hS.c1
  have d4 := hS.c2
  obtain ⟨A1, c1, A2, c2, A3, c3, A4, c4, A5, c5, rfl, hP⟩ := hs.form
  have hml := max_le
  have hb14 := pick_bd r.kind 14 (by omega)
  have hT0 : recS s r = recK s r (1 + pick r.kind 14) := rfl
  rw [hT0] at hRK ⊢
  clear hT0
  refine enterS (G := G0) (n := 218) 3000 hW Try.func23 rfl Try.ntmps23 (by simp) ?_
  unfold rawV
  simp only [go_sem, simprocAttr]
  intro g1 g2 g3
  refine plain_ok (N := 3000) (call_does (fun v _ => v = .int .i64 (pick r.kind 14)) rfl rfl (by kernel_rfl) rfl (dk rfl) (fun G hG => picked_does hG.wf hr.kind (by omega) (by omega))) (QOk_body _ _ _) (by first | exact .inl rfl | exact .inr ⟨_, _, rfl, rfl⟩) ?_
  rintro _ ⟨_, G1, rfl, hn1, rfl⟩
  clear hn1
  simp only [go_sem, simprocAttr]
  refine ⟨by omega, ?_⟩
  intro g4
  obtain ⟨k, hk⟩ : ∃ k, k = 1 + pick r.kind 14 := ⟨_, rfl⟩
  rw [← hk] at hRK ⊢
  have hk1 : 1 ≤ k := by omega
  have hk2 : k ≤ 14 := by omega
  clear hk
  refine Wb_mk (fun q1' => ?_) (fun q1' => ?_)
  · have q1 := of_decide_eq_true q1'
    refine plain_ok (N := 3000) (call_does (fun v _ => v = .string (nameS r.a)) rfl rfl (by kernel_rfl) rfl (dk rfl) (fun G hG => name_does hG.wf hr.a)) (QOk_body _ _ _) (by first | exact .inl rfl | exact .inr ⟨_, _, rfl, rfl⟩) ?_
    rintro _ ⟨_, H1, rfl, hn1, rfl⟩
    clear hn1
    simp only [go_sem, simprocAttr]
    refine fin_ret (G := G0) Try.results23 ?_
    simp only [go_sem, simprocAttr]
    intro aa w' _ hle
    have hT : recK s r k = { rec0 k with name := nameS r.a } := by unfold recK; rw [if_pos q1]
    rw [hT] at hRK ⊢
    exact ⟨_, _, _, rfl, Sq.nil, Sq.nil, Sq.nil, hRK⟩
  have q1 := of_decide_eq_false q1'
  refine Wb_mk (fun q2' => ?_) (fun q2' => ?_)
  · have q2 := of_decide_eq_true q2'
    refine plain_ok (N := 3000) (call_does (fun v _ => v = .string (nameS r.a)) rfl rfl (by kernel_rfl) rfl (dk rfl) (fun G hG => name_does hG.wf hr.a)) (QOk_body _ _ _) (by first | exact .inl rfl | exact .inr ⟨_, _, rfl, rfl⟩) ?_
    rintro _ ⟨_, H2, rfl, hn2, rfl⟩
    clear hn2
    simp only [go_sem, simprocAttr]
    refine plain_ok (N := 3000) (call_does (fun v _ => v = .int .i64 (pick r.b 2)) rfl rfl (by kernel_rfl) rfl (dk rfl) (fun G hG => picked_does hG.wf hr.b (by omega) (by omega))) (QOk_body _ _ _) (by first | exact .inl rfl | exact .inr ⟨_, _, rfl, rfl⟩) ?_
    rintro _ ⟨_, H3, rfl, hn3, rfl⟩
    clear hn3
    have hp3 := pick_bd r.b 2 (by omega)
    simp only [go_sem, simprocAttr]
    refine ⟨by omega, ?_⟩
    refine fin_ret (G := G0) Try.results23 ?_
    simp only [go_sem, simprocAttr]
    intro aa w' _ hle
    have hT : recK s r k = { rec0 k with name := nameS r.a, n := 1 + pick r.b 2 } := by unfold recK; rw [if_neg q1, if_pos q2]
    rw [hT] at hRK ⊢
    exact ⟨_, _, _, rfl, Sq.nil, Sq.nil, Sq.nil, hRK⟩
  have q2 := of_decide_eq_false q2'
  refine Wb_mk (fun q3' => ?_) (fun q3' => ?_)
  · have q3 := of_decide_eq_true q3'
    refine plain_ok (N := 3000) (call_does (fun v _ => v = .string (nameS r.a)) rfl rfl (by kernel_rfl) rfl (dk rfl) (fun G hG => name_does hG.wf hr.a)) (QOk_body _ _ _) (by first | exact .inl rfl | exact .inr ⟨_, _, rfl, rfl⟩) ?_
    rintro _ ⟨_, H4, rfl, hn4, rfl⟩
    clear hn4
    simp only [go_sem, simprocAttr]
    obtain ⟨m, hm, hmlt⟩ := pickN r.b 3 (by omega)
    have hmlt' : m < 3 := by omega
    obtain rfl | rfl | rfl : m = 0 ∨ m = 1 ∨ m = 2 := by omega
    · skip
      have hpf : prefS r.b = ⟨#[]⟩ := by unfold prefS; rw [hm]; rfl
      refine draw_ok (N := 3000) (.take 1 (.take 2 (.take 6 (.take 7 (.take 10 (.take 11 (.alt 0 (.alt 3 (.take 4 (.alt 5 (.alt 8 (.take 9 (.alt 12 (.take 13 (.take 14 (.take 15 (.alt 16 .done .last)))) .last)) .last) (.alt 8 (.take 9 (.alt 5 (.alt 12 (.take 13 (.take 14 (.take 15 (.alt 16 .done .last)))) .last) (.alt 12 (.take 13 (.alt 5 (.take 14 (.take 15 (.alt 16 .done .last))) .last)) .last))) .last))) .last) (.alt 3 (.alt 0 (.take 4 (.alt 5 (.alt 8 (.take 9 (.alt 12 (.take 13 (.take 14 (.take 15 (.alt 16 .done .last)))) .last)) .last) (.alt 8 (.take 9 (.alt 5 (.alt 12 (.take 13 (.take 14 (.take 15 (.alt 16 .done .last)))) .last) (.alt 12 (.take 13 (.alt 5 (.take 14 (.take 15 (.alt 16 .done .last))) .last)) .last))) .last))) (.alt 8 (.take 9 (.alt 0 (.take 4 (.alt 5 (.alt 12 (.take 13 (.take 14 (.take 15 (.alt 16 .done .last)))) .last) (.alt 12 (.take 13 (.alt 5 (.take 14 (.take 15 (.alt 16 .done .last))) .last)) .last))) (.alt 12 (.take 13 (.alt 0 (.take 4 (.alt 5 (.take 14 (.take 15 (.alt 16 .done .last))) .last)) .last)) .last))) .last)) .last)))))))) [3] (QOk_body _ _ _) follows_mixed (by kernel_rfl) (by kernel_rfl) ?_
      simp only [go_sem, simprocAttr]
      refine ⟨fun g5 => ?_, ?_⟩
      · refine anyc_ok (N := 3000) (call_does (fun v _ => v = .int .i64 ((0 : Nat) : Int)) rfl rfl (by kernel_rfl) rfl (dk rfl) (fun G hG => by rw [← hm]; exact picked_does hG.wf hr.b (by omega) (by omega))) (QOk_body _ _ _) rfl (by first | exact .inl rfl | exact .inr ⟨_, _, rfl, rfl⟩) ?_
        rintro _ ⟨_, H90, rfl, hn90, rfl⟩
        clear hn90
        simp only [go_sem, simprocAttr]
        refine take_lit (m := 0) rfl tySlice119 tySize9 rfl rfl (dk rfl) rfl hmlt' ?_
        simp only [go_sem, simprocAttr, Nat.mul_one, Nat.zero_mul, Nat.one_mul]
        refine ⟨?_, ?_⟩
        · refine anyc_ok (N := 3000) (call_does (fun v _ => v = .int .i64 (pick r.c 12)) rfl rfl (by kernel_rfl) rfl (dk rfl) (fun G hG => picked_does hG.wf hr.c (by omega) (by omega))) (QOk_body _ _ _) rfl (by first | exact .inl rfl | exact .inr ⟨_, _, rfl, rfl⟩) ?_
          rintro _ ⟨_, H91, rfl, hn91, rfl⟩
          clear hn91
          have hp91 := pick_bd r.c 12 (by omega)
          simp only [go_sem, simprocAttr]
          refine ⟨by omega, ?_⟩
          refine anyc_ok (N := 3000) (call_does (fun v _ => v = .int .i64 (pick r.d 30)) rfl rfl (by kernel_rfl) rfl (dk rfl) (fun G hG => picked_does hG.wf hr.d (by omega) (by omega))) (QOk_body _ _ _) rfl (by first | exact .inl rfl | exact .inr ⟨_, _, rfl, rfl⟩) ?_
          rintro _ ⟨_, H92, rfl, hn92, rfl⟩
          clear hn92
          have hp92 := pick_bd r.d 30 (by omega)
          simp only [go_sem, simprocAttr]
          refine ⟨by omega, ?_⟩
          refine fin_ret (G := G0) Try.results23 ?_
          simp only [go_sem, simprocAttr]
          intro aa w' _ hle
          have hT : recK s r k = { rec0 k with name := nameS r.a, rule := ⟨prefS r.b, pick r.c 12 - 1, pick r.d 30 - 1⟩ } := by unfold recK; rw [if_neg q1, if_neg q2, if_pos q3]
          rw [hT, hpf] at hRK ⊢
          exact ⟨_, _, _, rfl, Sq.nil, Sq.nil, Sq.nil, hRK⟩
        · refine anyc_ok (N := 3000) (call_does (fun v _ => v = .int .i64 (pick r.c 12)) rfl rfl (by kernel_rfl) rfl (dk rfl) (fun G hG => picked_does hG.wf hr.c (by omega) (by omega))) (QOk_body _ _ _) rfl (by first | exact .inl rfl | exact .inr ⟨_, _, rfl, rfl⟩) ?_
          rintro _ ⟨_, H91, rfl, hn91, rfl⟩
          clear hn91
          have hp91 := pick_bd r.c 12 (by omega)
          simp only [go_sem, simprocAttr]
          refine ⟨by omega, ?_⟩
          refine ⟨?_, ?_⟩
          · refine anyc_ok (N := 3000) (call_does (fun v _ => v = .int .i64 (pick r.d 30)) rfl rfl (by kernel_rfl) rfl (dk rfl) (fun G hG => picked_does hG.wf hr.d (by omega) (by omega))) (QOk_body _ _ _) rfl (by first | exact .inl rfl | exact .inr ⟨_, _, rfl, rfl⟩) ?_
            rintro _ ⟨_, H92, rfl, hn92, rfl⟩
            clear hn92
            have hp92 := pick_bd r.d 30 (by omega)
            simp only [go_sem, simprocAttr]
            refine ⟨by omega, ?_⟩
            refine fin_ret (G := G0) Try.results23 ?_
            simp only [go_sem, simprocAttr]
            intro aa w' _ hle
            have hT : recK s r k = { rec0 k with name := nameS r.a, rule := ⟨prefS r.b, pick r.c 12 - 1, pick r.d 30 - 1⟩ } := by unfold recK; rw [if_neg q1, if_neg q2, if_pos q3]
            rw [hT, hpf] at hRK ⊢
            exact ⟨_, _, _, rfl, Sq.nil, Sq.nil, Sq.nil, hRK⟩
          · refine anyc_ok (N := 3000) (call_does (fun v _ => v = .int .i64 (pick r.d 30)) rfl rfl (by kernel_rfl) rfl (dk rfl) (fun G hG => picked_does hG.wf hr.d (by omega) (by omega))) (QOk_body _ _ _) rfl (by first | exact .inl rfl | exact .inr ⟨_, _, rfl, rfl⟩) ?_
            rintro _ ⟨_, H92, rfl, hn92, rfl⟩
            clear hn92
            have hp92 := pick_bd r.d 30 (by omega)
            simp only [go_sem, simprocAttr]
            refine ⟨by omega, ?_⟩
            refine fin_ret (G := G0) Try.results23 ?_
            simp only [go_sem, simprocAttr]
            intro aa w' _ hle
            have hT : recK s r k = { rec0 k with name := nameS r.a, rule := ⟨prefS r.b, pick r.c 12 - 1, pick r.d 30 - 1⟩ } := by unfold recK; rw [if_neg q1, if_neg q2, if_pos q3]
            rw [hT, hpf] at hRK ⊢
            exact ⟨_, _, _, rfl, Sq.nil, Sq.nil, Sq.nil, hRK⟩
      · refine anyc_ok (N := 3000) (call_does (fun v _ => v = .int .i64 ((0 : Nat) : Int)) rfl rfl (by kernel_rfl) rfl (dk rfl) (fun G hG => by rw [← hm]; exact picked_does hG.wf hr.b (by omega) (by omega))) (QOk_body _ _ _) rfl (by first | exact .inl rfl | exact .inr ⟨_, _, rfl, rfl⟩) ?_
        rintro _ ⟨_, H90, rfl, hn90, rfl⟩
        clear hn90
        simp only [go_sem, simprocAttr]
        refine ⟨fun g5 => ?_, ?_⟩
        · refine take_lit (m := 0) rfl tySlice119 tySize9 rfl rfl (dk rfl) rfl hmlt' ?_
          simp only [go_sem, simprocAttr, Nat.mul_one, Nat.zero_mul, Nat.one_mul]
          refine ⟨?_, ?_⟩
          · refine anyc_ok (N := 3000) (call_does (fun v _ => v = .int .i64 (pick r.c 12)) rfl rfl (by kernel_rfl) rfl (dk rfl) (fun G hG => picked_does hG.wf hr.c (by omega) (by omega))) (QOk_body _ _ _) rfl (by first | exact .inl rfl | exact .inr ⟨_, _, rfl, rfl⟩) ?_
            rintro _ ⟨_, H91, rfl, hn91, rfl⟩
            clear hn91
            have hp91 := pick_bd r.c 12 (by omega)
            simp only [go_sem, simprocAttr]
            refine ⟨by omega, ?_⟩
            refine anyc_ok (N := 3000) (call_does (fun v _ => v = .int .i64 (pick r.d 30)) rfl rfl (by kernel_rfl) rfl (dk rfl) (fun G hG => picked_does hG.wf hr.d (by omega) (by omega))) (QOk_body _ _ _) rfl (by first | exact .inl rfl | exact .inr ⟨_, _, rfl, rfl⟩) ?_
            rintro _ ⟨_, H92, rfl, hn92, rfl⟩
            clear hn92
            have hp92 := pick_bd r.d 30 (by omega)
            simp only [go_sem, simprocAttr]
            refine ⟨by omega, ?_⟩
            refine fin_ret (G := G0) Try.results23 ?_
            simp only [go_sem, simprocAttr]
            intro aa w' _ hle
            have hT : recK s r k = { rec0 k with name := nameS r.a, rule := ⟨prefS r.b, pick r.c 12 - 1, pick r.d 30 - 1⟩ } := by unfold recK; rw [if_neg q1, if_neg q2, if_pos q3]
            rw [hT, hpf] at hRK ⊢
            exact ⟨_, _, _, rfl, Sq.nil, Sq.nil, Sq.nil, hRK⟩
          · refine anyc_ok (N := 3000) (call_does (fun v _ => v = .int .i64 (pick r.c 12)) rfl rfl (by kernel_rfl) rfl (dk rfl) (fun G hG => picked_does hG.wf hr.c (by omega) (by omega))) (QOk_body _ _ _) rfl (by first | exact .inl rfl | exact .inr ⟨_, _, rfl, rfl⟩) ?_
            rintro _ ⟨_, H91, rfl, hn91, rfl⟩
            clear hn91
            have hp91 := pick_bd r.c 12 (by omega)
            simp only [go_sem, simprocAttr]
            refine ⟨by omega, ?_⟩
            refine ⟨?_, ?_⟩
            · refine anyc_ok (N := 3000) (call_does (fun v _ => v = .int .i64 (pick r.d 30)) rfl rfl (by kernel_rfl) rfl (dk rfl) (fun G hG => picked_does hG.wf hr.d (by omega) (by omega))) (QOk_body _ _ _) rfl (by first | exact .inl rfl | exact .inr ⟨_, _, rfl, rfl⟩) ?_
              rintro _ ⟨_, H92, rfl, hn92, rfl⟩
              clear hn92
              have hp92 := pick_bd r.d 30 (by omega)
              simp only [go_sem, simprocAttr]
              refine ⟨by omega, ?_⟩
              refine fin_ret (G := G0) Try.results23 ?_
              simp only [go_sem, simprocAttr]
              intro aa w' _ hle
              have hT : recK s r k = { rec0 k with name := nameS r.a, rule := ⟨prefS r.b, pick r.c 12 - 1, pick r.d 30 - 1⟩ } := by unfold recK; rw [if_neg q1, if_neg q2, if_pos q3]
              rw [hT, hpf] at hRK ⊢
              exact ⟨_, _, _, rfl, Sq.nil, Sq.nil, Sq.nil, hRK⟩
            · refine anyc_ok (N := 3000) (call_does (fun v _ => v = .int .i64 (pick r.d 30)) rfl rfl (by kernel_rfl) rfl (dk rfl) (fun G hG => picked_does hG.wf hr.d (by omega) (by omega))) (QOk_body _ _ _) rfl (by first | exact .inl rfl | exact .inr ⟨_, _, rfl, rfl⟩) ?_
              rintro _ ⟨_, H92, rfl, hn92, rfl⟩
              clear hn92
              have hp92 := pick_bd r.d 30 (by omega)
              simp only [go_sem, simprocAttr]
              refine ⟨by omega, ?_⟩
              refine fin_ret (G := G0) Try.results23 ?_
              simp only [go_sem, simprocAttr]
              intro aa w' _ hle
              have hT : recK s r k = { rec0 k with name := nameS r.a, rule := ⟨prefS r.b, pick r.c 12 - 1, pick r.d 30 - 1⟩ } := by unfold recK; rw [if_neg q1, if_neg q2, if_pos q3]
              rw [hT, hpf] at hRK ⊢
              exact ⟨_, _, _, rfl, Sq.nil, Sq.nil, Sq.nil, hRK⟩
        · refine anyc_ok (N := 3000) (call_does (fun v _ => v = .int .i64 (pick r.c 12)) rfl rfl (by kernel_rfl) rfl (dk rfl) (fun G hG => picked_does hG.wf hr.c (by omega) (by omega))) (QOk_body _ _ _) rfl (by first | exact .inl rfl | exact .inr ⟨_, _, rfl, rfl⟩) ?_
          rintro _ ⟨_, H91, rfl, hn91, rfl⟩
          clear hn91
          have hp91 := pick_bd r.c 12 (by omega)
          simp only [go_sem, simprocAttr]
          refine ⟨by omega, ?_⟩
          refine ⟨fun g5 => ?_, ?_⟩
          · refine take_lit (m := 0) rfl tySlice119 tySize9 rfl rfl (dk rfl) rfl hmlt' ?_
            simp only [go_sem, simprocAttr, Nat.mul_one, Nat.zero_mul, Nat.one_mul]
            refine ⟨?_, ?_⟩
            · refine anyc_ok (N := 3000) (call_does (fun v _ => v = .int .i64 (pick r.d 30)) rfl rfl (by kernel_rfl) rfl (dk rfl) (fun G hG => picked_does hG.wf hr.d (by omega) (by omega))) (QOk_body _ _ _) rfl (by first | exact .inl rfl | exact .inr ⟨_, _, rfl, rfl⟩) ?_
              rintro _ ⟨_, H92, rfl, hn92, rfl⟩
              clear hn92
              have hp92 := pick_bd r.d 30 (by omega)
              simp only [go_sem, simprocAttr]
              refine ⟨by omega, ?_⟩
              refine fin_ret (G := G0) Try.results23 ?_
              simp only [go_sem, simprocAttr]
              intro aa w' _ hle
              have hT : recK s r k = { rec0 k with name := nameS r.a, rule := ⟨prefS r.b, pick r.c 12 - 1, pick r.d 30 - 1⟩ } := by unfold recK; rw [if_neg q1, if_neg q2, if_pos q3]
              rw [hT, hpf] at hRK ⊢
              exact ⟨_, _, _, rfl, Sq.nil, Sq.nil, Sq.nil, hRK⟩
            · refine anyc_ok (N := 3000) (call_does (fun v _ => v = .int .i64 (pick r.d 30)) rfl rfl (by kernel_rfl) rfl (dk rfl) (fun G hG => picked_does hG.wf hr.d (by omega) (by omega))) (QOk_body _ _ _) rfl (by first | exact .inl rfl | exact .inr ⟨_, _, rfl, rfl⟩) ?_
              rintro _ ⟨_, H92, rfl, hn92, rfl⟩
              clear hn92
              have hp92 := pick_bd r.d 30 (by omega)
              simp only [go_sem, simprocAttr]
              refine ⟨by omega, ?_⟩
              refine fin_ret (G := G0) Try.results23 ?_
              simp only [go_sem, simprocAttr]
              intro aa w' _ hle
              have hT : recK s r k = { rec0 k with name := nameS r.a, rule := ⟨prefS r.b, pick r.c 12 - 1, pick r.d 30 - 1⟩ } := by unfold recK; rw [if_neg q1, if_neg q2, if_pos q3]
              rw [hT, hpf] at hRK ⊢
              exact ⟨_, _, _, rfl, Sq.nil, Sq.nil, Sq.nil, hRK⟩
          · refine anyc_ok (N := 3000) (call_does (fun v _ => v = .int .i64 (pick r.d 30)) rfl rfl (by kernel_rfl) rfl (dk rfl) (fun G hG => picked_does hG.wf hr.d (by omega) (by omega))) (QOk_body _ _ _) rfl (by first | exact .inl rfl | exact .inr ⟨_, _, rfl, rfl⟩) ?_
            rintro _ ⟨_, H92, rfl, hn92, rfl⟩
            clear hn92
            have hp92 := pick_bd r.d 30 (by omega)
            simp only [go_sem, simprocAttr]
            refine ⟨by omega, ?_⟩
            intro g5
            refine take_lit (m := 0) rfl tySlice119 tySize9 rfl rfl (dk rfl) rfl hmlt' ?_
            simp only [go_sem, simprocAttr, Nat.mul_one, Nat.zero_mul, Nat.one_mul]
            refine fin_ret (G := G0) Try.results23 ?_
            simp only [go_sem, simprocAttr]
            intro aa w' _ hle
            have hT : recK s r k = { rec0 k with name := nameS r.a, rule := ⟨prefS r.b, pick r.c 12 - 1, pick r.d 30 - 1⟩ } := by unfold recK; rw [if_neg q1, if_neg q2, if_pos q3]
            rw [hT, hpf] at hRK ⊢
            exact ⟨_, _, _, rfl, Sq.nil, Sq.nil, Sq.nil, hRK⟩
    · skip
      have hpf : prefS r.b = ⟨#[121]⟩ := by unfold prefS; rw [hm]; rfl
      refine draw_ok (N := 3000) (.take 1 (.take 2 (.take 6 (.take 7 (.take 10 (.take 11 (.alt 0 (.alt 3 (.take 4 (.alt 5 (.alt 8 (.take 9 (.alt 12 (.take 13 (.take 14 (.take 15 (.alt 16 .done .last)))) .last)) .last) (.alt 8 (.take 9 (.alt 5 (.alt 12 (.take 13 (.take 14 (.take 15 (.alt 16 .done .last)))) .last) (.alt 12 (.take 13 (.alt 5 (.take 14 (.take 15 (.alt 16 .done .last))) .last)) .last))) .last))) .last) (.alt 3 (.alt 0 (.take 4 (.alt 5 (.alt 8 (.take 9 (.alt 12 (.take 13 (.take 14 (.take 15 (.alt 16 .done .last)))) .last)) .last) (.alt 8 (.take 9 (.alt 5 (.alt 12 (.take 13 (.take 14 (.take 15 (.alt 16 .done .last)))) .last) (.alt 12 (.take 13 (.alt 5 (.take 14 (.take 15 (.alt 16 .done .last))) .last)) .last))) .last))) (.alt 8 (.take 9 (.alt 0 (.take 4 (.alt 5 (.alt 12 (.take 13 (.take 14 (.take 15 (.alt 16 .done .last)))) .last) (.alt 12 (.take 13 (.alt 5 (.take 14 (.take 15 (.alt 16 .done .last))) .last)) .last))) (.alt 12 (.take 13 (.alt 0 (.take 4 (.alt 5 (.take 14 (.take 15 (.alt 16 .done .last))) .last)) .last)) .last))) .last)) .last)))))))) [3] (QOk_body _ _ _) follows_mixed (by kernel_rfl) (by kernel_rfl) ?_
      simp only [go_sem, simprocAttr]
      refine ⟨fun g5 => ?_, ?_⟩
      · refine anyc_ok (N := 3000) (call_does (fun v _ => v = .int .i64 ((1 : Nat) : Int)) rfl rfl (by kernel_rfl) rfl (dk rfl) (fun G hG => by rw [← hm]; exact picked_does hG.wf hr.b (by omega) (by omega))) (QOk_body _ _ _) rfl (by first | exact .inl rfl | exact .inr ⟨_, _, rfl, rfl⟩) ?_
        rintro _ ⟨_, H90, rfl, hn90, rfl⟩
        clear hn90
        simp only [go_sem, simprocAttr]
        refine take_lit (m := 1) rfl tySlice119 tySize9 rfl rfl (dk rfl) rfl hmlt' ?_
        simp only [go_sem, simprocAttr, Nat.mul_one, Nat.zero_mul, Nat.one_mul]
        refine ⟨?_, ?_⟩
        · refine anyc_ok (N := 3000) (call_does (fun v _ => v = .int .i64 (pick r.c 12)) rfl rfl (by kernel_rfl) rfl (dk rfl) (fun G hG => picked_does hG.wf hr.c (by omega) (by omega))) (QOk_body _ _ _) rfl (by first | exact .inl rfl | exact .inr ⟨_, _, rfl, rfl⟩) ?_
          rintro _ ⟨_, H91, rfl, hn91, rfl⟩
          clear hn91
          have hp91 := pick_bd r.c 12 (by omega)
          simp only [go_sem, simprocAttr]
          refine ⟨by omega, ?_⟩
          refine anyc_ok (N := 3000) (call_does (fun v _ => v = .int .i64 (pick r.d 30)) rfl rfl (by kernel_rfl) rfl (dk rfl) (fun G hG => picked_does hG.wf hr.d (by omega) (by omega))) (QOk_body _ _ _) rfl (by first | exact .inl rfl | exact .inr ⟨_, _, rfl, rfl⟩) ?_
          rintro _ ⟨_, H92, rfl, hn92, rfl⟩
          clear hn92
          have hp92 := pick_bd r.d 30 (by omega)
          simp only [go_sem, simprocAttr]
          refine ⟨by omega, ?_⟩
          refine fin_ret (G := G0) Try.results23 ?_
          simp only [go_sem, simprocAttr]
          intro aa w' _ hle
          have hT : recK s r k = { rec0 k with name := nameS r.a, rule := ⟨prefS r.b, pick r.c 12 - 1, pick r.d 30 - 1⟩ } := by unfold recK; rw [if_neg q1, if_neg q2, if_pos q3]
          rw [hT, hpf] at hRK ⊢
          exact ⟨_, _, _, rfl, Sq.nil, Sq.nil, Sq.nil, hRK⟩
        · refine anyc_ok (N := 3000) (call_does (fun v _ => v = .int .i64 (pick r.c 12)) rfl rfl (by kernel_rfl) rfl (dk rfl) (fun G hG => picked_does hG.wf hr.c (by omega) (by omega))) (QOk_body _ _ _) rfl (by first | exact .inl rfl | exact .inr ⟨_, _, rfl, rfl⟩) ?_
          rintro _ ⟨_, H91, rfl, hn91, rfl⟩
          clear hn91
          have hp91 := pick_bd r.c 12 (by omega)
          simp only [go_sem, simprocAttr]
          refine ⟨by omega, ?_⟩
          refine ⟨?_, ?_⟩
          · refine anyc_ok (N := 3000) (call_does (fun v _ => v = .int .i64 (pick r.d 30)) rfl rfl (by kernel_rfl) rfl (dk rfl) (fun G hG => picked_does hG.wf hr.d (by omega) (by omega))) (QOk_body _ _ _) rfl (by first | exact .inl rfl | exact .inr ⟨_, _, rfl, rfl⟩) ?_
            rintro _ ⟨_, H92, rfl, hn92, rfl⟩
            clear hn92
            have hp92 := pick_bd r.d 30 (by omega)
            simp only [go_sem, simprocAttr]
            refine ⟨by omega, ?_⟩
            refine fin_ret (G := G0) Try.results23 ?_
            simp only [go_sem, simprocAttr]
            intro aa w' _ hle
            have hT : recK s r k = { rec0 k with name := nameS r.a, rule := ⟨prefS r.b, pick r.c 12 - 1, pick r.d 30 - 1⟩ } := by unfold recK; rw [if_neg q1, if_neg q2, if_pos q3]
            rw [hT, hpf] at hRK ⊢
            exact ⟨_, _, _, rfl, Sq.nil, Sq.nil, Sq.nil, hRK⟩
          · refine anyc_ok (N := 3000) (call_does (fun v _ => v = .int .i64 (pick r.d 30)) rfl rfl (by kernel_rfl) rfl (dk rfl) (fun G hG => picked_does hG.wf hr.d (by omega) (by omega))) (QOk_body _ _ _) rfl (by first | exact .inl rfl | exact .inr ⟨_, _, rfl, rfl⟩) ?_
            rintro _ ⟨_, H92, rfl, hn92, rfl⟩
            clear hn92
            have hp92 := pick_bd r.d 30 (by omega)
            simp only [go_sem, simprocAttr]
            refine ⟨by omega, ?_⟩
            refine fin_ret (G := G0) Try.results23 ?_
            simp only [go_sem, simprocAttr]
            intro aa w' _ hle
            have hT : recK s r k = { rec0 k with name := nameS r.a, rule := ⟨prefS r.b, pick r.c 12 - 1, pick r.d 30 - 1⟩ } := by unfold recK; rw [if_neg q1, if_neg q2, if_pos q3]
            rw [hT, hpf] at hRK ⊢
            exact ⟨_, _, _, rfl, Sq.nil, Sq.nil, Sq.nil, hRK⟩
      · refine anyc_ok (N := 3000) (call_does (fun v _ => v = .int .i64 ((1 : Nat) : Int)) rfl rfl (by kernel_rfl) rfl (dk rfl) (fun G hG => by rw [← hm]; exact picked_does hG.wf hr.b (by omega) (by omega))) (QOk_body _ _ _) rfl (by first | exact .inl rfl | exact .inr ⟨_, _, rfl, rfl⟩) ?_
        rintro _ ⟨_, H90, rfl, hn90, rfl⟩
        clear hn90
        simp only [go_sem, simprocAttr]
        refine ⟨fun g5 => ?_, ?_⟩
        · refine take_lit (m := 1) rfl tySlice119 tySize9 rfl rfl (dk rfl) rfl hmlt' ?_
          simp only [go_sem, simprocAttr, Nat.mul_one, Nat.zero_mul, Nat.one_mul]
          refine ⟨?_, ?_⟩
          · refine anyc_ok (N := 3000) (call_does (fun v _ => v = .int .i64 (pick r.c 12)) rfl rfl (by kernel_rfl) rfl (dk rfl) (fun G hG => picked_does hG.wf hr.c (by omega) (by omega))) (QOk_body _ _ _) rfl (by first | exact .inl rfl | exact .inr ⟨_, _, rfl, rfl⟩) ?_
            rintro _ ⟨_, H91, rfl, hn91, rfl⟩
            clear hn91
            have hp91 := pick_bd r.c 12 (by omega)
            simp only [go_sem, simprocAttr]
            refine ⟨by omega, ?_⟩
            refine anyc_ok (N := 3000) (call_does (fun v _ => v = .int .i64 (pick r.d 30)) rfl rfl (by kernel_rfl) rfl (dk rfl) (fun G hG => picked_does hG.wf hr.d (by omega) (by omega))) (QOk_body _ _ _) rfl (by first | exact .inl rfl | exact .inr ⟨_, _, rfl, rfl⟩) ?_
            rintro _ ⟨_, H92, rfl, hn92, rfl⟩
            clear hn92
            have hp92 := pick_bd r.d 30 (by omega)
            simp only [go_sem, simprocAttr]
            refine ⟨by omega, ?_⟩
            refine fin_ret (G := G0) Try.results23 ?_
            simp only [go_sem, simprocAttr]
            intro aa w' _ hle
            have hT : recK s r k = { rec0 k with name := nameS r.a, rule := ⟨prefS r.b, pick r.c 12 - 1, pick r.d 30 - 1⟩ } := by unfold recK; rw [if_neg q1, if_neg q2, if_pos q3]
            rw [hT, hpf] at hRK ⊢
            exact ⟨_, _, _, rfl, Sq.nil, Sq.nil, Sq.nil, hRK⟩
          · refine anyc_ok (N := 3000) (call_does (fun v _ => v = .int .i64 (pick r.c 12)) rfl rfl (by kernel_rfl) rfl (dk rfl) (fun G hG => picked_does hG.wf hr.c (by omega) (by omega))) (QOk_body _ _ _) rfl (by first | exact .inl rfl | exact .inr ⟨_, _, rfl, rfl⟩) ?_
            rintro _ ⟨_, H91, rfl, hn91, rfl⟩
            clear hn91
            have hp91 := pick_bd r.c 12 (by omega)
            simp only [go_sem, simprocAttr]
            refine ⟨by omega, ?_⟩
            refine ⟨?_, ?_⟩
            · refine anyc_ok (N := 3000) (call_does (fun v _ => v = .int .i64 (pick r.d 30)) rfl rfl (by kernel_rfl) rfl (dk rfl) (fun G hG => picked_does hG.wf hr.d (by omega) (by omega))) (QOk_body _ _ _) rfl (by first | exact .inl rfl | exact .inr ⟨_, _, rfl, rfl⟩) ?_
              rintro _ ⟨_, H92, rfl, hn92, rfl⟩
              clear hn92
              have hp92 := pick_bd r.d 30 (by omega)
              simp only [go_sem, simprocAttr]
              refine ⟨by omega, ?_⟩
              refine fin_ret (G := G0) Try.results23 ?_
              simp only [go_sem, simprocAttr]
              intro aa w' _ hle
              have hT : recK s r k = { rec0 k with name := nameS r.a, rule := ⟨prefS r.b, pick r.c 12 - 1, pick r.d 30 - 1⟩ } := by unfold recK; rw [if_neg q1, if_neg q2, if_pos q3]
              rw [hT, hpf] at hRK ⊢
              exact ⟨_, _, _, rfl, Sq.nil, Sq.nil, Sq.nil, hRK⟩
            · refine anyc_ok (N := 3000) (call_does (fun v _ => v = .int .i64 (pick r.d 30)) rfl rfl (by kernel_rfl) rfl (dk rfl) (fun G hG => picked_does hG.wf hr.d (by omega) (by omega))) (QOk_body _ _ _) rfl (by first | exact .inl rfl | exact .inr ⟨_, _, rfl, rfl⟩) ?_
              rintro _ ⟨_, H92, rfl, hn92, rfl⟩
              clear hn92
              have hp92 := pick_bd r.d 30 (by omega)
              simp only [go_sem, simprocAttr]
              refine ⟨by omega, ?_⟩
              refine fin_ret (G := G0) Try.results23 ?_
              simp only [go_sem, simprocAttr]
              intro aa w' _ hle
              have hT : recK s r k = { rec0 k with name := nameS r.a, rule := ⟨prefS r.b, pick r.c 12 - 1, pick r.d 30 - 1⟩ } := by unfold recK; rw [if_neg q1, if_neg q2, if_pos q3]
              rw [hT, hpf] at hRK ⊢
              exact ⟨_, _, _, rfl, Sq.nil, Sq.nil, Sq.nil, hRK⟩
        · refine anyc_ok (N := 3000) (call_does (fun v _ => v = .int .i64 (pick r.c 12)) rfl rfl (by kernel_rfl) rfl (dk rfl) (fun G hG => picked_does hG.wf hr.c (by omega) (by omega))) (QOk_body _ _ _) rfl (by first | exact .inl rfl | exact .inr ⟨_, _, rfl, rfl⟩) ?_
          rintro _ ⟨_, H91, rfl, hn91, rfl⟩
          clear hn91
          have hp91 := pick_bd r.c 12 (by omega)
          simp only [go_sem, simprocAttr]
          refine ⟨by omega, ?_⟩
          refine ⟨fun g5 => ?_, ?_⟩
          · refine take_lit (m := 1) rfl tySlice119 tySize9 rfl rfl (dk rfl) rfl hmlt' ?_
            simp only [go_sem, simprocAttr, Nat.mul_one, Nat.zero_mul, Nat.one_mul]
            refine ⟨?_, ?_⟩
            · refine anyc_ok (N := 3000) (call_does (fun v _ => v = .int .i64 (pick r.d 30)) rfl rfl (by kernel_rfl) rfl (dk rfl) (fun G hG => picked_does hG.wf hr.d (by omega) (by omega))) (QOk_body _ _ _) rfl (by first | exact .inl rfl | exact .inr ⟨_, _, rfl, rfl⟩) ?_
              rintro _ ⟨_, H92, rfl, hn92, rfl⟩
              clear hn92
              have hp92 := pick_bd r.d 30 (by omega)
              simp only [go_sem, simprocAttr]
              refine ⟨by omega, ?_⟩
              refine fin_ret (G := G0) Try.results23 ?_
              simp only [go_sem, simprocAttr]
              intro aa w' _ hle
              have hT : recK s r k = { rec0 k with name := nameS r.a, rule := ⟨prefS r.b, pick r.c 12 - 1, pick r.d 30 - 1⟩ } := by unfold recK; rw [if_neg q1, if_neg q2, if_pos q3]
              rw [hT, hpf] at hRK ⊢
              exact ⟨_, _, _, rfl, Sq.nil, Sq.nil, Sq.nil, hRK⟩
            · refine anyc_ok (N := 3000) (call_does (fun v _ => v = .int .i64 (pick r.d 30)) rfl rfl (by kernel_rfl) rfl (dk rfl) (fun G hG => picked_does hG.wf hr.d (by omega) (by omega))) (QOk_body _ _ _) rfl (by first | exact .inl rfl | exact .inr ⟨_, _, rfl, rfl⟩) ?_
              rintro _ ⟨_, H92, rfl, hn92, rfl⟩
              clear hn92
              have hp92 := pick_bd r.d 30 (by omega)
              simp only [go_sem, simprocAttr]
              refine ⟨by omega, ?_⟩
              refine fin_ret (G := G0) Try.results23 ?_
              simp only [go_sem, simprocAttr]
              intro aa w' _ hle
              have hT : recK s r k = { rec0 k with name := nameS r.a, rule := ⟨prefS r.b, pick r.c 12 - 1, pick r.d 30 - 1⟩ } := by unfold recK; rw [if_neg q1, if_neg q2, if_pos q3]
              rw [hT, hpf] at hRK ⊢
              exact ⟨_, _, _, rfl, Sq.nil, Sq.nil, Sq.nil, hRK⟩
          · refine anyc_ok (N := 3000) (call_does (fun v _ => v = .int .i64 (pick r.d 30)) rfl rfl (by kernel_rfl) rfl (dk rfl) (fun G hG => picked_does hG.wf hr.d (by omega) (by omega))) (QOk_body _ _ _) rfl (by first | exact .inl rfl | exact .inr ⟨_, _, rfl, rfl⟩) ?_
            rintro _ ⟨_, H92, rfl, hn92, rfl⟩
            clear hn92
            have hp92 := pick_bd r.d 30 (by omega)
            simp only [go_sem, simprocAttr]
            refine ⟨by omega, ?_⟩
            intro g5
            refine take_lit (m := 1) rfl tySlice119 tySize9 rfl rfl (dk rfl) rfl hmlt' ?_
            simp only [go_sem, simprocAttr, Nat.mul_one, Nat.zero_mul, Nat.one_mul]
            refine fin_ret (G := G0) Try.results23 ?_
            simp only [go_sem, simprocAttr]
            intro aa w' _ hle
            have hT : recK s r k = { rec0 k with name := nameS r.a, rule := ⟨prefS r.b, pick r.c 12 - 1, pick r.d 30 - 1⟩ } := by unfold recK; rw [if_neg q1, if_neg q2, if_pos q3]
            rw [hT, hpf] at hRK ⊢
            exact ⟨_, _, _, rfl, Sq.nil, Sq.nil, Sq.nil, hRK⟩
    · skip
      have hpf : prefS r.b = ⟨#[122, 47]⟩ := by unfold prefS; rw [hm]; rfl
      refine draw_ok (N := 3000) (.take 1 (.take 2 (.take 6 (.take 7 (.take 10 (.take 11 (.alt 0 (.alt 3 (.take 4 (.alt 5 (.alt 8 (.take 9 (.alt 12 (.take 13 (.take 14 (.take 15 (.alt 16 .done .last)))) .last)) .last) (.alt 8 (.take 9 (.alt 5 (.alt 12 (.take 13 (.take 14 (.take 15 (.alt 16 .done .last)))) .last) (.alt 12 (.take 13 (.alt 5 (.take 14 (.take 15 (.alt 16 .done .last))) .last)) .last))) .last))) .last) (.alt 3 (.alt 0 (.take 4 (.alt 5 (.alt 8 (.take 9 (.alt 12 (.take 13 (.take 14 (.take 15 (.alt 16 .done .last)))) .last)) .last) (.alt 8 (.take 9 (.alt 5 (.alt 12 (.take 13 (.take 14 (.take 15 (.alt 16 .done .last)))) .last) (.alt 12 (.take 13 (.alt 5 (.take 14 (.take 15 (.alt 16 .done .last))) .last)) .last))) .last))) (.alt 8 (.take 9 (.alt 0 (.take 4 (.alt 5 (.alt 12 (.take 13 (.take 14 (.take 15 (.alt 16 .done .last)))) .last) (.alt 12 (.take 13 (.alt 5 (.take 14 (.take 15 (.alt 16 .done .last))) .last)) .last))) (.alt 12 (.take 13 (.alt 0 (.take 4 (.alt 5 (.take 14 (.take 15 (.alt 16 .done .last))) .last)) .last)) .last))) .last)) .last)))))))) [3] (QOk_body _ _ _) follows_mixed (by kernel_rfl) (by kernel_rfl) ?_
      simp only [go_sem, simprocAttr]
      refine ⟨fun g5 => ?_, ?_⟩
      · refine anyc_ok (N := 3000) (call_does (fun v _ => v = .int .i64 ((2 : Nat) : Int)) rfl rfl (by kernel_rfl) rfl (dk rfl) (fun G hG => by rw [← hm]; exact picked_does hG.wf hr.b (by omega) (by omega))) (QOk_body _ _ _) rfl (by first | exact .inl rfl | exact .inr ⟨_, _, rfl, rfl⟩) ?_
        rintro _ ⟨_, H90, rfl, hn90, rfl⟩
        clear hn90
        simp only [go_sem, simprocAttr]
        refine take_lit (m := 2) rfl tySlice119 tySize9 rfl rfl (dk rfl) rfl hmlt' ?_
        simp only [go_sem, simprocAttr, Nat.mul_one, Nat.zero_mul, Nat.one_mul]
        refine ⟨?_, ?_⟩
        · refine anyc_ok (N := 3000) (call_does (fun v _ => v = .int .i64 (pick r.c 12)) rfl rfl (by kernel_rfl) rfl (dk rfl) (fun G hG => picked_does hG.wf hr.c (by omega) (by omega))) (QOk_body _ _ _) rfl (by first | exact .inl rfl | exact .inr ⟨_, _, rfl, rfl⟩) ?_
          rintro _ ⟨_, H91, rfl, hn91, rfl⟩
          clear hn91
          have hp91 := pick_bd r.c 12 (by omega)
          simp only [go_sem, simprocAttr]
          refine ⟨by omega, ?_⟩
          refine anyc_ok (N := 3000) (call_does (fun v _ => v = .int .i64 (pick r.d 30)) rfl rfl (by kernel_rfl) rfl (dk rfl) (fun G hG => picked_does hG.wf hr.d (by omega) (by omega))) (QOk_body _ _ _) rfl (by first | exact .inl rfl | exact .inr ⟨_, _, rfl, rfl⟩) ?_
          rintro _ ⟨_, H92, rfl, hn92, rfl⟩
          clear hn92
          have hp92 := pick_bd r.d 30 (by omega)
          simp only [go_sem, simprocAttr]
          refine ⟨by omega, ?_⟩
          refine fin_ret (G := G0) Try.results23 ?_
          simp only [go_sem, simprocAttr]
          intro aa w' _ hle
          have hT : recK s r k = { rec0 k with name := nameS r.a, rule := ⟨prefS r.b, pick r.c 12 - 1, pick r.d 30 - 1⟩ } := by unfold recK; rw [if_neg q1, if_neg q2, if_pos q3]
          rw [hT, hpf] at hRK ⊢
          exact ⟨_, _, _, rfl, Sq.nil, Sq.nil, Sq.nil, hRK⟩
        · refine anyc_ok (N := 3000) (call_does (fun v _ => v = .int .i64 (pick r.c 12)) rfl rfl (by kernel_rfl) rfl (dk rfl) (fun G hG => picked_does hG.wf hr.c (by omega) (by omega))) (QOk_body _ _ _) rfl (by first | exact .inl rfl | exact .inr ⟨_, _, rfl, rfl⟩) ?_
          rintro _ ⟨_, H91, rfl, hn91, rfl⟩
          clear hn91
          have hp91 := pick_bd r.c 12 (by omega)
          simp only [go_sem, simprocAttr]
          refine ⟨by omega, ?_⟩
          refine ⟨?_, ?_⟩
          · refine anyc_ok (N := 3000) (call_does (fun v _ => v = .int .i64 (pick r.d 30)) rfl rfl (by kernel_rfl) rfl (dk rfl) (fun G hG => picked_does hG.wf hr.d (by omega) (by omega))) (QOk_body _ _ _) rfl (by first | exact .inl rfl | exact .inr ⟨_, _, rfl, rfl⟩) ?_
            rintro _ ⟨_, H92, rfl, hn92, rfl⟩
            clear hn92
            have hp92 := pick_bd r.d 30 (by omega)
            simp only [go_sem, simprocAttr]
            refine ⟨by omega, ?_⟩
            refine fin_ret (G := G0) Try.results23 ?_
            simp only [go_sem, simprocAttr]
            intro aa w' _ hle
            have hT : recK s r k = { rec0 k with name := nameS r.a, rule := ⟨prefS r.b, pick r.c 12 - 1, pick r.d 30 - 1⟩ } := by unfold recK; rw [if_neg q1, if_neg q2, if_pos q3]
            rw [hT, hpf] at hRK ⊢
            exact ⟨_, _, _, rfl, Sq.nil, Sq.nil, Sq.nil, hRK⟩
          · refine anyc_ok (N := 3000) (call_does (fun v _ => v = .int .i64 (pick r.d 30)) rfl rfl (by kernel_rfl) rfl (dk rfl) (fun G hG => picked_does hG.wf hr.d (by omega) (by omega))) (QOk_body _ _ _) rfl (by first | exact .inl rfl | exact .inr ⟨_, _, rfl, rfl⟩) ?_
            rintro _ ⟨_, H92, rfl, hn92, rfl⟩
            clear hn92
            have hp92 := pick_bd r.d 30 (by omega)
            simp only [go_sem, simprocAttr]
            refine ⟨by omega, ?_⟩
            refine fin_ret (G := G0) Try.results23 ?_
            simp only [go_sem, simprocAttr]
            intro aa w' _ hle
            have hT : recK s r k = { rec0 k with name := nameS r.a, rule := ⟨prefS r.b, pick r.c 12 - 1, pick r.d 30 - 1⟩ } := by unfold recK; rw [if_neg q1, if_neg q2, if_pos q3]
            rw [hT, hpf] at hRK ⊢
            exact ⟨_, _, _, rfl, Sq.nil, Sq.nil, Sq.nil, hRK⟩
      · refine anyc_ok (N := 3000) (call_does (fun v _ => v = .int .i64 ((2 : Nat) : Int)) rfl rfl (by kernel_rfl) rfl (dk rfl) (fun G hG => by rw [← hm]; exact picked_does hG.wf hr.b (by omega) (by omega))) (QOk_body _ _ _) rfl (by first | exact .inl rfl | exact .inr ⟨_, _, rfl, rfl⟩) ?_
        rintro _ ⟨_, H90, rfl, hn90, rfl⟩
        clear hn90
        simp only [go_sem, simprocAttr]
        refine ⟨fun g5 => ?_, ?_⟩
        · refine take_lit (m := 2) rfl tySlice119 tySize9 rfl rfl (dk rfl) rfl hmlt' ?_
          simp only [go_sem, simprocAttr, Nat.mul_one, Nat.zero_mul, Nat.one_mul]
          refine ⟨?_, ?_⟩
          · refine anyc_ok (N := 3000) (call_does (fun v _ => v = .int .i64 (pick r.c 12)) rfl rfl (by kernel_rfl) rfl (dk rfl) (fun G hG => picked_does hG.wf hr.c (by omega) (by omega))) (QOk_body _ _ _) rfl (by first | exact .inl rfl | exact .inr ⟨_, _, rfl, rfl⟩) ?_
            rintro _ ⟨_, H91, rfl, hn91, rfl⟩
            clear hn91
            have hp91 := pick_bd r.c 12 (by omega)
            simp only [go_sem, simprocAttr]
            refine ⟨by omega, ?_⟩
            refine anyc_ok (N := 3000) (call_does (fun v _ => v = .int .i64 (pick r.d 30)) rfl rfl (by kernel_rfl) rfl (dk rfl) (fun G hG => picked_does hG.wf hr.d (by omega) (by omega))) (QOk_body _ _ _) rfl (by first | exact .inl rfl | exact .inr ⟨_, _, rfl, rfl⟩) ?_
            rintro _ ⟨_, H92, rfl, hn92, rfl⟩
            clear hn92
            have hp92 := pick_bd r.d 30 (by omega)
            simp only [go_sem, simprocAttr]
            refine ⟨by omega, ?_⟩
            refine fin_ret (G := G0) Try.results23 ?_
            simp only [go_sem, simprocAttr]
            intro aa w' _ hle
            have hT : recK s r k = { rec0 k with name := nameS r.a, rule := ⟨prefS r.b, pick r.c 12 - 1, pick r.d 30 - 1⟩ } := by unfold recK; rw [if_neg q1, if_neg q2, if_pos q3]
            rw [hT, hpf] at hRK ⊢
            exact ⟨_, _, _, rfl, Sq.nil, Sq.nil, Sq.nil, hRK⟩
          · refine anyc_ok (N := 3000) (call_does (fun v _ => v = .int .i64 (pick r.c 12)) rfl rfl (by kernel_rfl) rfl (dk rfl) (fun G hG => picked_does hG.wf hr.c (by omega) (by omega))) (QOk_body _ _ _) rfl (by first | exact .inl rfl | exact .inr ⟨_, _, rfl, rfl⟩) ?_
            rintro _ ⟨_, H91, rfl, hn91, rfl⟩
            clear hn91
            have hp91 := pick_bd r.c 12 (by omega)
            simp only [go_sem, simprocAttr]
            refine ⟨by omega, ?_⟩
            refine ⟨?_, ?_⟩
            · refine anyc_ok (N := 3000) (call_does (fun v _ => v = .int .i64 (pick r.d 30)) rfl rfl (by kernel_rfl) rfl (dk rfl) (fun G hG => picked_does hG.wf hr.d (by omega) (by omega))) (QOk_body _ _ _) rfl (by first | exact .inl rfl | exact .inr ⟨_, _, rfl, rfl⟩) ?_
              rintro _ ⟨_, H92, rfl, hn92, rfl⟩
              clear hn92
              have hp92 := pick_bd r.d 30 (by omega)
              simp only [go_sem, simprocAttr]
              refine ⟨by omega, ?_⟩
              refine fin_ret (G := G0) Try.results23 ?_
              simp only [go_sem, simprocAttr]
              intro aa w' _ hle
              have hT : recK s r k = { rec0 k with name := nameS r.a, rule := ⟨prefS r.b, pick r.c 12 - 1, pick r.d 30 - 1⟩ } := by unfold recK; rw [if_neg q1, if_neg q2, if_pos q3]
              rw [hT, hpf] at hRK ⊢
              exact ⟨_, _, _, rfl, Sq.nil, Sq.nil, Sq.nil, hRK⟩
            · refine anyc_ok (N := 3000) (call_does (fun v _ => v = .int .i64 (pick r.d 30)) rfl rfl (by kernel_rfl) rfl (dk rfl) (fun G hG => picked_does hG.wf hr.d (by omega) (by omega))) (QOk_body _ _ _) rfl (by first | exact .inl rfl | exact .inr ⟨_, _, rfl, rfl⟩) ?_
              rintro _ ⟨_, H92, rfl, hn92, rfl⟩
              clear hn92
              have hp92 := pick_bd r.d 30 (by omega)
              simp only [go_sem, simprocAttr]
              refine ⟨by omega, ?_⟩
              refine fin_ret (G := G0) Try.results23 ?_
              simp only [go_sem, simprocAttr]
              intro aa w' _ hle
              have hT : recK s r k = { rec0 k with name := nameS r.a, rule := ⟨prefS r.b, pick r.c 12 - 1, pick r.d 30 - 1⟩ } := by unfold recK; rw [if_neg q1, if_neg q2, if_pos q3]
              rw [hT, hpf] at hRK ⊢
              exact ⟨_, _, _, rfl, Sq.nil, Sq.nil, Sq.nil, hRK⟩
        · refine anyc_ok (N := 3000) (call_does (fun v _ => v = .int .i64 (pick r.c 12)) rfl rfl (by kernel_rfl) rfl (dk rfl) (fun G hG => picked_does hG.wf hr.c (by omega) (by omega))) (QOk_body _ _ _) rfl (by first | exact .inl rfl | exact .inr ⟨_, _, rfl, rfl⟩) ?_
          rintro _ ⟨_, H91, rfl, hn91, rfl⟩
          clear hn91
          have hp91 := pick_bd r.c 12 (by omega)
          simp only [go_sem, simprocAttr]
          refine ⟨by omega, ?_⟩
          refine ⟨fun g5 => ?_, ?_⟩
          · refine take_lit (m := 2) rfl tySlice119 tySize9 rfl rfl (dk rfl) rfl hmlt' ?_
            simp only [go_sem, simprocAttr, Nat.mul_one, Nat.zero_mul, Nat.one_mul]
            refine ⟨?_, ?_⟩
            · refine anyc_ok (N := 3000) (call_does (fun v _ => v = .int .i64 (pick r.d 30)) rfl rfl (by kernel_rfl) rfl (dk rfl) (fun G hG => picked_does hG.wf hr.d (by omega) (by omega))) (QOk_body _ _ _) rfl (by first | exact .inl rfl | exact .inr ⟨_, _, rfl, rfl⟩) ?_
              rintro _ ⟨_, H92, rfl, hn92, rfl⟩
              clear hn92
              have hp92 := pick_bd r.d 30 (by omega)
              simp only [go_sem, simprocAttr]
              refine ⟨by omega, ?_⟩
              refine fin_ret (G := G0) Try.results23 ?_
              simp only [go_sem, simprocAttr]
              intro aa w' _ hle
              have hT : recK s r k = { rec0 k with name := nameS r.a, rule := ⟨prefS r.b, pick r.c 12 - 1, pick r.d 30 - 1⟩ } := by unfold recK; rw [if_neg q1, if_neg q2, if_pos q3]
              rw [hT, hpf] at hRK ⊢
              exact ⟨_, _, _, rfl, Sq.nil, Sq.nil, Sq.nil, hRK⟩
            · refine anyc_ok (N := 3000) (call_does (fun v _ => v = .int .i64 (pick r.d 30)) rfl rfl (by kernel_rfl) rfl (dk rfl) (fun G hG => picked_does hG.wf hr.d (by omega) (by omega))) (QOk_body _ _ _) rfl (by first | exact .inl rfl | exact .inr ⟨_, _, rfl, rfl⟩) ?_
              rintro _ ⟨_, H92, rfl, hn92, rfl⟩
              clear hn92
              have hp92 := pick_bd r.d 30 (by omega)
              simp only [go_sem, simprocAttr]
              refine ⟨by omega, ?_⟩
              refine fin_ret (G := G0) Try.results23 ?_
              simp only [go_sem, simprocAttr]
              intro aa w' _ hle
              have hT : recK s r k = { rec0 k with name := nameS r.a, rule := ⟨prefS r.b, pick r.c 12 - 1, pick r.d 30 - 1⟩ } := by unfold recK; rw [if_neg q1, if_neg q2, if_pos q3]
              rw [hT, hpf] at hRK ⊢
              exact ⟨_, _, _, rfl, Sq.nil, Sq.nil, Sq.nil, hRK⟩
          · refine anyc_ok (N := 3000) (call_does (fun v _ => v = .int .i64 (pick r.d 30)) rfl rfl (by kernel_rfl) rfl (dk rfl) (fun G hG => picked_does hG.wf hr.d (by omega) (by omega))) (QOk_body _ _ _) rfl (by first | exact .inl rfl | exact .inr ⟨_, _, rfl, rfl⟩) ?_
            rintro _ ⟨_, H92, rfl, hn92, rfl⟩
            clear hn92
            have hp92 := pick_bd r.d 30 (by omega)
            simp only [go_sem, simprocAttr]
            refine ⟨by omega, ?_⟩
            intro g5
            refine take_lit (m := 2) rfl tySlice119 tySize9 rfl rfl (dk rfl) rfl hmlt' ?_
            simp only [go_sem, simprocAttr, Nat.mul_one, Nat.zero_mul, Nat.one_mul]
            refine fin_ret (G := G0) Try.results23 ?_
            simp only [go_sem, simprocAttr]
            intro aa w' _ hle
            have hT : recK s r k = { rec0 k with name := nameS r.a, rule := ⟨prefS r.b, pick r.c 12 - 1, pick r.d 30 - 1⟩ } := by unfold recK; rw [if_neg q1, if_neg q2, if_pos q3]
            rw [hT, hpf] at hRK ⊢
            exact ⟨_, _, _, rfl, Sq.nil, Sq.nil, Sq.nil, hRK⟩
  have q3 := of_decide_eq_false q3'
  refine Wb_mk (fun q4' => ?_) (fun q4' => ?_)
  · have q4 := of_decide_eq_true q4'
    refine plain_ok (N := 3000) (call_does (fun v _ => v = .int .i64 (pick r.c 200)) rfl rfl (by kernel_rfl) rfl (dk rfl) (fun G hG => picked_does hG.wf hr.c (by omega) (by omega))) (QOk_body _ _ _) (by first | exact .inl rfl | exact .inr ⟨_, _, rfl, rfl⟩) ?_
    rintro _ ⟨_, H5, rfl, hn5, rfl⟩
    clear hn5
    have hp5 := pick_bd r.c 200 (by omega)
    simp only [go_sem, simprocAttr]
    refine draw_ok (N := 3000) (.take 0 (.take 1 (.take 2 (.take 3 (.take 5 (.take 6 (.take 8 (.take 9 (.take 12 (.take 13 (.take 14 (.take 15 (.take 16 (.alt 4 (.alt 7 (.alt 10 (.take 11 (.alt 17 (.take 18 (.take 19 (.alt 20 .done .last))) .last)) .last) .last) .last)))))))))))))) [3] (QOk_body _ _ _) follows_mixed (by kernel_rfl) (by kernel_rfl) ?_
    simp only [go_sem, simprocAttr]
    refine ⟨by omega, ?_⟩
    refine anyc_ok (N := 3000) (call_does (fun v _ => v = .string (nameS r.a)) rfl rfl (by kernel_rfl) rfl (dk rfl) (fun G hG => name_does hG.wf hr.a)) (QOk_body _ _ _) rfl (by first | exact .inl rfl | exact .inr ⟨_, _, rfl, rfl⟩) ?_
    rintro _ ⟨_, H26, rfl, hn26, rfl⟩
    clear hn26
    simp only [go_sem, simprocAttr]
    refine anyc_ok (N := 3000) (call_does (fun v _ => v = .string (keyS r.b)) rfl rfl (by kernel_rfl) rfl (dk rfl) (fun G hG => key_does hG.wf hr.b)) (QOk_body _ _ _) rfl (by first | exact .inl rfl | exact .inr ⟨_, _, rfl, rfl⟩) ?_
    rintro _ ⟨_, H27, rfl, hn27, rfl⟩
    clear hn27
    simp only [go_sem, simprocAttr]
    refine anyc_ok (N := 3000) (call_does (fun v _ => v = .int .i64 (pick r.d 3)) rfl rfl (by kernel_rfl) rfl (dk rfl) (fun G hG => picked_does hG.wf hr.d (by omega) (by omega))) (QOk_body _ _ _) rfl (by first | exact .inl rfl | exact .inr ⟨_, _, rfl, rfl⟩) ?_
    rintro _ ⟨_, H28, rfl, hn28, rfl⟩
    clear hn28
    have hp28 := pick_bd r.d 3 (by omega)
    simp only [go_sem, simprocAttr]
    refine anyc_ok (N := 3000) (call_does (fun v _ => v = .int .i64 (pick r.c (s.clock + 1))) rfl rfl (by kernel_rfl) rfl (dk rfl) (fun G hG => picked_does hG.wf hr.c (by omega) (by omega))) (QOk_body _ _ _) rfl (by first | exact .inl rfl | exact .inr ⟨_, _, rfl, rfl⟩) ?_
    rintro _ ⟨_, H29, rfl, hn29, rfl⟩
    clear hn29
    simp only [go_sem, simprocAttr]
    refine plain_ok (N := 3000) (call_does (fun v _ => v = .int .i64 (pick r.d 5)) rfl rfl (by kernel_rfl) rfl (dk rfl) (fun G hG => picked_does hG.wf hr.d (by omega) (by omega))) (QOk_body _ _ _) (by first | exact .inl rfl | exact .inr ⟨_, _, rfl, rfl⟩) ?_
    rintro _ ⟨_, H30, rfl, hn30, rfl⟩
    clear hn30
    have hp30 := pick_bd r.d 5 (by omega)
    simp only [go_sem, simprocAttr]
    refine Wb_mk (fun hm5 => ?_) (fun hm5 => ?_)
    · have hv9 := of_decide_eq_true hm5
      refine fin_ret (G := G0) Try.results23 ?_
      simp only [go_sem, simprocAttr]
      intro aa w' _ hle
      have hT : recK s r k = { rec0 k with ver := { noV with id := s.next, bucket := nameS r.a, key := keyS r.b, null := decide (pick r.d 3 = 0), time := pick r.c (s.clock + 1), marker := true } } := by unfold recK; rw [if_neg q1, if_neg q2, if_neg q3, if_pos q4, show newV s r = { noV with id := s.next, bucket := nameS r.a, key := keyS r.b, null := decide (pick r.d 3 = 0), time := pick r.c (s.clock + 1), marker := true } from by unfold newV; rw [if_pos hv9]]
      rw [hT] at hRK ⊢
      exact ⟨_, _, _, rfl, Sq.nil, Sq.nil, Sq.nil, hRK⟩
    · have hv9 := of_decide_eq_false hm5
      refine plain_ok (N := 3000) (call_does (fun y G => IntsG G y (sectorsS s (pick r.c 200))) rfl rfl (by kernel_rfl) rfl (dk rfl) (fun G hG => sectorsOf_does hG.wf (hP.mono (hG.le G0 (by simp))).g (by omega) (by omega))) (QOk_body _ _ _) (by first | exact .inl rfl | exact .inr ⟨_, _, rfl, rfl⟩) ?_
      rintro _ ⟨_, H31, hO31, hn31, rfl⟩
      clear hn31
      obtain ⟨As31, cs31, rfl, _⟩ := Sq.form hO31
      simp only [go_sem, simprocAttr]
      refine fin_ret (G := G0) Try.results23 ?_
      simp only [go_sem, simprocAttr]
      intro aa w' _ hle
      have hT : recK s r k = { rec0 k with ver := { noV with id := s.next, bucket := nameS r.a, key := keyS r.b, null := decide (pick r.d 3 = 0), time := pick r.c (s.clock + 1), size := pick r.c 200, tier := 1, secs := sectorsS s (pick r.c 200) } } := by unfold recK; rw [if_neg q1, if_neg q2, if_neg q3, if_pos q4, show newV s r = { noV with id := s.next, bucket := nameS r.a, key := keyS r.b, null := decide (pick r.d 3 = 0), time := pick r.c (s.clock + 1), size := pick r.c 200, tier := 1, secs := sectorsS s (pick r.c 200) } from by unfold newV; rw [if_neg hv9]]
      rw [hT] at hRK ⊢
      exact ⟨_, _, _, rfl, hO31.mono (hle H31 (by simp)), Sq.nil, Sq.nil, hRK⟩
  have q4 := of_decide_eq_false q4'
  refine Wb_mk (fun q5' => ?_) (fun q5' => ?_)
  · have q5 := of_decide_eq_true q5'
    refine plain_ok (N := 3000) (call_does (fun v _ => v = .int .i64 (idS s r.a)) rfl rfl (by kernel_rfl) rfl (dk rfl) (fun G hG => id_does hG.wf (hP.mono (hG.le G0 (by simp))).g hr.a)) (QOk_body _ _ _) (by first | exact .inl rfl | exact .inr ⟨_, _, rfl, rfl⟩) ?_
    rintro _ ⟨_, H6, rfl, hn6, rfl⟩
    clear hn6
    simp only [go_sem, simprocAttr]
    refine fin_ret (G := G0) Try.results23 ?_
    simp only [go_sem, simprocAttr]
    intro aa w' _ hle
    have hT : recK s r k = { rec0 k with id := idS s r.a } := by unfold recK; rw [if_neg q1, if_neg q2, if_neg q3, if_neg q4, if_pos (.inl q5)]
    rw [hT] at hRK ⊢
    exact ⟨_, _, _, rfl, Sq.nil, Sq.nil, Sq.nil, hRK⟩
  have q5 := of_decide_eq_false q5'
  refine Wb_mk (fun q9' => ?_) (fun q9' => ?_)
  · have q9 := of_decide_eq_true q9'
    refine plain_ok (N := 3000) (call_does (fun v _ => v = .int .i64 (idS s r.a)) rfl rfl (by kernel_rfl) rfl (dk rfl) (fun G hG => id_does hG.wf (hP.mono (hG.le G0 (by simp))).g hr.a)) (QOk_body _ _ _) (by first | exact .inl rfl | exact .inr ⟨_, _, rfl, rfl⟩) ?_
    rintro _ ⟨_, H7, rfl, hn7, rfl⟩
    clear hn7
    simp only [go_sem, simprocAttr]
    refine fin_ret (G := G0) Try.results23 ?_
    simp only [go_sem, simprocAttr]
    intro aa w' _ hle
    have hT : recK s r k = { rec0 k with id := idS s r.a } := by unfold recK; rw [if_neg q1, if_neg q2, if_neg q3, if_neg q4, if_pos (.inr q9)]
    rw [hT] at hRK ⊢
    exact ⟨_, _, _, rfl, Sq.nil, Sq.nil, Sq.nil, hRK⟩
  have q9 := of_decide_eq_false q9'
  refine Wb_mk (fun q6' => ?_) (fun q6' => ?_)
  · have q6 := of_decide_eq_true q6'
    refine plain_ok (N := 3000) (call_does (fun v _ => v = .int .i64 (idS s r.a)) rfl rfl (by kernel_rfl) rfl (dk rfl) (fun G hG => id_does hG.wf (hP.mono (hG.le G0 (by simp))).g hr.a)) (QOk_body _ _ _) (by first | exact .inl rfl | exact .inr ⟨_, _, rfl, rfl⟩) ?_
    rintro _ ⟨_, H8, rfl, hn8, rfl⟩
    clear hn8
    simp only [go_sem, simprocAttr]
    refine plain_ok (N := 3000) (call_does (fun v _ => v = .int .i64 (pick r.b 3)) rfl rfl (by kernel_rfl) rfl (dk rfl) (fun G hG => picked_does hG.wf hr.b (by omega) (by omega))) (QOk_body _ _ _) (by first | exact .inl rfl | exact .inr ⟨_, _, rfl, rfl⟩) ?_
    rintro _ ⟨_, H9, rfl, hn9, rfl⟩
    clear hn9
    have hp9 := pick_bd r.b 3 (by omega)
    simp only [go_sem, simprocAttr]
    refine plain_ok (N := 3000) (call_does (fun v _ => v = .int .i64 (pick r.c 1000)) rfl rfl (by kernel_rfl) rfl (dk rfl) (fun G hG => picked_does hG.wf hr.c (by omega) (by omega))) (QOk_body _ _ _) (by first | exact .inl rfl | exact .inr ⟨_, _, rfl, rfl⟩) ?_
    rintro _ ⟨_, H10, rfl, hn10, rfl⟩
    clear hn10
    have hp10 := pick_bd r.c 1000 (by omega)
    simp only [go_sem, simprocAttr]
    refine fin_ret (G := G0) Try.results23 ?_
    simp only [go_sem, simprocAttr]
    intro aa w' _ hle
    have hT : recK s r k = { rec0 k with id := idS s r.a, vol := pick r.b 3, at_ := pick r.c 1000 } := by unfold recK; rw [if_neg q1, if_neg q2, if_neg q3, if_neg q4, if_neg (by omega), if_pos q6]
    rw [hT] at hRK ⊢
    exact ⟨_, _, _, rfl, Sq.nil, Sq.nil, Sq.nil, hRK⟩
  have q6 := of_decide_eq_false q6'
  refine Wb_mk (fun q7' => ?_) (fun q7' => ?_)
  · have q7 := of_decide_eq_true q7'
    refine draw_ok (N := 3000) (.take 0 (.take 1 (.take 2 (.take 4 (.take 5 (.take 8 (.take 9 (.alt 3 (.alt 6 (.take 7 (.alt 10 (.take 11 (.take 12 (.alt 13 .done .last))) .last)) .last) .last)))))))) [3] (QOk_body _ _ _) follows_mixed (by kernel_rfl) (by kernel_rfl) ?_
    simp only [go_sem, simprocAttr]
    refine anyc_ok (N := 3000) (call_does (fun v _ => v = .int .i64 (idS s r.a)) rfl rfl (by kernel_rfl) rfl (dk rfl) (fun G hG => id_does hG.wf (hP.mono (hG.le G0 (by simp))).g hr.a)) (QOk_body _ _ _) rfl (by first | exact .inl rfl | exact .inr ⟨_, _, rfl, rfl⟩) ?_
    rintro _ ⟨_, H11, rfl, hn11, rfl⟩
    clear hn11
    simp only [go_sem, simprocAttr]
    refine anyc_ok (N := 3000) (call_does (fun v _ => v = .int .i64 (pick r.b 9)) rfl rfl (by kernel_rfl) rfl (dk rfl) (fun G hG => picked_does hG.wf hr.b (by omega) (by omega))) (QOk_body _ _ _) rfl (by first | exact .inl rfl | exact .inr ⟨_, _, rfl, rfl⟩) ?_
    rintro _ ⟨_, H12, rfl, hn12, rfl⟩
    clear hn12
    have hp12 := pick_bd r.b 9 (by omega)
    simp only [go_sem, simprocAttr]
    refine ⟨by omega, ?_⟩
    refine anyc_ok (N := 3000) (call_does (fun v _ => v = .int .i64 (pick r.c 3)) rfl rfl (by kernel_rfl) rfl (dk rfl) (fun G hG => picked_does hG.wf hr.c (by omega) (by omega))) (QOk_body _ _ _) rfl (by first | exact .inl rfl | exact .inr ⟨_, _, rfl, rfl⟩) ?_
    rintro _ ⟨_, H13, rfl, hn13, rfl⟩
    clear hn13
    have hp13 := pick_bd r.c 3 (by omega)
    simp only [go_sem, simprocAttr]
    refine fin_ret (G := G0) Try.results23 ?_
    simp only [go_sem, simprocAttr]
    intro aa w' _ hle
    have hT : recK s r k = { rec0 k with ask := ⟨idS s r.a, 1 + pick r.b 9, pick r.c 3⟩ } := by unfold recK; rw [if_neg q1, if_neg q2, if_neg q3, if_neg q4, if_neg (by omega), if_neg q6, if_pos q7]
    rw [hT] at hRK ⊢
    exact ⟨_, _, _, rfl, Sq.nil, Sq.nil, Sq.nil, hRK⟩
  have q7 := of_decide_eq_false q7'
  refine Wb_mk (fun q8' => ?_) (fun q8' => ?_)
  · have q8 := of_decide_eq_true q8'
    refine plain_ok (N := 3000) (call_does (fun v _ => v = .int .i64 (idS s r.a)) rfl rfl (by kernel_rfl) rfl (dk rfl) (fun G hG => id_does hG.wf (hP.mono (hG.le G0 (by simp))).g hr.a)) (QOk_body _ _ _) (by first | exact .inl rfl | exact .inr ⟨_, _, rfl, rfl⟩) ?_
    rintro _ ⟨_, H14, rfl, hn14, rfl⟩
    clear hn14
    simp only [go_sem, simprocAttr]
    refine draw_ok (N := 3000) (.take 0 (.take 1 (.take 2 (.take 3 (.alt 4 (.take 5 (.take 6 (.alt 7 .done .last))) .last))))) [3] (QOk_body _ _ _) follows_mixed (by kernel_rfl) (by kernel_rfl) ?_
    simp only [go_sem, simprocAttr]
    refine anyc_ok (N := 3000) (call_does (fun v _ => v = .int .i64 (pick r.b 9)) rfl rfl (by kernel_rfl) rfl (dk rfl) (fun G hG => picked_does hG.wf hr.b (by omega) (by omega))) (QOk_body _ _ _) rfl (by first | exact .inl rfl | exact .inr ⟨_, _, rfl, rfl⟩) ?_
    rintro _ ⟨_, H15, rfl, hn15, rfl⟩
    clear hn15
    have hp15 := pick_bd r.b 9 (by omega)
    simp only [go_sem, simprocAttr]
    refine ⟨by omega, ?_⟩
    refine loop_ok (N := 3000) (ι := Nat × List Int × Option Addr × Nat × GW) (fun i => match i with | (i, acc, A, c, G) => ⟨[(2, .c (.p 0 g1 0)), (4, .c (.p 2 g3 0)), (5, .c (.p 3 g4 0)), (154, .c (.v (.slice A2 s.vers.length c2))), (155, .c (.v (.int .i64 (s.vers.length : Int)))), (156, .c (.v (.int .i64 (i : Int))))],
        [⟨3, g4, 50, [.v (.int .i64 k), .v (.int .i64 (idS s r.a)), .v (.int .i64 (s.clock + pick r.b 9)), .v (.string ⟨#[]⟩), .v (.string ⟨#[]⟩), .v (.string ⟨#[]⟩), .v (.int .i64 0), .v (.int .i64 0), .v (.int .i64 0), .v (.string ⟨#[]⟩), .v (.string ⟨#[]⟩), .v (.bool false), .v (.bool false), .v (.int .i64 0), .v (.int .i64 0), .v (.int .i64 0), .v (.slice none 0 0), .v (.int .i64 0), .v (.int .i64 0), .v (.int .i64 0), .v (.int .i64 0), .v (.int .i64 0), .v (.int .i64 0), .v (.int .i64 0), .v (.int .i64 0), .v (.slice none 0 0), .v (.slice A acc.length c), .v (.int .i64 0), .v (.int .i64 0)]⟩, ⟨2, g3, 50, [.v (.int .i64 0), .v (.int .i64 0), .v (.int .i64 0), .v (.string ⟨#[]⟩), .v (.string ⟨#[]⟩), .v (.string ⟨#[]⟩), .v (.int .i64 0), .v (.int .i64 0), .v (.int .i64 0), .v (.string ⟨#[]⟩), .v (.string ⟨#[]⟩), .v (.bool false), .v (.bool false), .v (.int .i64 0), .v (.int .i64 0), .v (.int .i64 0), .v (.slice none 0 0), .v (.int .i64 0), .v (.int .i64 0), .v (.int .i64 0), .v (.int .i64 0), .v (.int .i64 0), .v (.int .i64 0), .v (.int .i64 0), .v (.int .i64 0), .v (.slice none 0 0), .v (.slice none 0 0), .v (.int .i64 0), .v (.int .i64 0)]⟩, ⟨0, g1, 29, [.v (.int .i64 s.next), .v (.int .i64 s.clock), .v (.slice A1 s.bkts.length c1), .v (.slice A2 s.vers.length c2), .v (.slice A3 s.upls.length c3), .v (.slice A4 s.queue.length c4), .v (.slice A5 s.gone.length c5)]⟩], [], [], [G, G0], 4⟩)
      (fun i => match i with | (i, acc, A, c, G) => i ≤ s.vers.length ∧ thawL s (idS s r.a) [] s.vers = thawL s (idS s r.a) acc (s.vers.drop i) ∧ IntsG G (.slice A acc.length c) acc)
      (fun i => s.vers.length - i.1) (QOk_body _ _ _) (0, [], none, 0, G0) ⟨by omega, by simp, Sq.nil⟩ (by simp only [go_sem, simprocAttr]; simp) ?_
    rintro ⟨i, acc, A, c, GA⟩ ⟨hi, hL, hI⟩
    simp only
    by_cases hlt : i < s.vers.length
    · have q : decide ((i : Int) < (s.vers.length : Int)) = true := decide_eq_true (by omega)
      obtain ⟨v, hv⟩ : ∃ v, s.vers[i]? = some v := ⟨_, List.getElem?_eq_getElem hlt⟩
      obtain ⟨z1, z2⟩ := hgd.size (List.mem_of_getElem? hv)
      rw [drop_at hv, thawL_cons] at hL
      simp only [go_sem, simprocAttr, q]
      refine plain_ok (N := 3000) (elem_does (R := VerG) (l := s.vers) (m := i) rfl tySlice24 tySize44 rfl rfl (dk rfl) rfl hv (fun G hG => Sq.mono hP.vers verG_mono (hG.le G0 (by simp)))) (QOk_body _ _ _) (by first | exact .inl rfl | exact .inr ⟨_, _, rfl, rfl⟩) ?_
      rintro _ ⟨g6, o', cs, G2, hcl, ⟨svx, rfl, hsv, hk1, hk2⟩, rfl⟩
      obtain ⟨Aw, cw, rfl, _⟩ := Sq.form hsv
      simp only [go_sem, simprocAttr, verV]
      intro g7
      refine Wb_mk (fun hid => ?_) (fun hid => ?_)
      · rw [if_pos (of_decide_eq_true hid)] at hL
        refine plain_ok (N := 3000) (call_does (fun y G => IntsG G y (sectorsS s v.size)) rfl rfl (by kernel_rfl) rfl (dk rfl) (fun G hG => sectorsOf_does hG.wf (hP.mono (hG.le G0 (by simp))).g z1 (by omega))) (QOk_body _ _ _) (by first | exact .inl rfl | exact .inr ⟨_, _, rfl, rfl⟩) ?_
        rintro _ ⟨_, H16, hO16, hn16, rfl⟩
        clear hn16
        obtain ⟨As16, cs16, rfl, _⟩ := Sq.form hO16
        simp only [go_sem, simprocAttr]
        refine ⟨by omega, ?_⟩
        refine again_ok (i + 1, sectorsS s v.size, As16, cs16, H16) ⟨hlt, hL, hO16⟩ (by show s.vers.length - (i + 1) < s.vers.length - i; omega) (by simp only [go_sem, simprocAttr]; simp)
      · rw [if_neg (of_decide_eq_false hid)] at hL
        refine ⟨by omega, ?_⟩
        refine again_ok (i + 1, acc, A, c, GA) ⟨hlt, hL, hI⟩ (by show s.vers.length - (i + 1) < s.vers.length - i; omega) (by simp only [go_sem, simprocAttr]; simp)
    · have hil : i = s.vers.length := by omega
      subst hil
      have q : decide ((s.vers.length : Int) < (s.vers.length : Int)) = false := decide_eq_false (by omega)
      rw [List.drop_length] at hL
      have hL' : thawL s (idS s r.a) [] s.vers = acc := hL
      simp only [go_sem, simprocAttr, q]
      refine fin_ret (G := G0) Try.results23 ?_
      simp only [go_sem, simprocAttr]
      intro aa w' _ hle
      have hT : recK s r k = { rec0 k with id := idS s r.a, n := s.clock + pick r.b 9, secs := acc } := by unfold recK; rw [if_neg q1, if_neg q2, if_neg q3, if_neg q4, if_neg (by omega), if_neg q6, if_neg q7, if_pos q8, hL']
      rw [hT] at hRK ⊢
      exact ⟨_, _, _, rfl, Sq.nil, Sq.nil, hI.mono (hle GA (by simp)), hRK⟩
  have q8 := of_decide_eq_false q8'
  refine Wb_mk (fun q10' => ?_) (fun q10' => ?_)
  · have q10 := of_decide_eq_true q10'
    refine plain_ok (N := 3000) (call_does (fun v _ => v = .string (nameS r.a)) rfl rfl (by kernel_rfl) rfl (dk rfl) (fun G hG => name_does hG.wf hr.a)) (QOk_body _ _ _) (by first | exact .inl rfl | exact .inr ⟨_, _, rfl, rfl⟩) ?_
    rintro _ ⟨_, H17, rfl, hn17, rfl⟩
    clear hn17
    simp only [go_sem, simprocAttr]
    refine plain_ok (N := 3000) (call_does (fun v _ => v = .string (keyS r.b)) rfl rfl (by kernel_rfl) rfl (dk rfl) (fun G hG => key_does hG.wf hr.b)) (QOk_body _ _ _) (by first | exact .inl rfl | exact .inr ⟨_, _, rfl, rfl⟩) ?_
    rintro _ ⟨_, H18, rfl, hn18, rfl⟩
    clear hn18
    simp only [go_sem, simprocAttr]
    refine fin_ret (G := G0) Try.results23 ?_
    simp only [go_sem, simprocAttr]
    intro aa w' _ hle
    have hT : recK s r k = { rec0 k with id := s.next, name := nameS r.a, key := keyS r.b } := by unfold recK; rw [if_neg q1, if_neg q2, if_neg q3, if_neg q4, if_neg (by omega), if_neg q6, if_neg q7, if_neg q8, if_pos q10]
    rw [hT] at hRK ⊢
    exact ⟨_, _, _, rfl, Sq.nil, Sq.nil, Sq.nil, hRK⟩
  have q10 := of_decide_eq_false q10'
  refine Wb_mk (fun q11' => ?_) (fun q11' => ?_)
  · have q11 := of_decide_eq_true q11'
    refine plain_ok (N := 3000) (call_does (fun v _ => v = .int .i64 (pick r.c 200)) rfl rfl (by kernel_rfl) rfl (dk rfl) (fun G hG => picked_does hG.wf hr.c (by omega) (by omega))) (QOk_body _ _ _) (by first | exact .inl rfl | exact .inr ⟨_, _, rfl, rfl⟩) ?_
    rintro _ ⟨_, H19, rfl, hn19, rfl⟩
    clear hn19
    have hp19 := pick_bd r.c 200 (by omega)
    simp only [go_sem, simprocAttr]
    refine draw_ok (N := 3000) (.take 0 (.take 1 (.take 4 (.take 5 (.take 6 (.alt 2 (.take 3 (.alt 7 (.take 8 (.take 9 (.alt 10 .done .last))) .last)) .last)))))) [3] (QOk_body _ _ _) follows_mixed (by kernel_rfl) (by kernel_rfl) ?_
    simp only [go_sem, simprocAttr]
    refine anyc_ok (N := 3000) (call_does (fun v _ => v = .int .i64 (pick r.b 5)) rfl rfl (by kernel_rfl) rfl (dk rfl) (fun G hG => picked_does hG.wf hr.b (by omega) (by omega))) (QOk_body _ _ _) rfl (by first | exact .inl rfl | exact .inr ⟨_, _, rfl, rfl⟩) ?_
    rintro _ ⟨_, H20, rfl, hn20, rfl⟩
    clear hn20
    have hp20 := pick_bd r.b 5 (by omega)
    simp only [go_sem, simprocAttr]
    refine ⟨by omega, ?_⟩
    refine anyc_ok (N := 3000) (call_does (fun y G => IntsG G y (sectorsS s (pick r.c 200))) rfl rfl (by kernel_rfl) rfl (dk rfl) (fun G hG => sectorsOf_does hG.wf (hP.mono (hG.le G0 (by simp))).g (by omega) (by omega))) (QOk_body _ _ _) rfl (by first | exact .inl rfl | exact .inr ⟨_, _, rfl, rfl⟩) ?_
    rintro _ ⟨_, H21, hO21, hn21, rfl⟩
    clear hn21
    obtain ⟨As21, cs21, rfl, _⟩ := Sq.form hO21
    simp only [go_sem, simprocAttr]
    refine plain_ok (N := 3000) (call_does (fun v _ => v = .int .i64 (upidS s r.a)) rfl rfl (by kernel_rfl) rfl (dk rfl) (fun G hG => upid_does hG.wf (hP.mono (hG.le G0 (by simp))).g hr.a)) (QOk_body _ _ _) (by first | exact .inl rfl | exact .inr ⟨_, _, rfl, rfl⟩) ?_
    rintro _ ⟨_, H22, rfl, hn22, rfl⟩
    clear hn22
    simp only [go_sem, simprocAttr]
    refine fin_ret (G := G0) Try.results23 ?_
    simp only [go_sem, simprocAttr]
    intro aa w' _ hle
    have hT : recK s r k = { rec0 k with part := ⟨1 + pick r.b 5, pick r.c 200, sectorsS s (pick r.c 200)⟩, id := upidS s r.a } := by unfold recK; rw [if_neg q1, if_neg q2, if_neg q3, if_neg q4, if_neg (by omega), if_neg q6, if_neg q7, if_neg q8, if_neg q10, if_pos q11]
    rw [hT] at hRK ⊢
    exact ⟨_, _, _, rfl, Sq.nil, hO21.mono (hle H21 (by simp)), Sq.nil, hRK⟩
  have q11 := of_decide_eq_false q11'
  refine Wb_mk (fun q12' => ?_) (fun q12' => ?_)
  · have q12 := of_decide_eq_true q12'
    refine plain_ok (N := 3000) (call_does (fun v _ => v = .int .i64 (upidS s r.a)) rfl rfl (by kernel_rfl) rfl (dk rfl) (fun G hG => upid_does hG.wf (hP.mono (hG.le G0 (by simp))).g hr.a)) (QOk_body _ _ _) (by first | exact .inl rfl | exact .inr ⟨_, _, rfl, rfl⟩) ?_
    rintro _ ⟨_, H23, rfl, hn23, rfl⟩
    clear hn23
    simp only [go_sem, simprocAttr]
    refine fin_ret (G := G0) Try.results23 ?_
    simp only [go_sem, simprocAttr]
    intro aa w' _ hle
    have hT : recK s r k = { rec0 k with id := upidS s r.a } := by unfold recK; rw [if_neg q1, if_neg q2, if_neg q3, if_neg q4, if_neg (by omega), if_neg q6, if_neg q7, if_neg q8, if_neg q10, if_neg q11, if_pos q12]
    rw [hT] at hRK ⊢
    exact ⟨_, _, _, rfl, Sq.nil, Sq.nil, Sq.nil, hRK⟩
  have q12 := of_decide_eq_false q12'
  refine Wb_mk (fun q13' => ?_) (fun q13' => ?_)
  · have q13 := of_decide_eq_true q13'
    refine plain_ok (N := 3000) (call_does (fun v _ => v = .int .i64 (pick r.a 12)) rfl rfl (by kernel_rfl) rfl (dk rfl) (fun G hG => picked_does hG.wf hr.a (by omega) (by omega))) (QOk_body _ _ _) (by first | exact .inl rfl | exact .inr ⟨_, _, rfl, rfl⟩) ?_
    rintro _ ⟨_, H24, rfl, hn24, rfl⟩
    clear hn24
    have hp24 := pick_bd r.a 12 (by omega)
    simp only [go_sem, simprocAttr]
    refine fin_ret (G := G0) Try.results23 ?_
    simp only [go_sem, simprocAttr]
    intro aa w' _ hle
    have hT : recK s r k = { rec0 k with n := pick r.a 12 } := by unfold recK; rw [if_neg q1, if_neg q2, if_neg q3, if_neg q4, if_neg (by omega), if_neg q6, if_neg q7, if_neg q8, if_neg q10, if_neg q11, if_neg q12, if_pos q13]
    rw [hT] at hRK ⊢
    exact ⟨_, _, _, rfl, Sq.nil, Sq.nil, Sq.nil, hRK⟩
  have q13 := of_decide_eq_false q13'
  refine plain_ok (N := 3000) (call_does (fun v _ => v = .int .i64 (pick r.a 4)) rfl rfl (by kernel_rfl) rfl (dk rfl) (fun G hG => picked_does hG.wf hr.a (by omega) (by omega))) (QOk_body _ _ _) (by first | exact .inl rfl | exact .inr ⟨_, _, rfl, rfl⟩) ?_
  rintro _ ⟨_, H25, rfl, hn25, rfl⟩
  clear hn25
  have hp25 := pick_bd r.a 4 (by omega)
  simp only [go_sem, simprocAttr]
  refine fin_ret (G := G0) Try.results23 ?_
  simp only [go_sem, simprocAttr]
  intro aa w' _ hle
  have hT : recK s r k = { rec0 k with vol := pick r.a 4 } := by unfold recK; rw [if_neg q1, if_neg q2, if_neg q3, if_neg q4, if_neg (by omega), if_neg q6, if_neg q7, if_neg q8, if_neg q10, if_neg q11, if_neg q12, if_neg q13]
  rw [hT] at hRK ⊢
  exact ⟨_, _, _, rfl, Sq.nil, Sq.nil, Sq.nil, hRK⟩
end Go.Proofs.Ytefmffpidhdjoaa
