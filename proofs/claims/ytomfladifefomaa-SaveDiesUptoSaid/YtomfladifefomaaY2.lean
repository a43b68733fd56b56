/- hot.head, slices.Equal of bytes, hot.Fetch, hot.Pack. Conditions: as each law states them. -/
import Derived.Test.YtomfladifefomaaY1
namespace Go.Proofs.Ytomfladifefomaa
open Go.RowKit
set_option linter.unusedSimpArgs false
section
variable {P : Program} {E : Env} {σ : St} {o : Oper}
/-- an element that is looked at ahead of a region -/
theorem preview_ok {α : Type} {R : GW → α → List Value → Prop} {kc : Nat} {A : Option Addr} {n c m : Nat} {l : List α} {y : α} {Φ : Act → World → Prop} (hy : l[m]? = some y) (hs : ∀ G : GW, (∀ s ∈ σ.snaps, s.Le G) → ScR R kc G (.slice A n c) l)
    (h : ∀ g o cs G, A = some ⟨g, o, none⟩ → cs.length = kc → R G y cs → (∀ s ∈ σ.snaps, s.Le G) → Ok E ((σ.seen G).view g (o + m * kc) cs) Φ) : Ok E σ Φ := by
  intro a w hr
  obtain ⟨g, o, cs, rfl, hg, hm, hl, hR, hrg, rfl⟩ := (hs ⟨σ.M E, w⟩ hr.snaps).at_ hy
  exact h g o cs ⟨σ.M E, w⟩ rfl hl hR hr.snaps a w ((hr.called (Chg.refl _ _)).addV hg (fun q => hm q) hrg)
/-- a pointer to an element that was looked at -/
theorem elemV_does {t e kc : Nat} {x i : Operand} {g o' n c m id : Nat} {kk : IntKind} {j : Int} (ho : o.op = .indexAddr t x i) (ht : tSlice P t = some e) (hk : tSize P e = some kc)
    (hx : ev σ x = some (.c (.v (.slice (some ⟨g, o', none⟩) n c)))) (hi : ev σ i = some (.c (.v (.int kk j)))) (hd : dOk E o.dst) (hj : j = (m : Int)) (hm : m < n) :
    Does P E σ o (fun σ' => σ' = σ.put o.dst (.c (.q id g (o' + m * kc) 0))) := by
  intro a w Q next hr hn
  have hx' : a.eval x = .slice (some ⟨g, o', none⟩) n c := ev_den hr.see hx
  have hi' : a.eval i = .int kk j := ev_den hr.see hi
  obtain ⟨inf, hinf, hsz⟩ := tSize_spec hk
  have hrun : (execOp a.eval o).run P w = .ok (.value (.pointer (some ⟨g, o' + m * kc, none⟩))) w := by
    unfold execOp
    subst hj
    have hc1 : 0 ≤ (m : Int) ∧ (m : Int) < (n : Int) := ⟨by omega, by omega⟩
    simp only [ho, hx', hi', Instr.indexAt, Sem.run_bind, asIntOf, Sem.run_pure, Result.andThen_ok, run_underlying (tSlice_spec ht), hc1, and_self, if_true, sizeOf, typeInfo, run_program, hinf, hsz, Int.toNat_natCast, Addr.add_mid]
  exact wp_of_value hrun (hn _ _ _ rfl (hr.put o.dst (.c (.q id g (o' + m * kc) 0)) (dOk_lt hd)))
end
def ByteG (_ : GW) (x : UInt8) (cs : List Value) : Prop := cs = [enc8 x]
theorem byteG_mono : MonoR ByteG := fun _ _ _ _ _ h => h
theorem ByG.sq {G : GW} {v : Value} {l : List UInt8} (h : ByG G v l) : Sq ByteG 5 1 G v l := by
  refine ⟨l.map fun x => [enc8 x], ⟨by simp, by simp, fun i cs x h1 h2 => ?_⟩, ?_⟩
  · rw [List.getElem?_map, h2] at h1
    cases h1
    rfl
  · have : (l.map fun x => [enc8 x]).flatten = l.map enc8 := by
      clear h
      induction l with
      | nil => rfl
      | cons a r ih => simp [ih]
    rw [this]
    exact h
def byteOf (n : Int) : UInt8 := UInt8.ofNat (HMod.hMod n 256).toNat
theorem byteOf_enc (n : Int) : Value.int .u8 (HMod.hMod n 256) = enc8 (byteOf n) := by
  have h0 := Int.emod_nonneg n (b := 256) (by omega)
  have h1 := Int.emod_lt_of_pos n (b := 256) (by omega)
  have e2 : ((byteOf n).toNat : Int) = HMod.hMod n 256 := by
    unfold byteOf
    rw [UInt8.toNat_ofNat']
    omega
  unfold enc8
  rw [e2]
theorem byteOf_inj {a b : Int} (h : byteOf a = byteOf b) : HMod.hMod a 256 = HMod.hMod b 256 := by
  have := congrArg enc8 h
  have h0 := Int.emod_nonneg a (b := 256) (by omega)
  have h1 := Int.emod_lt_of_pos a (b := 256) (by omega)
  have h2 := Int.emod_nonneg b (b := 256) (by omega)
  have h3 := Int.emod_lt_of_pos b (b := 256) (by omega)
  have e := congrArg UInt8.toNat h
  unfold byteOf at e
  rw [UInt8.toNat_ofNat', UInt8.toNat_ofNat'] at e
  omega
def headB (id size : Int) : List UInt8 := [byteOf (id / 16777216), byteOf (id / 65536), byteOf (id / 256), byteOf id, byteOf (size / 256), byteOf size]
set_option maxRecDepth 100000 in
set_option maxHeartbeats 4000000 in
theorem head_does {num size : Int} {G0 : GW} (hW : G0.Wf) :
    Calls Try.prog 57 #[.int .i64 num, .int .i64 size] G0.w (Ret G0 fun v G => ∃ A c, v = .slice A 6 c ∧ ByG G (.slice A 6 c) (headB num size)) := by
  refine enter (G := G0) (n := 22) 3000 hW Try.func57 rfl Try.ntmps57 (by simp) ?_
  simp only [go_sem, Nat.reduceAdd, Nat.reduceSub, Nat.reduceMul, Nat.reduceEqDiff, Nat.reduceLT, Nat.reduceLeDiff, Nat.reduceBEq, Nat.reduceBNe, Int.reduceLT, Int.reduceLE, Int.reduceEq, Int.reduceAdd, Int.reduceSub, Int.reduceNeg, reduceCtorEq]
  refine plain_ok (N := 3000) (shr_does (m := 16777216) rfl rfl rfl (by omega) (by omega) (by decide) (by simp only [dOk_some, dOk_none, Nat.reduceLT])) (QOk_body _ _ _) (by first | exact .inl rfl | exact .inr ⟨_, _, rfl, rfl⟩) ?_
  rintro _ rfl
  simp only [go_sem, Nat.reduceAdd, Nat.reduceSub, Nat.reduceMul, Nat.reduceEqDiff, Nat.reduceLT, Nat.reduceLeDiff, Nat.reduceBEq, Nat.reduceBNe, Int.reduceLT, Int.reduceLE, Int.reduceEq, Int.reduceAdd, Int.reduceSub, Int.reduceNeg, reduceCtorEq]
  refine plain_ok (N := 3000) (shr_does (m := 65536) rfl rfl rfl (by omega) (by omega) (by decide) (by simp only [dOk_some, dOk_none, Nat.reduceLT])) (QOk_body _ _ _) (by first | exact .inl rfl | exact .inr ⟨_, _, rfl, rfl⟩) ?_
  rintro _ rfl
  simp only [go_sem, Nat.reduceAdd, Nat.reduceSub, Nat.reduceMul, Nat.reduceEqDiff, Nat.reduceLT, Nat.reduceLeDiff, Nat.reduceBEq, Nat.reduceBNe, Int.reduceLT, Int.reduceLE, Int.reduceEq, Int.reduceAdd, Int.reduceSub, Int.reduceNeg, reduceCtorEq]
  refine plain_ok (N := 3000) (shr_does (m := 256) rfl rfl rfl (by omega) (by omega) (by decide) (by simp only [dOk_some, dOk_none, Nat.reduceLT])) (QOk_body _ _ _) (by first | exact .inl rfl | exact .inr ⟨_, _, rfl, rfl⟩) ?_
  rintro _ rfl
  simp only [go_sem, Nat.reduceAdd, Nat.reduceSub, Nat.reduceMul, Nat.reduceEqDiff, Nat.reduceLT, Nat.reduceLeDiff, Nat.reduceBEq, Nat.reduceBNe, Int.reduceLT, Int.reduceLE, Int.reduceEq, Int.reduceAdd, Int.reduceSub, Int.reduceNeg, reduceCtorEq]
  refine plain_ok (N := 3000) (shr_does (m := 256) rfl rfl rfl (by omega) (by omega) (by decide) (by simp only [dOk_some, dOk_none, Nat.reduceLT])) (QOk_body _ _ _) (by first | exact .inl rfl | exact .inr ⟨_, _, rfl, rfl⟩) ?_
  rintro _ rfl
  simp only [go_sem, Nat.reduceAdd, Nat.reduceSub, Nat.reduceMul, Nat.reduceEqDiff, Nat.reduceLT, Nat.reduceLeDiff, Nat.reduceBEq, Nat.reduceBNe, Int.reduceLT, Int.reduceLE, Int.reduceEq, Int.reduceAdd, Int.reduceSub, Int.reduceNeg, reduceCtorEq]
  intro g1
  refine blkRead_ok (B1 := []) rfl 1 6 6 (Nat.le_refl _) (by unfold maxLen; omega) rfl id fun G1 _ hs1 => ?_
  refine fin_ret (G := G0) Try.results57 ?_
  simp only [go_sem, Nat.reduceAdd, Nat.reduceSub, Nat.reduceMul, Nat.reduceEqDiff, Nat.reduceLT, Nat.reduceLeDiff, Nat.reduceBEq, Nat.reduceBNe, Int.reduceLT, Int.reduceLE, Int.reduceEq, Int.reduceAdd, Int.reduceSub, Int.reduceNeg, reduceCtorEq]
  intro a w' _ hle
  refine ⟨_, 6, rfl, ?_⟩
  have hs2 : Sl G1 5 1 6 (.slice (some ⟨g1, 0, none⟩) 6 6) ((headB num size).map enc8) := by
    have e : (headB num size).map enc8 = [.int .u8 (HMod.hMod (num / 16777216) 256), .int .u8 (HMod.hMod (num / 65536) 256), .int .u8 (HMod.hMod (num / 256) 256), .int .u8 (HMod.hMod num 256), .int .u8 (HMod.hMod (size / 256) 256), .int .u8 (HMod.hMod size 256)] := by
      simp only [byteOf_enc]
      rfl
    rw [e]
    exact hs1
  exact Sl.mono hs2 (hle G1 (by simp))
set_option maxRecDepth 100000 in
set_option maxHeartbeats 4000000 in
theorem equal_does {av bv : Value} {a b : List UInt8} {G0 : GW} (hW : G0.Wf) (ha : ByG G0 av a) (hb : ByG G0 bv b) :
    Calls Try.prog 73 #[av, bv] G0.w (Ret G0 fun v _ => v = .bool (decide (a = b))) := by
  obtain ⟨A, c, rfl, hc1, hc2⟩ := ha.form
  obtain ⟨B, e, rfl, he1, he2⟩ := hb.form
  have hml := max_le
  refine enter (G := G0) (n := 26) 3000 hW Try.func73 rfl Try.ntmps73 (by simp) ?_
  by_cases hll : a.length = b.length
  · have q0 : decide ((a.length : Int) = (b.length : Int)) = true := decide_eq_true (by omega)
    simp only [go_sem, Nat.reduceAdd, Nat.reduceSub, Nat.reduceMul, Nat.reduceEqDiff, Nat.reduceLT, Nat.reduceLeDiff, Nat.reduceBEq, Nat.reduceBNe, Int.reduceLT, Int.reduceLE, Int.reduceEq, Int.reduceAdd, Int.reduceSub, Int.reduceNeg, reduceCtorEq, q0]
    refine loop_ok (N := 3000) (ι := Nat × GW) (fun i => match i with | (v, G) => ⟨[(0, .c (.v (.slice A a.length c))), (1, .c (.v (.slice B b.length e))), (12, .c (.v (.int .i64 (a.length : Int)))), (13, .c (.v (.int .i64 (v : Int))))], [], [], [], [G], 0⟩)
      (fun i => match i with | (v, G) => v ≤ a.length ∧ (ByG G (.slice A a.length c) a ∧ ByG G (.slice B b.length e) b) ∧ ∀ j, j < v → a[j]? = b[j]?)
      (fun i => a.length - i.1) (QOk_body _ _ _) (0, G0) ⟨by omega, ⟨ha, hb⟩, fun j hj => absurd hj (by omega)⟩ (by simp only [go_sem, Nat.reduceAdd, Nat.reduceSub, Nat.reduceMul, Nat.reduceEqDiff, Nat.reduceLT, Nat.reduceLeDiff, Nat.reduceBEq, Nat.reduceBNe, Int.reduceLT, Int.reduceLE, Int.reduceEq, Int.reduceAdd, Int.reduceSub, Int.reduceNeg, reduceCtorEq]; simp) ?_
    clear ha hb
    rintro ⟨v, G1⟩ ⟨hv, ⟨ha, hb⟩, heq⟩
    simp only
    by_cases hlt : v < a.length
    · have q1 : decide ((v : Int) < (a.length : Int)) = true := decide_eq_true (by omega)
      obtain ⟨x, hx⟩ : ∃ x, a[v]? = some x := ⟨_, List.getElem?_eq_getElem hlt⟩
      obtain ⟨y, hy⟩ : ∃ y, b[v]? = some y := ⟨_, List.getElem?_eq_getElem (by omega)⟩
      simp only [go_sem, Nat.reduceAdd, Nat.reduceSub, Nat.reduceMul, Nat.reduceEqDiff, Nat.reduceLT, Nat.reduceLeDiff, Nat.reduceBEq, Nat.reduceBNe, Int.reduceLT, Int.reduceLE, Int.reduceEq, Int.reduceAdd, Int.reduceSub, Int.reduceNeg, reduceCtorEq, q1]
      refine preview_ok (R := ByteG) (kc := 1) hx (fun G hG => (ha.mono (hG G1 (by simp))).sq.sc) fun g2 o2 cs2 G2 hA _ hc hle2 => ?_
      subst hA
      obtain rfl := hc
      have hl12 : G1.Le G2 := hle2 G1 (by simp)
      clear hle2
      simp only [go_sem, Nat.reduceAdd, Nat.reduceSub, Nat.reduceMul, Nat.reduceEqDiff, Nat.reduceLT, Nat.reduceLeDiff, Nat.reduceBEq, Nat.reduceBNe, Int.reduceLT, Int.reduceLE, Int.reduceEq, Int.reduceAdd, Int.reduceSub, Int.reduceNeg, reduceCtorEq]
      refine preview_ok (R := ByteG) (kc := 1) hy (fun G hG => (hb.mono (hG G1 (by simp))).sq.sc) fun g3 o3 cs3 G3 hB _ hc hle3 => ?_
      subst hB
      obtain rfl := hc
      clear hle3
      simp only [go_sem, Nat.reduceAdd, Nat.reduceSub, Nat.reduceMul, Nat.reduceEqDiff, Nat.reduceLT, Nat.reduceLeDiff, Nat.reduceBEq, Nat.reduceBNe, Int.reduceLT, Int.reduceLE, Int.reduceEq, Int.reduceAdd, Int.reduceSub, Int.reduceNeg, reduceCtorEq]
      refine draw_ok (N := 3000) (.take 0 (.take 1 (.take 4 (.take 5 (.alt 2 (.take 3 (.alt 6 (.take 7 (.take 8 .done)) .last)) (.alt 6 (.take 7 (.alt 2 (.take 3 (.take 8 .done)) .last)) .last)))))) [] (QOk_body _ _ _) follows_mixed (by kernel_rfl) (by kernel_rfl) ?_
      simp only [go_sem, Nat.reduceAdd, Nat.reduceSub, Nat.reduceMul, Nat.reduceEqDiff, Nat.reduceLT, Nat.reduceLeDiff, Nat.reduceBEq, Nat.reduceBNe, Int.reduceLT, Int.reduceLE, Int.reduceEq, Int.reduceAdd, Int.reduceSub, Int.reduceNeg, reduceCtorEq]
      by_cases exy : x = y
      · have q : decide ((x.toNat : Int) = (y.toNat : Int)) = true := decide_eq_true (by rw [exy])
        refine ⟨?_, ?_⟩
        · refine any_ok2 (N := 3000) (elemV_does (id := 0) (m := v) rfl tySlice23 tySize5 rfl rfl (by simp only [dOk_some, dOk_none, Nat.reduceLT]) rfl (by omega)) (QOk_body _ _ _) rfl (by first | exact .inl rfl | exact .inr ⟨_, _, rfl, rfl⟩) (by intro _ hK; first | (obtain ⟨_, _, _, _, rfl⟩ := hK; exact ⟨rfl, fun _ h => h⟩) | (obtain ⟨_, _, rfl⟩ := hK; exact ⟨rfl, fun _ h => h⟩) | (obtain ⟨_, _, _, _, _, _, rfl⟩ := hK; exact ⟨rfl, fun _ h => List.mem_cons_of_mem _ h⟩) | (obtain ⟨_, _, _, _, _, _, _, rfl⟩ := hK; exact ⟨rfl, fun _ h => List.mem_cons_of_mem _ h⟩) | (obtain rfl := hK; exact ⟨rfl, fun _ h => h⟩)) ?_
          rintro _ rfl
          simp only [go_sem, Nat.reduceAdd, Nat.reduceSub, Nat.reduceMul, Nat.reduceEqDiff, Nat.reduceLT, Nat.reduceLeDiff, Nat.reduceBEq, Nat.reduceBNe, Int.reduceLT, Int.reduceLE, Int.reduceEq, Int.reduceAdd, Int.reduceSub, Int.reduceNeg, reduceCtorEq, enc8, q]
          refine any_ok2 (N := 3000) (elemV_does (id := 1) (m := v) rfl tySlice23 tySize5 rfl rfl (by simp only [dOk_some, dOk_none, Nat.reduceLT]) rfl (by omega)) (QOk_body _ _ _) rfl (by first | exact .inl rfl | exact .inr ⟨_, _, rfl, rfl⟩) (by intro _ hK; first | (obtain ⟨_, _, _, _, rfl⟩ := hK; exact ⟨rfl, fun _ h => h⟩) | (obtain ⟨_, _, rfl⟩ := hK; exact ⟨rfl, fun _ h => h⟩) | (obtain ⟨_, _, _, _, _, _, rfl⟩ := hK; exact ⟨rfl, fun _ h => List.mem_cons_of_mem _ h⟩) | (obtain ⟨_, _, _, _, _, _, _, rfl⟩ := hK; exact ⟨rfl, fun _ h => List.mem_cons_of_mem _ h⟩) | (obtain rfl := hK; exact ⟨rfl, fun _ h => h⟩)) ?_
          rintro _ rfl
          simp only [go_sem, Nat.reduceAdd, Nat.reduceSub, Nat.reduceMul, Nat.reduceEqDiff, Nat.reduceLT, Nat.reduceLeDiff, Nat.reduceBEq, Nat.reduceBNe, Int.reduceLT, Int.reduceLE, Int.reduceEq, Int.reduceAdd, Int.reduceSub, Int.reduceNeg, reduceCtorEq, enc8, q]
          exact ⟨by omega, again_ok (v + 1, G1) ⟨by omega, ⟨ha, hb⟩, fun j hj => by
            rcases Nat.lt_or_ge j v with r | r
            · exact heq j r
            · have : j = v := by omega
              subst this
              rw [hx, hy, exy]⟩ (by simp only; omega) (by simp only [go_sem, Nat.reduceAdd, Nat.reduceSub, Nat.reduceMul, Nat.reduceEqDiff, Nat.reduceLT, Nat.reduceLeDiff, Nat.reduceBEq, Nat.reduceBNe, Int.reduceLT, Int.reduceLE, Int.reduceEq, Int.reduceAdd, Int.reduceSub, Int.reduceNeg, reduceCtorEq]; simp)⟩
        · refine any_ok2 (N := 3000) (elemV_does (id := 1) (m := v) rfl tySlice23 tySize5 rfl rfl (by simp only [dOk_some, dOk_none, Nat.reduceLT]) rfl (by omega)) (QOk_body _ _ _) rfl (by first | exact .inl rfl | exact .inr ⟨_, _, rfl, rfl⟩) (by intro _ hK; first | (obtain ⟨_, _, _, _, rfl⟩ := hK; exact ⟨rfl, fun _ h => h⟩) | (obtain ⟨_, _, rfl⟩ := hK; exact ⟨rfl, fun _ h => h⟩) | (obtain ⟨_, _, _, _, _, _, rfl⟩ := hK; exact ⟨rfl, fun _ h => List.mem_cons_of_mem _ h⟩) | (obtain ⟨_, _, _, _, _, _, _, rfl⟩ := hK; exact ⟨rfl, fun _ h => List.mem_cons_of_mem _ h⟩) | (obtain rfl := hK; exact ⟨rfl, fun _ h => h⟩)) ?_
          rintro _ rfl
          simp only [go_sem, Nat.reduceAdd, Nat.reduceSub, Nat.reduceMul, Nat.reduceEqDiff, Nat.reduceLT, Nat.reduceLeDiff, Nat.reduceBEq, Nat.reduceBNe, Int.reduceLT, Int.reduceLE, Int.reduceEq, Int.reduceAdd, Int.reduceSub, Int.reduceNeg, reduceCtorEq, enc8, q]
          refine any_ok2 (N := 3000) (elemV_does (id := 0) (m := v) rfl tySlice23 tySize5 rfl rfl (by simp only [dOk_some, dOk_none, Nat.reduceLT]) rfl (by omega)) (QOk_body _ _ _) rfl (by first | exact .inl rfl | exact .inr ⟨_, _, rfl, rfl⟩) (by intro _ hK; first | (obtain ⟨_, _, _, _, rfl⟩ := hK; exact ⟨rfl, fun _ h => h⟩) | (obtain ⟨_, _, rfl⟩ := hK; exact ⟨rfl, fun _ h => h⟩) | (obtain ⟨_, _, _, _, _, _, rfl⟩ := hK; exact ⟨rfl, fun _ h => List.mem_cons_of_mem _ h⟩) | (obtain ⟨_, _, _, _, _, _, _, rfl⟩ := hK; exact ⟨rfl, fun _ h => List.mem_cons_of_mem _ h⟩) | (obtain rfl := hK; exact ⟨rfl, fun _ h => h⟩)) ?_
          rintro _ rfl
          simp only [go_sem, Nat.reduceAdd, Nat.reduceSub, Nat.reduceMul, Nat.reduceEqDiff, Nat.reduceLT, Nat.reduceLeDiff, Nat.reduceBEq, Nat.reduceBNe, Int.reduceLT, Int.reduceLE, Int.reduceEq, Int.reduceAdd, Int.reduceSub, Int.reduceNeg, reduceCtorEq, enc8, q]
          exact ⟨by omega, again_ok (v + 1, G1) ⟨by omega, ⟨ha, hb⟩, fun j hj => by
            rcases Nat.lt_or_ge j v with r | r
            · exact heq j r
            · have : j = v := by omega
              subst this
              rw [hx, hy, exy]⟩ (by simp only; omega) (by simp only [go_sem, Nat.reduceAdd, Nat.reduceSub, Nat.reduceMul, Nat.reduceEqDiff, Nat.reduceLT, Nat.reduceLeDiff, Nat.reduceBEq, Nat.reduceBNe, Int.reduceLT, Int.reduceLE, Int.reduceEq, Int.reduceAdd, Int.reduceSub, Int.reduceNeg, reduceCtorEq]; simp)⟩
      · have q : decide ((x.toNat : Int) = (y.toNat : Int)) = false := decide_eq_false (fun h => exy (UInt8.toNat_inj.1 (by omega)))
        have hres : decide (a = b) = false := decide_eq_false (fun h => by subst h; rw [hx] at hy; exact exy (Option.some.inj hy))
        refine ⟨?_, ?_⟩
        · refine any_ok2 (N := 3000) (elemV_does (id := 0) (m := v) rfl tySlice23 tySize5 rfl rfl (by simp only [dOk_some, dOk_none, Nat.reduceLT]) rfl (by omega)) (QOk_body _ _ _) rfl (by first | exact .inl rfl | exact .inr ⟨_, _, rfl, rfl⟩) (by intro _ hK; first | (obtain ⟨_, _, _, _, rfl⟩ := hK; exact ⟨rfl, fun _ h => h⟩) | (obtain ⟨_, _, rfl⟩ := hK; exact ⟨rfl, fun _ h => h⟩) | (obtain ⟨_, _, _, _, _, _, rfl⟩ := hK; exact ⟨rfl, fun _ h => List.mem_cons_of_mem _ h⟩) | (obtain ⟨_, _, _, _, _, _, _, rfl⟩ := hK; exact ⟨rfl, fun _ h => List.mem_cons_of_mem _ h⟩) | (obtain rfl := hK; exact ⟨rfl, fun _ h => h⟩)) ?_
          rintro _ rfl
          simp only [go_sem, Nat.reduceAdd, Nat.reduceSub, Nat.reduceMul, Nat.reduceEqDiff, Nat.reduceLT, Nat.reduceLeDiff, Nat.reduceBEq, Nat.reduceBNe, Int.reduceLT, Int.reduceLE, Int.reduceEq, Int.reduceAdd, Int.reduceSub, Int.reduceNeg, reduceCtorEq, enc8, q]
          refine any_ok2 (N := 3000) (elemV_does (id := 1) (m := v) rfl tySlice23 tySize5 rfl rfl (by simp only [dOk_some, dOk_none, Nat.reduceLT]) rfl (by omega)) (QOk_body _ _ _) rfl (by first | exact .inl rfl | exact .inr ⟨_, _, rfl, rfl⟩) (by intro _ hK; first | (obtain ⟨_, _, _, _, rfl⟩ := hK; exact ⟨rfl, fun _ h => h⟩) | (obtain ⟨_, _, rfl⟩ := hK; exact ⟨rfl, fun _ h => h⟩) | (obtain ⟨_, _, _, _, _, _, rfl⟩ := hK; exact ⟨rfl, fun _ h => List.mem_cons_of_mem _ h⟩) | (obtain ⟨_, _, _, _, _, _, _, rfl⟩ := hK; exact ⟨rfl, fun _ h => List.mem_cons_of_mem _ h⟩) | (obtain rfl := hK; exact ⟨rfl, fun _ h => h⟩)) ?_
          rintro _ rfl
          simp only [go_sem, Nat.reduceAdd, Nat.reduceSub, Nat.reduceMul, Nat.reduceEqDiff, Nat.reduceLT, Nat.reduceLeDiff, Nat.reduceBEq, Nat.reduceBNe, Int.reduceLT, Int.reduceLE, Int.reduceEq, Int.reduceAdd, Int.reduceSub, Int.reduceNeg, reduceCtorEq, enc8, q]
          refine fin_ret (G := G0) Try.results73 ?_
          simp only [go_sem, Nat.reduceAdd, Nat.reduceSub, Nat.reduceMul, Nat.reduceEqDiff, Nat.reduceLT, Nat.reduceLeDiff, Nat.reduceBEq, Nat.reduceBNe, Int.reduceLT, Int.reduceLE, Int.reduceEq, Int.reduceAdd, Int.reduceSub, Int.reduceNeg, reduceCtorEq]
          intro a w' _ _
          rw [hres]
          rfl
        · refine any_ok2 (N := 3000) (elemV_does (id := 1) (m := v) rfl tySlice23 tySize5 rfl rfl (by simp only [dOk_some, dOk_none, Nat.reduceLT]) rfl (by omega)) (QOk_body _ _ _) rfl (by first | exact .inl rfl | exact .inr ⟨_, _, rfl, rfl⟩) (by intro _ hK; first | (obtain ⟨_, _, _, _, rfl⟩ := hK; exact ⟨rfl, fun _ h => h⟩) | (obtain ⟨_, _, rfl⟩ := hK; exact ⟨rfl, fun _ h => h⟩) | (obtain ⟨_, _, _, _, _, _, rfl⟩ := hK; exact ⟨rfl, fun _ h => List.mem_cons_of_mem _ h⟩) | (obtain ⟨_, _, _, _, _, _, _, rfl⟩ := hK; exact ⟨rfl, fun _ h => List.mem_cons_of_mem _ h⟩) | (obtain rfl := hK; exact ⟨rfl, fun _ h => h⟩)) ?_
          rintro _ rfl
          simp only [go_sem, Nat.reduceAdd, Nat.reduceSub, Nat.reduceMul, Nat.reduceEqDiff, Nat.reduceLT, Nat.reduceLeDiff, Nat.reduceBEq, Nat.reduceBNe, Int.reduceLT, Int.reduceLE, Int.reduceEq, Int.reduceAdd, Int.reduceSub, Int.reduceNeg, reduceCtorEq, enc8, q]
          refine any_ok2 (N := 3000) (elemV_does (id := 0) (m := v) rfl tySlice23 tySize5 rfl rfl (by simp only [dOk_some, dOk_none, Nat.reduceLT]) rfl (by omega)) (QOk_body _ _ _) rfl (by first | exact .inl rfl | exact .inr ⟨_, _, rfl, rfl⟩) (by intro _ hK; first | (obtain ⟨_, _, _, _, rfl⟩ := hK; exact ⟨rfl, fun _ h => h⟩) | (obtain ⟨_, _, rfl⟩ := hK; exact ⟨rfl, fun _ h => h⟩) | (obtain ⟨_, _, _, _, _, _, rfl⟩ := hK; exact ⟨rfl, fun _ h => List.mem_cons_of_mem _ h⟩) | (obtain ⟨_, _, _, _, _, _, _, rfl⟩ := hK; exact ⟨rfl, fun _ h => List.mem_cons_of_mem _ h⟩) | (obtain rfl := hK; exact ⟨rfl, fun _ h => h⟩)) ?_
          rintro _ rfl
          simp only [go_sem, Nat.reduceAdd, Nat.reduceSub, Nat.reduceMul, Nat.reduceEqDiff, Nat.reduceLT, Nat.reduceLeDiff, Nat.reduceBEq, Nat.reduceBNe, Int.reduceLT, Int.reduceLE, Int.reduceEq, Int.reduceAdd, Int.reduceSub, Int.reduceNeg, reduceCtorEq, enc8, q]
          refine fin_ret (G := G0) Try.results73 ?_
          simp only [go_sem, Nat.reduceAdd, Nat.reduceSub, Nat.reduceMul, Nat.reduceEqDiff, Nat.reduceLT, Nat.reduceLeDiff, Nat.reduceBEq, Nat.reduceBNe, Int.reduceLT, Int.reduceLE, Int.reduceEq, Int.reduceAdd, Int.reduceSub, Int.reduceNeg, reduceCtorEq]
          intro a w' _ _
          rw [hres]
          rfl
    · have q1 : decide ((v : Int) < (a.length : Int)) = false := decide_eq_false (by omega)
      obtain rfl : v = a.length := by omega
      simp only [go_sem, Nat.reduceAdd, Nat.reduceSub, Nat.reduceMul, Nat.reduceEqDiff, Nat.reduceLT, Nat.reduceLeDiff, Nat.reduceBEq, Nat.reduceBNe, Int.reduceLT, Int.reduceLE, Int.reduceEq, Int.reduceAdd, Int.reduceSub, Int.reduceNeg, reduceCtorEq, q1]
      have hres : decide (a = b) = true := decide_eq_true (List.ext_getElem? fun j => by
        rcases Nat.lt_or_ge j a.length with r | r
        · exact heq j r
        · rw [List.getElem?_eq_none r, List.getElem?_eq_none (by omega)])
      refine fin_ret (G := G0) Try.results73 ?_
      simp only [go_sem, Nat.reduceAdd, Nat.reduceSub, Nat.reduceMul, Nat.reduceEqDiff, Nat.reduceLT, Nat.reduceLeDiff, Nat.reduceBEq, Nat.reduceBNe, Int.reduceLT, Int.reduceLE, Int.reduceEq, Int.reduceAdd, Int.reduceSub, Int.reduceNeg, reduceCtorEq]
      intro a w' _ _
      rw [hres]
      rfl
  · have q0 : decide ((a.length : Int) = (b.length : Int)) = false := decide_eq_false (by omega)
    simp only [go_sem, Nat.reduceAdd, Nat.reduceSub, Nat.reduceMul, Nat.reduceEqDiff, Nat.reduceLT, Nat.reduceLeDiff, Nat.reduceBEq, Nat.reduceBNe, Int.reduceLT, Int.reduceLE, Int.reduceEq, Int.reduceAdd, Int.reduceSub, Int.reduceNeg, reduceCtorEq, q0]
    have hres : decide (a = b) = false := decide_eq_false (fun h => hll (congrArg List.length h))
    refine fin_ret (G := G0) Try.results73 ?_
    simp only [go_sem, Nat.reduceAdd, Nat.reduceSub, Nat.reduceMul, Nat.reduceEqDiff, Nat.reduceLT, Nat.reduceLeDiff, Nat.reduceBEq, Nat.reduceBNe, Int.reduceLT, Int.reduceLE, Int.reduceEq, Int.reduceAdd, Int.reduceSub, Int.reduceNeg, reduceCtorEq]
    intro a w' _ _
    rw [hres]
    rfl
end Go.Proofs.Ytomfladifefomaa
