/- HotBad: a list of lists, whose parts are made in whatever order. Conditions: as each law states them. -/
import Derived.Test.YtomfladifefomaaD1
import Derived.Test.YtomfladifefomaaC3
namespace Go.Proofs.Ytomfladifefomaa
open Go.RowKit
set_option linter.unusedSimpArgs false
set_option linter.unusedVariables false
set_option linter.unusedSectionVars false
def orO {α : Type} : Option α → Option α → Option α
  | some x, _ => some x
  | none, y => y
/-- the operations of a region, looked up in a function's body -/
def opsAt (id : Nat) : Code → Option (Array Oper)
  | .region r ops _ => cond (r == id) (some ops) none
  | .seq a b => orO (opsAt id a) (opsAt id b)
  | _ => none
set_option maxRecDepth 100000 in
def hbO : { a : Array Oper // Try.f11.body.bind (opsAt 3) = some a } := by
  apply Subtype.mk
  simp only [Try.f11, Option.bind_some, opsAt, orO, Nat.reduceBEq, cond_true, cond_false]
  exact rfl
def hbOps : Array Oper := hbO.1
def lst (l : List Nat) : Array Bool := l.foldl (fun a i => a.setIfInBounds i true) (Array.replicate 18 false)
def bb (gg gd : Nat) (dc : List SC) : List Bl := [⟨1, gd, 37, dc⟩, ⟨0, gg, 32, [.v (.int .i64 6), .v (.int .i64 2), .v (.int .i64 6), .v (.int .i64 300), .v (.int .i64 3)]⟩]
def st (wh n : Int) (gg gd : Nat) (dc : List SC) (w : World) (G2 : GW) (T : List (Nat × SV)) (B : List Bl) : St :=
  ⟨T ++ [(0, .c (.v (.int .i64 wh))), (7, .c (.v (.int .i64 0))), (1, .c (.v (.int .i64 n))), (5, .c (.p 0 gg 0)), (6, .c (.p 1 gd 0)), (24, .c (.v (.int .i64 6))), (26, .c (.v (.int .i64 n))), (34, .c (.v (.int .i64 6))), (35, .c (.v (.int .i64 n)))],
    B ++ [⟨1, gd, 37, dc⟩, ⟨0, gg, 32, [.v (.int .i64 6), .v (.int .i64 2), .v (.int .i64 6), .v (.int .i64 300), .v (.int .i64 3)]⟩], [], [], [G2, ⟨Non, w⟩], 2⟩
theorem bb_mem {wh n : Int} {gg gd : Nat} {dc : List SC} {w : World} {G2 : GW} {T : List (Nat × SV)} (B : List Bl) : ∀ b ∈ bb gg gd dc, b ∈ (st wh n gg gd dc w G2 T B).blks := fun _ hb => List.mem_append_right _ hb
theorem pick9 {n kk : Int} (hn : i64 n) (hkk : kk = pick n 9) (G : GW) : Calls Try.prog 25 #[.int .i64 n, .int .i64 9] G.w (Ret G fun v _ => v = .int .i64 kk) :=
  ret_mono (picked_does hn.1 hn.2 (by omega) (by omega)) fun v G' _ h => by
    obtain ⟨k, hk, _, e⟩ := h
    rw [e, hkk, hk]
section
variable {w : World} {k' : Cont} {J : Act → World → Prop} {wh n kk : Int} {gg gd : Nat} {dc : List SC} {G2 : GW}
set_option maxRecDepth 100000
set_option maxHeartbeats 4000000
variable (hk' : k'.ok) (hn : i64 n) (hkk : kk = pick n 9) (h0 : 0 ≤ kk) (h9 : kk < 9)
  (hJ : ∀ (g2 g6 g7 g8 g9 g15 g16 : Nat) (τ : St), Sub τ (st wh n gg gd dc w G2 [(8, .c (.s 16 g16 0 6 6))] [⟨10, g2, 3, [.v (.int .i64 6)]⟩, ⟨11, g6, 3, [.v (.int .i64 (-1 - kk))]⟩, ⟨12, g7, 3, [.v (.int .i64 0), .v (.int .i64 0)]⟩, ⟨13, g8, 3, [.v (.int .i64 1), .v (.int .i64 2)]⟩, ⟨14, g9, 3, []⟩, ⟨15, g15, 3, [.v (.int .i64 (6 + kk))]⟩, ⟨16, g16, 28, [.s 10 g2 0 1 1, .s 11 g6 0 1 1, .s 12 g7 0 2 2, .s 13 g8 0 2 2, .s 14 g9 0 0 0, .s 15 g15 0 1 1]⟩]) → Ok ⟨w, Non, Non, 94⟩ τ J)
include hk' hn hkk h0 h9 hJ
theorem hb_01234567 (g2 : Nat) (g6 : Nat) (g7 : Nat) (g8 : Nat) (g9 : Nat) (g15 : Nat) : Ok ⟨w, Non, Non, 94⟩ (st wh n gg gd dc w G2 [(25, .c (.s 10 g2 0 1 1)), (29, .c (.s 11 g6 0 1 1)), (30, .c (.s 12 g7 0 2 2)), (31, .c (.s 13 g8 0 2 2)), (32, .c (.s 14 g9 0 0 0)), (38, .c (.s 15 g15 0 1 1))] [⟨10, g2, 3, [.v (.int .i64 6)]⟩, ⟨11, g6, 3, [.v (.int .i64 (-1 - kk))]⟩, ⟨12, g7, 3, [.v (.int .i64 0), .v (.int .i64 0)]⟩, ⟨13, g8, 3, [.v (.int .i64 1), .v (.int .i64 2)]⟩, ⟨14, g9, 3, []⟩, ⟨15, g15, 3, [.v (.int .i64 (6 + kk))]⟩]) (sem Try.prog (.inv J k') (.any hbOps (bb gg gd dc) [] 2 (lst [0, 1, 2, 3, 4, 5, 6, 7, 8, 9, 10, 11, 12, 13, 14, 15]) .last)) := by
  refine any_step (i := 16) (p := .last) (r := .last) hk' (by kernel_rfl) (by kernel_rfl) (bb_mem _) (fun _ h => (by cases h)) ?_
  refine alts_step' (p := (.take 17 .done)) 16 3 hk' (by kernel_rfl) (by kernel_rfl) (bb_mem _) (fun _ h => (by cases h)) ?_ ?_
  · simp only [go_sem, simprocAttr, hbOps, hbO, st, bb, List.cons_append, List.nil_append]
    intro g16
    exact hJ g2 g6 g7 g8 g9 g15 g16 _ (by simp only [go_sem, simprocAttr, st, List.cons_append, List.nil_append]; simp)
  exact alts_last
theorem hb_0123456 (g2 : Nat) (g6 : Nat) (g7 : Nat) (g8 : Nat) (g9 : Nat) : Ok ⟨w, Non, Non, 94⟩ (st wh n gg gd dc w G2 [(25, .c (.s 10 g2 0 1 1)), (29, .c (.s 11 g6 0 1 1)), (30, .c (.s 12 g7 0 2 2)), (31, .c (.s 13 g8 0 2 2)), (32, .c (.s 14 g9 0 0 0)), (37, .c (.v (.int .i64 (6 + kk))))] [⟨10, g2, 3, [.v (.int .i64 6)]⟩, ⟨11, g6, 3, [.v (.int .i64 (-1 - kk))]⟩, ⟨12, g7, 3, [.v (.int .i64 0), .v (.int .i64 0)]⟩, ⟨13, g8, 3, [.v (.int .i64 1), .v (.int .i64 2)]⟩, ⟨14, g9, 3, []⟩]) (sem Try.prog (.inv J k') (.any hbOps (bb gg gd dc) [] 3 (lst [0, 1, 2, 3, 4, 5, 6, 7, 8, 9, 10, 11, 12, 13, 14]) .last)) := by
  refine any_step (i := 15) (p := .last) (r := .last) hk' (by kernel_rfl) (by kernel_rfl) (bb_mem _) (fun _ h => (by cases h)) ?_
  refine alts_step' (p := .last) 15 0 hk' (by kernel_rfl) (by kernel_rfl) (bb_mem _) (fun _ h => (by cases h)) ?_ ?_
  · simp only [go_sem, simprocAttr, hbOps, hbO, st, bb, List.cons_append, List.nil_append]
    intro g15
    exact any_sub' (hb_01234567 hk' hn hkk h0 h9 hJ g2 g6 g7 g8 g9 g15) (by kernel_rfl) (by simp only [go_sem, simprocAttr, st, List.cons_append, List.nil_append]; simp)
  exact alts_last
theorem hb_012345 (g2 : Nat) (g6 : Nat) (g7 : Nat) (g8 : Nat) (g9 : Nat) : Ok ⟨w, Non, Non, 94⟩ (st wh n gg gd dc w G2 [(25, .c (.s 10 g2 0 1 1)), (29, .c (.s 11 g6 0 1 1)), (30, .c (.s 12 g7 0 2 2)), (31, .c (.s 13 g8 0 2 2)), (32, .c (.s 14 g9 0 0 0))] [⟨10, g2, 3, [.v (.int .i64 6)]⟩, ⟨11, g6, 3, [.v (.int .i64 (-1 - kk))]⟩, ⟨12, g7, 3, [.v (.int .i64 0), .v (.int .i64 0)]⟩, ⟨13, g8, 3, [.v (.int .i64 1), .v (.int .i64 2)]⟩, ⟨14, g9, 3, []⟩]) (sem Try.prog (.inv J k') (.any hbOps (bb gg gd dc) [] 5 (lst [0, 1, 2, 3, 4, 5, 6, 7, 8, 9, 10, 11, 12]) .last)) := by
  refine any_step (i := 13) (p := .last) (r := .last) hk' (by kernel_rfl) (by kernel_rfl) (bb_mem _) (fun _ h => (by cases h)) ?_
  refine alts_step' (p := (.take 14 .last)) 9 1 hk' (by kernel_rfl) (by kernel_rfl) (bb_mem _) (fun _ h => (by cases h)) ?_ ?_
  · simp only [go_sem, simprocAttr, hbOps, hbO, st, bb, List.cons_append, List.nil_append]
    refine any_ok2 (N := 1) (call_does (fun v _ => v = .int .i64 kk) rfl rfl (by kernel_rfl) rfl (by simp only [dOk_some, dOk_none, Nat.reduceLT]) (fun G hG => pick9 hn hkk G)) hk' rfl (by first | exact .inl rfl | exact .inr ⟨_, _, rfl, rfl⟩) (by intro _ hK; obtain ⟨_, _, _, _, rfl⟩ := hK; exact ⟨rfl, fun _ h => h⟩) ?_
    rintro _ ⟨_, G7, rfl, hn7, rfl⟩
    clear hn7
    simp only [go_sem, simprocAttr, decide_true, decide_false, Bool.not_true, Bool.not_false, cond_true, cond_false, beq_self_eq_true, and_self, ne_eq, not_true_eq_false, not_false_eq_true, reduceCtorEq, Bool.true_beq, Bool.false_beq]
    refine ⟨by omega, ?_⟩
    exact any_sub' (hb_0123456 hk' hn hkk h0 h9 hJ g2 g6 g7 g8 g9) (by kernel_rfl) (by simp only [go_sem, simprocAttr, st, List.cons_append, List.nil_append]; simp)
  exact alts_last
theorem hb_0123467 (g2 : Nat) (g6 : Nat) (g7 : Nat) (g8 : Nat) (g15 : Nat) : Ok ⟨w, Non, Non, 94⟩ (st wh n gg gd dc w G2 [(25, .c (.s 10 g2 0 1 1)), (29, .c (.s 11 g6 0 1 1)), (30, .c (.s 12 g7 0 2 2)), (31, .c (.s 13 g8 0 2 2)), (38, .c (.s 15 g15 0 1 1))] [⟨10, g2, 3, [.v (.int .i64 6)]⟩, ⟨11, g6, 3, [.v (.int .i64 (-1 - kk))]⟩, ⟨12, g7, 3, [.v (.int .i64 0), .v (.int .i64 0)]⟩, ⟨13, g8, 3, [.v (.int .i64 1), .v (.int .i64 2)]⟩, ⟨15, g15, 3, [.v (.int .i64 (6 + kk))]⟩]) (sem Try.prog (.inv J k') (.any hbOps (bb gg gd dc) [] 3 (lst [0, 1, 2, 3, 4, 5, 6, 7, 8, 10, 11, 12, 13, 14, 15]) .last)) := by
  refine any_step (i := 9) (p := .last) (r := .last) hk' (by kernel_rfl) (by kernel_rfl) (bb_mem _) (fun _ h => (by cases h)) ?_
  refine alts_step' (p := .last) 14 0 hk' (by kernel_rfl) (by kernel_rfl) (bb_mem _) (fun _ h => (by cases h)) ?_ ?_
  · simp only [go_sem, simprocAttr, hbOps, hbO, st, bb, List.cons_append, List.nil_append]
    intro g9
    exact any_sub' (hb_01234567 hk' hn hkk h0 h9 hJ g2 g6 g7 g8 g9 g15) (by kernel_rfl) (by simp only [go_sem, simprocAttr, st, List.cons_append, List.nil_append]; simp)
  exact alts_last
theorem hb_012346 (g2 : Nat) (g6 : Nat) (g7 : Nat) (g8 : Nat) : Ok ⟨w, Non, Non, 94⟩ (st wh n gg gd dc w G2 [(25, .c (.s 10 g2 0 1 1)), (29, .c (.s 11 g6 0 1 1)), (30, .c (.s 12 g7 0 2 2)), (31, .c (.s 13 g8 0 2 2)), (37, .c (.v (.int .i64 (6 + kk))))] [⟨10, g2, 3, [.v (.int .i64 6)]⟩, ⟨11, g6, 3, [.v (.int .i64 (-1 - kk))]⟩, ⟨12, g7, 3, [.v (.int .i64 0), .v (.int .i64 0)]⟩, ⟨13, g8, 3, [.v (.int .i64 1), .v (.int .i64 2)]⟩]) (sem Try.prog (.inv J k') (.any hbOps (bb gg gd dc) [] 4 (lst [0, 1, 2, 3, 4, 5, 6, 7, 8, 10, 11, 12, 13, 14]) .last)) := by
  refine any_step (i := 9) (p := .last) (r := (.alt 15 .last .last)) hk' (by kernel_rfl) (by kernel_rfl) (bb_mem _) (fun _ h => (by cases h)) ?_
  refine alts_step' (p := .last) 14 0 hk' (by kernel_rfl) (by kernel_rfl) (bb_mem _) (fun _ h => (by cases h)) ?_ ?_
  · simp only [go_sem, simprocAttr, hbOps, hbO, st, bb, List.cons_append, List.nil_append]
    intro g9
    exact any_sub' (hb_0123456 hk' hn hkk h0 h9 hJ g2 g6 g7 g8 g9) (by kernel_rfl) (by simp only [go_sem, simprocAttr, st, List.cons_append, List.nil_append]; simp)
  refine alts_step' (p := .last) 15 0 hk' (by kernel_rfl) (by kernel_rfl) (bb_mem _) (fun _ h => (by cases h)) ?_ ?_
  · simp only [go_sem, simprocAttr, hbOps, hbO, st, bb, List.cons_append, List.nil_append]
    intro g15
    exact any_sub' (hb_0123467 hk' hn hkk h0 h9 hJ g2 g6 g7 g8 g15) (by kernel_rfl) (by simp only [go_sem, simprocAttr, st, List.cons_append, List.nil_append]; simp)
  exact alts_last
theorem hb_01234 (g2 : Nat) (g6 : Nat) (g7 : Nat) (g8 : Nat) : Ok ⟨w, Non, Non, 94⟩ (st wh n gg gd dc w G2 [(25, .c (.s 10 g2 0 1 1)), (29, .c (.s 11 g6 0 1 1)), (30, .c (.s 12 g7 0 2 2)), (31, .c (.s 13 g8 0 2 2))] [⟨10, g2, 3, [.v (.int .i64 6)]⟩, ⟨11, g6, 3, [.v (.int .i64 (-1 - kk))]⟩, ⟨12, g7, 3, [.v (.int .i64 0), .v (.int .i64 0)]⟩, ⟨13, g8, 3, [.v (.int .i64 1), .v (.int .i64 2)]⟩]) (sem Try.prog (.inv J k') (.any hbOps (bb gg gd dc) [] 6 (lst [0, 1, 2, 3, 4, 5, 6, 7, 8, 10, 11, 12]) .last)) := by
  refine any_step (i := 9) (p := .last) (r := (.alt 13 .last .last)) hk' (by kernel_rfl) (by kernel_rfl) (bb_mem _) (fun _ h => (by cases h)) ?_
  refine alts_step' (p := .last) 14 0 hk' (by kernel_rfl) (by kernel_rfl) (bb_mem _) (fun _ h => (by cases h)) ?_ ?_
  · simp only [go_sem, simprocAttr, hbOps, hbO, st, bb, List.cons_append, List.nil_append]
    intro g9
    exact any_sub' (hb_012345 hk' hn hkk h0 h9 hJ g2 g6 g7 g8 g9) (by kernel_rfl) (by simp only [go_sem, simprocAttr, st, List.cons_append, List.nil_append]; simp)
  refine alts_step' (p := (.take 14 .last)) 9 1 hk' (by kernel_rfl) (by kernel_rfl) (bb_mem _) (fun _ h => (by cases h)) ?_ ?_
  · simp only [go_sem, simprocAttr, hbOps, hbO, st, bb, List.cons_append, List.nil_append]
    refine any_ok2 (N := 1) (call_does (fun v _ => v = .int .i64 kk) rfl rfl (by kernel_rfl) rfl (by simp only [dOk_some, dOk_none, Nat.reduceLT]) (fun G hG => pick9 hn hkk G)) hk' rfl (by first | exact .inl rfl | exact .inr ⟨_, _, rfl, rfl⟩) (by intro _ hK; obtain ⟨_, _, _, _, rfl⟩ := hK; exact ⟨rfl, fun _ h => h⟩) ?_
    rintro _ ⟨_, G7, rfl, hn7, rfl⟩
    clear hn7
    simp only [go_sem, simprocAttr, decide_true, decide_false, Bool.not_true, Bool.not_false, cond_true, cond_false, beq_self_eq_true, and_self, ne_eq, not_true_eq_false, not_false_eq_true, reduceCtorEq, Bool.true_beq, Bool.false_beq]
    refine ⟨by omega, ?_⟩
    exact any_sub' (hb_012346 hk' hn hkk h0 h9 hJ g2 g6 g7 g8) (by kernel_rfl) (by simp only [go_sem, simprocAttr, st, List.cons_append, List.nil_append]; simp)
  exact alts_last
theorem hb_0123567 (g2 : Nat) (g6 : Nat) (g7 : Nat) (g9 : Nat) (g15 : Nat) : Ok ⟨w, Non, Non, 94⟩ (st wh n gg gd dc w G2 [(25, .c (.s 10 g2 0 1 1)), (29, .c (.s 11 g6 0 1 1)), (30, .c (.s 12 g7 0 2 2)), (32, .c (.s 14 g9 0 0 0)), (38, .c (.s 15 g15 0 1 1))] [⟨10, g2, 3, [.v (.int .i64 6)]⟩, ⟨11, g6, 3, [.v (.int .i64 (-1 - kk))]⟩, ⟨12, g7, 3, [.v (.int .i64 0), .v (.int .i64 0)]⟩, ⟨14, g9, 3, []⟩, ⟨15, g15, 3, [.v (.int .i64 (6 + kk))]⟩]) (sem Try.prog (.inv J k') (.any hbOps (bb gg gd dc) [] 3 (lst [0, 1, 2, 3, 4, 5, 6, 7, 9, 10, 11, 12, 13, 14, 15]) .last)) := by
  refine any_step (i := 8) (p := .last) (r := .last) hk' (by kernel_rfl) (by kernel_rfl) (bb_mem _) (fun _ h => (by cases h)) ?_
  refine alts_step' (p := .last) 13 0 hk' (by kernel_rfl) (by kernel_rfl) (bb_mem _) (fun _ h => (by cases h)) ?_ ?_
  · simp only [go_sem, simprocAttr, hbOps, hbO, st, bb, List.cons_append, List.nil_append]
    intro g8
    exact any_sub' (hb_01234567 hk' hn hkk h0 h9 hJ g2 g6 g7 g8 g9 g15) (by kernel_rfl) (by simp only [go_sem, simprocAttr, st, List.cons_append, List.nil_append]; simp)
  exact alts_last
theorem hb_012356 (g2 : Nat) (g6 : Nat) (g7 : Nat) (g9 : Nat) : Ok ⟨w, Non, Non, 94⟩ (st wh n gg gd dc w G2 [(25, .c (.s 10 g2 0 1 1)), (29, .c (.s 11 g6 0 1 1)), (30, .c (.s 12 g7 0 2 2)), (32, .c (.s 14 g9 0 0 0)), (37, .c (.v (.int .i64 (6 + kk))))] [⟨10, g2, 3, [.v (.int .i64 6)]⟩, ⟨11, g6, 3, [.v (.int .i64 (-1 - kk))]⟩, ⟨12, g7, 3, [.v (.int .i64 0), .v (.int .i64 0)]⟩, ⟨14, g9, 3, []⟩]) (sem Try.prog (.inv J k') (.any hbOps (bb gg gd dc) [] 4 (lst [0, 1, 2, 3, 4, 5, 6, 7, 9, 10, 11, 12, 13, 14]) .last)) := by
  refine any_step (i := 8) (p := .last) (r := (.alt 15 .last .last)) hk' (by kernel_rfl) (by kernel_rfl) (bb_mem _) (fun _ h => (by cases h)) ?_
  refine alts_step' (p := .last) 13 0 hk' (by kernel_rfl) (by kernel_rfl) (bb_mem _) (fun _ h => (by cases h)) ?_ ?_
  · simp only [go_sem, simprocAttr, hbOps, hbO, st, bb, List.cons_append, List.nil_append]
    intro g8
    exact any_sub' (hb_0123456 hk' hn hkk h0 h9 hJ g2 g6 g7 g8 g9) (by kernel_rfl) (by simp only [go_sem, simprocAttr, st, List.cons_append, List.nil_append]; simp)
  refine alts_step' (p := .last) 15 0 hk' (by kernel_rfl) (by kernel_rfl) (bb_mem _) (fun _ h => (by cases h)) ?_ ?_
  · simp only [go_sem, simprocAttr, hbOps, hbO, st, bb, List.cons_append, List.nil_append]
    intro g15
    exact any_sub' (hb_0123567 hk' hn hkk h0 h9 hJ g2 g6 g7 g9 g15) (by kernel_rfl) (by simp only [go_sem, simprocAttr, st, List.cons_append, List.nil_append]; simp)
  exact alts_last
theorem hb_01235 (g2 : Nat) (g6 : Nat) (g7 : Nat) (g9 : Nat) : Ok ⟨w, Non, Non, 94⟩ (st wh n gg gd dc w G2 [(25, .c (.s 10 g2 0 1 1)), (29, .c (.s 11 g6 0 1 1)), (30, .c (.s 12 g7 0 2 2)), (32, .c (.s 14 g9 0 0 0))] [⟨10, g2, 3, [.v (.int .i64 6)]⟩, ⟨11, g6, 3, [.v (.int .i64 (-1 - kk))]⟩, ⟨12, g7, 3, [.v (.int .i64 0), .v (.int .i64 0)]⟩, ⟨14, g9, 3, []⟩]) (sem Try.prog (.inv J k') (.any hbOps (bb gg gd dc) [] 6 (lst [0, 1, 2, 3, 4, 5, 6, 7, 9, 10, 11, 12]) .last)) := by
  refine any_step (i := 8) (p := .last) (r := (.alt 13 .last .last)) hk' (by kernel_rfl) (by kernel_rfl) (bb_mem _) (fun _ h => (by cases h)) ?_
  refine alts_step' (p := .last) 13 0 hk' (by kernel_rfl) (by kernel_rfl) (bb_mem _) (fun _ h => (by cases h)) ?_ ?_
  · simp only [go_sem, simprocAttr, hbOps, hbO, st, bb, List.cons_append, List.nil_append]
    intro g8
    exact any_sub' (hb_012345 hk' hn hkk h0 h9 hJ g2 g6 g7 g8 g9) (by kernel_rfl) (by simp only [go_sem, simprocAttr, st, List.cons_append, List.nil_append]; simp)
  refine alts_step' (p := (.take 14 .last)) 9 1 hk' (by kernel_rfl) (by kernel_rfl) (bb_mem _) (fun _ h => (by cases h)) ?_ ?_
  · simp only [go_sem, simprocAttr, hbOps, hbO, st, bb, List.cons_append, List.nil_append]
    refine any_ok2 (N := 1) (call_does (fun v _ => v = .int .i64 kk) rfl rfl (by kernel_rfl) rfl (by simp only [dOk_some, dOk_none, Nat.reduceLT]) (fun G hG => pick9 hn hkk G)) hk' rfl (by first | exact .inl rfl | exact .inr ⟨_, _, rfl, rfl⟩) (by intro _ hK; obtain ⟨_, _, _, _, rfl⟩ := hK; exact ⟨rfl, fun _ h => h⟩) ?_
    rintro _ ⟨_, G7, rfl, hn7, rfl⟩
    clear hn7
    simp only [go_sem, simprocAttr, decide_true, decide_false, Bool.not_true, Bool.not_false, cond_true, cond_false, beq_self_eq_true, and_self, ne_eq, not_true_eq_false, not_false_eq_true, reduceCtorEq, Bool.true_beq, Bool.false_beq]
    refine ⟨by omega, ?_⟩
    exact any_sub' (hb_012356 hk' hn hkk h0 h9 hJ g2 g6 g7 g9) (by kernel_rfl) (by simp only [go_sem, simprocAttr, st, List.cons_append, List.nil_append]; simp)
  exact alts_last
theorem hb_012367 (g2 : Nat) (g6 : Nat) (g7 : Nat) (g15 : Nat) : Ok ⟨w, Non, Non, 94⟩ (st wh n gg gd dc w G2 [(25, .c (.s 10 g2 0 1 1)), (29, .c (.s 11 g6 0 1 1)), (30, .c (.s 12 g7 0 2 2)), (38, .c (.s 15 g15 0 1 1))] [⟨10, g2, 3, [.v (.int .i64 6)]⟩, ⟨11, g6, 3, [.v (.int .i64 (-1 - kk))]⟩, ⟨12, g7, 3, [.v (.int .i64 0), .v (.int .i64 0)]⟩, ⟨15, g15, 3, [.v (.int .i64 (6 + kk))]⟩]) (sem Try.prog (.inv J k') (.any hbOps (bb gg gd dc) [] 4 (lst [0, 1, 2, 3, 4, 5, 6, 7, 10, 11, 12, 13, 14, 15]) .last)) := by
  refine any_step (i := 8) (p := .last) (r := (.alt 9 .last .last)) hk' (by kernel_rfl) (by kernel_rfl) (bb_mem _) (fun _ h => (by cases h)) ?_
  refine alts_step' (p := .last) 13 0 hk' (by kernel_rfl) (by kernel_rfl) (bb_mem _) (fun _ h => (by cases h)) ?_ ?_
  · simp only [go_sem, simprocAttr, hbOps, hbO, st, bb, List.cons_append, List.nil_append]
    intro g8
    exact any_sub' (hb_0123467 hk' hn hkk h0 h9 hJ g2 g6 g7 g8 g15) (by kernel_rfl) (by simp only [go_sem, simprocAttr, st, List.cons_append, List.nil_append]; simp)
  refine alts_step' (p := .last) 14 0 hk' (by kernel_rfl) (by kernel_rfl) (bb_mem _) (fun _ h => (by cases h)) ?_ ?_
  · simp only [go_sem, simprocAttr, hbOps, hbO, st, bb, List.cons_append, List.nil_append]
    intro g9
    exact any_sub' (hb_0123567 hk' hn hkk h0 h9 hJ g2 g6 g7 g9 g15) (by kernel_rfl) (by simp only [go_sem, simprocAttr, st, List.cons_append, List.nil_append]; simp)
  exact alts_last
theorem hb_01236 (g2 : Nat) (g6 : Nat) (g7 : Nat) : Ok ⟨w, Non, Non, 94⟩ (st wh n gg gd dc w G2 [(25, .c (.s 10 g2 0 1 1)), (29, .c (.s 11 g6 0 1 1)), (30, .c (.s 12 g7 0 2 2)), (37, .c (.v (.int .i64 (6 + kk))))] [⟨10, g2, 3, [.v (.int .i64 6)]⟩, ⟨11, g6, 3, [.v (.int .i64 (-1 - kk))]⟩, ⟨12, g7, 3, [.v (.int .i64 0), .v (.int .i64 0)]⟩]) (sem Try.prog (.inv J k') (.any hbOps (bb gg gd dc) [] 5 (lst [0, 1, 2, 3, 4, 5, 6, 7, 10, 11, 12, 13, 14]) .last)) := by
  refine any_step (i := 8) (p := .last) (r := (.alt 9 .last (.alt 15 .last .last))) hk' (by kernel_rfl) (by kernel_rfl) (bb_mem _) (fun _ h => (by cases h)) ?_
  refine alts_step' (p := .last) 13 0 hk' (by kernel_rfl) (by kernel_rfl) (bb_mem _) (fun _ h => (by cases h)) ?_ ?_
  · simp only [go_sem, simprocAttr, hbOps, hbO, st, bb, List.cons_append, List.nil_append]
    intro g8
    exact any_sub' (hb_012346 hk' hn hkk h0 h9 hJ g2 g6 g7 g8) (by kernel_rfl) (by simp only [go_sem, simprocAttr, st, List.cons_append, List.nil_append]; simp)
  refine alts_step' (p := .last) 14 0 hk' (by kernel_rfl) (by kernel_rfl) (bb_mem _) (fun _ h => (by cases h)) ?_ ?_
  · simp only [go_sem, simprocAttr, hbOps, hbO, st, bb, List.cons_append, List.nil_append]
    intro g9
    exact any_sub' (hb_012356 hk' hn hkk h0 h9 hJ g2 g6 g7 g9) (by kernel_rfl) (by simp only [go_sem, simprocAttr, st, List.cons_append, List.nil_append]; simp)
  refine alts_step' (p := .last) 15 0 hk' (by kernel_rfl) (by kernel_rfl) (bb_mem _) (fun _ h => (by cases h)) ?_ ?_
  · simp only [go_sem, simprocAttr, hbOps, hbO, st, bb, List.cons_append, List.nil_append]
    intro g15
    exact any_sub' (hb_012367 hk' hn hkk h0 h9 hJ g2 g6 g7 g15) (by kernel_rfl) (by simp only [go_sem, simprocAttr, st, List.cons_append, List.nil_append]; simp)
  exact alts_last
theorem hb_0123 (g2 : Nat) (g6 : Nat) (g7 : Nat) : Ok ⟨w, Non, Non, 94⟩ (st wh n gg gd dc w G2 [(25, .c (.s 10 g2 0 1 1)), (29, .c (.s 11 g6 0 1 1)), (30, .c (.s 12 g7 0 2 2))] [⟨10, g2, 3, [.v (.int .i64 6)]⟩, ⟨11, g6, 3, [.v (.int .i64 (-1 - kk))]⟩, ⟨12, g7, 3, [.v (.int .i64 0), .v (.int .i64 0)]⟩]) (sem Try.prog (.inv J k') (.any hbOps (bb gg gd dc) [] 7 (lst [0, 1, 2, 3, 4, 5, 6, 7, 10, 11, 12]) .last)) := by
  refine any_step (i := 8) (p := .last) (r := (.alt 9 .last (.alt 13 .last .last))) hk' (by kernel_rfl) (by kernel_rfl) (bb_mem _) (fun _ h => (by cases h)) ?_
  refine alts_step' (p := .last) 13 0 hk' (by kernel_rfl) (by kernel_rfl) (bb_mem _) (fun _ h => (by cases h)) ?_ ?_
  · simp only [go_sem, simprocAttr, hbOps, hbO, st, bb, List.cons_append, List.nil_append]
    intro g8
    exact any_sub' (hb_01234 hk' hn hkk h0 h9 hJ g2 g6 g7 g8) (by kernel_rfl) (by simp only [go_sem, simprocAttr, st, List.cons_append, List.nil_append]; simp)
  refine alts_step' (p := .last) 14 0 hk' (by kernel_rfl) (by kernel_rfl) (bb_mem _) (fun _ h => (by cases h)) ?_ ?_
  · simp only [go_sem, simprocAttr, hbOps, hbO, st, bb, List.cons_append, List.nil_append]
    intro g9
    exact any_sub' (hb_01235 hk' hn hkk h0 h9 hJ g2 g6 g7 g9) (by kernel_rfl) (by simp only [go_sem, simprocAttr, st, List.cons_append, List.nil_append]; simp)
  refine alts_step' (p := (.take 14 .last)) 9 1 hk' (by kernel_rfl) (by kernel_rfl) (bb_mem _) (fun _ h => (by cases h)) ?_ ?_
  · simp only [go_sem, simprocAttr, hbOps, hbO, st, bb, List.cons_append, List.nil_append]
    refine any_ok2 (N := 1) (call_does (fun v _ => v = .int .i64 kk) rfl rfl (by kernel_rfl) rfl (by simp only [dOk_some, dOk_none, Nat.reduceLT]) (fun G hG => pick9 hn hkk G)) hk' rfl (by first | exact .inl rfl | exact .inr ⟨_, _, rfl, rfl⟩) (by intro _ hK; obtain ⟨_, _, _, _, rfl⟩ := hK; exact ⟨rfl, fun _ h => h⟩) ?_
    rintro _ ⟨_, G7, rfl, hn7, rfl⟩
    clear hn7
    simp only [go_sem, simprocAttr, decide_true, decide_false, Bool.not_true, Bool.not_false, cond_true, cond_false, beq_self_eq_true, and_self, ne_eq, not_true_eq_false, not_false_eq_true, reduceCtorEq, Bool.true_beq, Bool.false_beq]
    refine ⟨by omega, ?_⟩
    exact any_sub' (hb_01236 hk' hn hkk h0 h9 hJ g2 g6 g7) (by kernel_rfl) (by simp only [go_sem, simprocAttr, st, List.cons_append, List.nil_append]; simp)
  exact alts_last
theorem hb_0124567 (g2 : Nat) (g6 : Nat) (g8 : Nat) (g9 : Nat) (g15 : Nat) : Ok ⟨w, Non, Non, 94⟩ (st wh n gg gd dc w G2 [(25, .c (.s 10 g2 0 1 1)), (29, .c (.s 11 g6 0 1 1)), (31, .c (.s 13 g8 0 2 2)), (32, .c (.s 14 g9 0 0 0)), (38, .c (.s 15 g15 0 1 1))] [⟨10, g2, 3, [.v (.int .i64 6)]⟩, ⟨11, g6, 3, [.v (.int .i64 (-1 - kk))]⟩, ⟨13, g8, 3, [.v (.int .i64 1), .v (.int .i64 2)]⟩, ⟨14, g9, 3, []⟩, ⟨15, g15, 3, [.v (.int .i64 (6 + kk))]⟩]) (sem Try.prog (.inv J k') (.any hbOps (bb gg gd dc) [] 3 (lst [0, 1, 2, 3, 4, 5, 6, 8, 9, 10, 11, 12, 13, 14, 15]) .last)) := by
  refine any_step (i := 7) (p := .last) (r := .last) hk' (by kernel_rfl) (by kernel_rfl) (bb_mem _) (fun _ h => (by cases h)) ?_
  refine alts_step' (p := .last) 12 0 hk' (by kernel_rfl) (by kernel_rfl) (bb_mem _) (fun _ h => (by cases h)) ?_ ?_
  · simp only [go_sem, simprocAttr, hbOps, hbO, st, bb, List.cons_append, List.nil_append]
    intro g7
    exact any_sub' (hb_01234567 hk' hn hkk h0 h9 hJ g2 g6 g7 g8 g9 g15) (by kernel_rfl) (by simp only [go_sem, simprocAttr, st, List.cons_append, List.nil_append]; simp)
  exact alts_last
theorem hb_012456 (g2 : Nat) (g6 : Nat) (g8 : Nat) (g9 : Nat) : Ok ⟨w, Non, Non, 94⟩ (st wh n gg gd dc w G2 [(25, .c (.s 10 g2 0 1 1)), (29, .c (.s 11 g6 0 1 1)), (31, .c (.s 13 g8 0 2 2)), (32, .c (.s 14 g9 0 0 0)), (37, .c (.v (.int .i64 (6 + kk))))] [⟨10, g2, 3, [.v (.int .i64 6)]⟩, ⟨11, g6, 3, [.v (.int .i64 (-1 - kk))]⟩, ⟨13, g8, 3, [.v (.int .i64 1), .v (.int .i64 2)]⟩, ⟨14, g9, 3, []⟩]) (sem Try.prog (.inv J k') (.any hbOps (bb gg gd dc) [] 4 (lst [0, 1, 2, 3, 4, 5, 6, 8, 9, 10, 11, 12, 13, 14]) .last)) := by
  refine any_step (i := 7) (p := .last) (r := (.alt 15 .last .last)) hk' (by kernel_rfl) (by kernel_rfl) (bb_mem _) (fun _ h => (by cases h)) ?_
  refine alts_step' (p := .last) 12 0 hk' (by kernel_rfl) (by kernel_rfl) (bb_mem _) (fun _ h => (by cases h)) ?_ ?_
  · simp only [go_sem, simprocAttr, hbOps, hbO, st, bb, List.cons_append, List.nil_append]
    intro g7
    exact any_sub' (hb_0123456 hk' hn hkk h0 h9 hJ g2 g6 g7 g8 g9) (by kernel_rfl) (by simp only [go_sem, simprocAttr, st, List.cons_append, List.nil_append]; simp)
  refine alts_step' (p := .last) 15 0 hk' (by kernel_rfl) (by kernel_rfl) (bb_mem _) (fun _ h => (by cases h)) ?_ ?_
  · simp only [go_sem, simprocAttr, hbOps, hbO, st, bb, List.cons_append, List.nil_append]
    intro g15
    exact any_sub' (hb_0124567 hk' hn hkk h0 h9 hJ g2 g6 g8 g9 g15) (by kernel_rfl) (by simp only [go_sem, simprocAttr, st, List.cons_append, List.nil_append]; simp)
  exact alts_last
theorem hb_01245 (g2 : Nat) (g6 : Nat) (g8 : Nat) (g9 : Nat) : Ok ⟨w, Non, Non, 94⟩ (st wh n gg gd dc w G2 [(25, .c (.s 10 g2 0 1 1)), (29, .c (.s 11 g6 0 1 1)), (31, .c (.s 13 g8 0 2 2)), (32, .c (.s 14 g9 0 0 0))] [⟨10, g2, 3, [.v (.int .i64 6)]⟩, ⟨11, g6, 3, [.v (.int .i64 (-1 - kk))]⟩, ⟨13, g8, 3, [.v (.int .i64 1), .v (.int .i64 2)]⟩, ⟨14, g9, 3, []⟩]) (sem Try.prog (.inv J k') (.any hbOps (bb gg gd dc) [] 6 (lst [0, 1, 2, 3, 4, 5, 6, 8, 9, 10, 11, 12]) .last)) := by
  refine any_step (i := 7) (p := .last) (r := (.alt 13 .last .last)) hk' (by kernel_rfl) (by kernel_rfl) (bb_mem _) (fun _ h => (by cases h)) ?_
  refine alts_step' (p := .last) 12 0 hk' (by kernel_rfl) (by kernel_rfl) (bb_mem _) (fun _ h => (by cases h)) ?_ ?_
  · simp only [go_sem, simprocAttr, hbOps, hbO, st, bb, List.cons_append, List.nil_append]
    intro g7
    exact any_sub' (hb_012345 hk' hn hkk h0 h9 hJ g2 g6 g7 g8 g9) (by kernel_rfl) (by simp only [go_sem, simprocAttr, st, List.cons_append, List.nil_append]; simp)
  refine alts_step' (p := (.take 14 .last)) 9 1 hk' (by kernel_rfl) (by kernel_rfl) (bb_mem _) (fun _ h => (by cases h)) ?_ ?_
  · simp only [go_sem, simprocAttr, hbOps, hbO, st, bb, List.cons_append, List.nil_append]
    refine any_ok2 (N := 1) (call_does (fun v _ => v = .int .i64 kk) rfl rfl (by kernel_rfl) rfl (by simp only [dOk_some, dOk_none, Nat.reduceLT]) (fun G hG => pick9 hn hkk G)) hk' rfl (by first | exact .inl rfl | exact .inr ⟨_, _, rfl, rfl⟩) (by intro _ hK; obtain ⟨_, _, _, _, rfl⟩ := hK; exact ⟨rfl, fun _ h => h⟩) ?_
    rintro _ ⟨_, G7, rfl, hn7, rfl⟩
    clear hn7
    simp only [go_sem, simprocAttr, decide_true, decide_false, Bool.not_true, Bool.not_false, cond_true, cond_false, beq_self_eq_true, and_self, ne_eq, not_true_eq_false, not_false_eq_true, reduceCtorEq, Bool.true_beq, Bool.false_beq]
    refine ⟨by omega, ?_⟩
    exact any_sub' (hb_012456 hk' hn hkk h0 h9 hJ g2 g6 g8 g9) (by kernel_rfl) (by simp only [go_sem, simprocAttr, st, List.cons_append, List.nil_append]; simp)
  exact alts_last
theorem hb_012467 (g2 : Nat) (g6 : Nat) (g8 : Nat) (g15 : Nat) : Ok ⟨w, Non, Non, 94⟩ (st wh n gg gd dc w G2 [(25, .c (.s 10 g2 0 1 1)), (29, .c (.s 11 g6 0 1 1)), (31, .c (.s 13 g8 0 2 2)), (38, .c (.s 15 g15 0 1 1))] [⟨10, g2, 3, [.v (.int .i64 6)]⟩, ⟨11, g6, 3, [.v (.int .i64 (-1 - kk))]⟩, ⟨13, g8, 3, [.v (.int .i64 1), .v (.int .i64 2)]⟩, ⟨15, g15, 3, [.v (.int .i64 (6 + kk))]⟩]) (sem Try.prog (.inv J k') (.any hbOps (bb gg gd dc) [] 4 (lst [0, 1, 2, 3, 4, 5, 6, 8, 10, 11, 12, 13, 14, 15]) .last)) := by
  refine any_step (i := 7) (p := .last) (r := (.alt 9 .last .last)) hk' (by kernel_rfl) (by kernel_rfl) (bb_mem _) (fun _ h => (by cases h)) ?_
  refine alts_step' (p := .last) 12 0 hk' (by kernel_rfl) (by kernel_rfl) (bb_mem _) (fun _ h => (by cases h)) ?_ ?_
  · simp only [go_sem, simprocAttr, hbOps, hbO, st, bb, List.cons_append, List.nil_append]
    intro g7
    exact any_sub' (hb_0123467 hk' hn hkk h0 h9 hJ g2 g6 g7 g8 g15) (by kernel_rfl) (by simp only [go_sem, simprocAttr, st, List.cons_append, List.nil_append]; simp)
  refine alts_step' (p := .last) 14 0 hk' (by kernel_rfl) (by kernel_rfl) (bb_mem _) (fun _ h => (by cases h)) ?_ ?_
  · simp only [go_sem, simprocAttr, hbOps, hbO, st, bb, List.cons_append, List.nil_append]
    intro g9
    exact any_sub' (hb_0124567 hk' hn hkk h0 h9 hJ g2 g6 g8 g9 g15) (by kernel_rfl) (by simp only [go_sem, simprocAttr, st, List.cons_append, List.nil_append]; simp)
  exact alts_last
theorem hb_01246 (g2 : Nat) (g6 : Nat) (g8 : Nat) : Ok ⟨w, Non, Non, 94⟩ (st wh n gg gd dc w G2 [(25, .c (.s 10 g2 0 1 1)), (29, .c (.s 11 g6 0 1 1)), (31, .c (.s 13 g8 0 2 2)), (37, .c (.v (.int .i64 (6 + kk))))] [⟨10, g2, 3, [.v (.int .i64 6)]⟩, ⟨11, g6, 3, [.v (.int .i64 (-1 - kk))]⟩, ⟨13, g8, 3, [.v (.int .i64 1), .v (.int .i64 2)]⟩]) (sem Try.prog (.inv J k') (.any hbOps (bb gg gd dc) [] 5 (lst [0, 1, 2, 3, 4, 5, 6, 8, 10, 11, 12, 13, 14]) .last)) := by
  refine any_step (i := 7) (p := .last) (r := (.alt 9 .last (.alt 15 .last .last))) hk' (by kernel_rfl) (by kernel_rfl) (bb_mem _) (fun _ h => (by cases h)) ?_
  refine alts_step' (p := .last) 12 0 hk' (by kernel_rfl) (by kernel_rfl) (bb_mem _) (fun _ h => (by cases h)) ?_ ?_
  · simp only [go_sem, simprocAttr, hbOps, hbO, st, bb, List.cons_append, List.nil_append]
    intro g7
    exact any_sub' (hb_012346 hk' hn hkk h0 h9 hJ g2 g6 g7 g8) (by kernel_rfl) (by simp only [go_sem, simprocAttr, st, List.cons_append, List.nil_append]; simp)
  refine alts_step' (p := .last) 14 0 hk' (by kernel_rfl) (by kernel_rfl) (bb_mem _) (fun _ h => (by cases h)) ?_ ?_
  · simp only [go_sem, simprocAttr, hbOps, hbO, st, bb, List.cons_append, List.nil_append]
    intro g9
    exact any_sub' (hb_012456 hk' hn hkk h0 h9 hJ g2 g6 g8 g9) (by kernel_rfl) (by simp only [go_sem, simprocAttr, st, List.cons_append, List.nil_append]; simp)
  refine alts_step' (p := .last) 15 0 hk' (by kernel_rfl) (by kernel_rfl) (bb_mem _) (fun _ h => (by cases h)) ?_ ?_
  · simp only [go_sem, simprocAttr, hbOps, hbO, st, bb, List.cons_append, List.nil_append]
    intro g15
    exact any_sub' (hb_012467 hk' hn hkk h0 h9 hJ g2 g6 g8 g15) (by kernel_rfl) (by simp only [go_sem, simprocAttr, st, List.cons_append, List.nil_append]; simp)
  exact alts_last
theorem hb_0124 (g2 : Nat) (g6 : Nat) (g8 : Nat) : Ok ⟨w, Non, Non, 94⟩ (st wh n gg gd dc w G2 [(25, .c (.s 10 g2 0 1 1)), (29, .c (.s 11 g6 0 1 1)), (31, .c (.s 13 g8 0 2 2))] [⟨10, g2, 3, [.v (.int .i64 6)]⟩, ⟨11, g6, 3, [.v (.int .i64 (-1 - kk))]⟩, ⟨13, g8, 3, [.v (.int .i64 1), .v (.int .i64 2)]⟩]) (sem Try.prog (.inv J k') (.any hbOps (bb gg gd dc) [] 7 (lst [0, 1, 2, 3, 4, 5, 6, 8, 10, 11, 12]) .last)) := by
  refine any_step (i := 7) (p := .last) (r := (.alt 9 .last (.alt 13 .last .last))) hk' (by kernel_rfl) (by kernel_rfl) (bb_mem _) (fun _ h => (by cases h)) ?_
  refine alts_step' (p := .last) 12 0 hk' (by kernel_rfl) (by kernel_rfl) (bb_mem _) (fun _ h => (by cases h)) ?_ ?_
  · simp only [go_sem, simprocAttr, hbOps, hbO, st, bb, List.cons_append, List.nil_append]
    intro g7
    exact any_sub' (hb_01234 hk' hn hkk h0 h9 hJ g2 g6 g7 g8) (by kernel_rfl) (by simp only [go_sem, simprocAttr, st, List.cons_append, List.nil_append]; simp)
  refine alts_step' (p := .last) 14 0 hk' (by kernel_rfl) (by kernel_rfl) (bb_mem _) (fun _ h => (by cases h)) ?_ ?_
  · simp only [go_sem, simprocAttr, hbOps, hbO, st, bb, List.cons_append, List.nil_append]
    intro g9
    exact any_sub' (hb_01245 hk' hn hkk h0 h9 hJ g2 g6 g8 g9) (by kernel_rfl) (by simp only [go_sem, simprocAttr, st, List.cons_append, List.nil_append]; simp)
  refine alts_step' (p := (.take 14 .last)) 9 1 hk' (by kernel_rfl) (by kernel_rfl) (bb_mem _) (fun _ h => (by cases h)) ?_ ?_
  · simp only [go_sem, simprocAttr, hbOps, hbO, st, bb, List.cons_append, List.nil_append]
    refine any_ok2 (N := 1) (call_does (fun v _ => v = .int .i64 kk) rfl rfl (by kernel_rfl) rfl (by simp only [dOk_some, dOk_none, Nat.reduceLT]) (fun G hG => pick9 hn hkk G)) hk' rfl (by first | exact .inl rfl | exact .inr ⟨_, _, rfl, rfl⟩) (by intro _ hK; obtain ⟨_, _, _, _, rfl⟩ := hK; exact ⟨rfl, fun _ h => h⟩) ?_
    rintro _ ⟨_, G7, rfl, hn7, rfl⟩
    clear hn7
    simp only [go_sem, simprocAttr, decide_true, decide_false, Bool.not_true, Bool.not_false, cond_true, cond_false, beq_self_eq_true, and_self, ne_eq, not_true_eq_false, not_false_eq_true, reduceCtorEq, Bool.true_beq, Bool.false_beq]
    refine ⟨by omega, ?_⟩
    exact any_sub' (hb_01246 hk' hn hkk h0 h9 hJ g2 g6 g8) (by kernel_rfl) (by simp only [go_sem, simprocAttr, st, List.cons_append, List.nil_append]; simp)
  exact alts_last
theorem hb_012567 (g2 : Nat) (g6 : Nat) (g9 : Nat) (g15 : Nat) : Ok ⟨w, Non, Non, 94⟩ (st wh n gg gd dc w G2 [(25, .c (.s 10 g2 0 1 1)), (29, .c (.s 11 g6 0 1 1)), (32, .c (.s 14 g9 0 0 0)), (38, .c (.s 15 g15 0 1 1))] [⟨10, g2, 3, [.v (.int .i64 6)]⟩, ⟨11, g6, 3, [.v (.int .i64 (-1 - kk))]⟩, ⟨14, g9, 3, []⟩, ⟨15, g15, 3, [.v (.int .i64 (6 + kk))]⟩]) (sem Try.prog (.inv J k') (.any hbOps (bb gg gd dc) [] 4 (lst [0, 1, 2, 3, 4, 5, 6, 9, 10, 11, 12, 13, 14, 15]) .last)) := by
  refine any_step (i := 7) (p := .last) (r := (.alt 8 .last .last)) hk' (by kernel_rfl) (by kernel_rfl) (bb_mem _) (fun _ h => (by cases h)) ?_
  refine alts_step' (p := .last) 12 0 hk' (by kernel_rfl) (by kernel_rfl) (bb_mem _) (fun _ h => (by cases h)) ?_ ?_
  · simp only [go_sem, simprocAttr, hbOps, hbO, st, bb, List.cons_append, List.nil_append]
    intro g7
    exact any_sub' (hb_0123567 hk' hn hkk h0 h9 hJ g2 g6 g7 g9 g15) (by kernel_rfl) (by simp only [go_sem, simprocAttr, st, List.cons_append, List.nil_append]; simp)
  refine alts_step' (p := .last) 13 0 hk' (by kernel_rfl) (by kernel_rfl) (bb_mem _) (fun _ h => (by cases h)) ?_ ?_
  · simp only [go_sem, simprocAttr, hbOps, hbO, st, bb, List.cons_append, List.nil_append]
    intro g8
    exact any_sub' (hb_0124567 hk' hn hkk h0 h9 hJ g2 g6 g8 g9 g15) (by kernel_rfl) (by simp only [go_sem, simprocAttr, st, List.cons_append, List.nil_append]; simp)
  exact alts_last
theorem hb_01256 (g2 : Nat) (g6 : Nat) (g9 : Nat) : Ok ⟨w, Non, Non, 94⟩ (st wh n gg gd dc w G2 [(25, .c (.s 10 g2 0 1 1)), (29, .c (.s 11 g6 0 1 1)), (32, .c (.s 14 g9 0 0 0)), (37, .c (.v (.int .i64 (6 + kk))))] [⟨10, g2, 3, [.v (.int .i64 6)]⟩, ⟨11, g6, 3, [.v (.int .i64 (-1 - kk))]⟩, ⟨14, g9, 3, []⟩]) (sem Try.prog (.inv J k') (.any hbOps (bb gg gd dc) [] 5 (lst [0, 1, 2, 3, 4, 5, 6, 9, 10, 11, 12, 13, 14]) .last)) := by
  refine any_step (i := 7) (p := .last) (r := (.alt 8 .last (.alt 15 .last .last))) hk' (by kernel_rfl) (by kernel_rfl) (bb_mem _) (fun _ h => (by cases h)) ?_
  refine alts_step' (p := .last) 12 0 hk' (by kernel_rfl) (by kernel_rfl) (bb_mem _) (fun _ h => (by cases h)) ?_ ?_
  · simp only [go_sem, simprocAttr, hbOps, hbO, st, bb, List.cons_append, List.nil_append]
    intro g7
    exact any_sub' (hb_012356 hk' hn hkk h0 h9 hJ g2 g6 g7 g9) (by kernel_rfl) (by simp only [go_sem, simprocAttr, st, List.cons_append, List.nil_append]; simp)
  refine alts_step' (p := .last) 13 0 hk' (by kernel_rfl) (by kernel_rfl) (bb_mem _) (fun _ h => (by cases h)) ?_ ?_
  · simp only [go_sem, simprocAttr, hbOps, hbO, st, bb, List.cons_append, List.nil_append]
    intro g8
    exact any_sub' (hb_012456 hk' hn hkk h0 h9 hJ g2 g6 g8 g9) (by kernel_rfl) (by simp only [go_sem, simprocAttr, st, List.cons_append, List.nil_append]; simp)
  refine alts_step' (p := .last) 15 0 hk' (by kernel_rfl) (by kernel_rfl) (bb_mem _) (fun _ h => (by cases h)) ?_ ?_
  · simp only [go_sem, simprocAttr, hbOps, hbO, st, bb, List.cons_append, List.nil_append]
    intro g15
    exact any_sub' (hb_012567 hk' hn hkk h0 h9 hJ g2 g6 g9 g15) (by kernel_rfl) (by simp only [go_sem, simprocAttr, st, List.cons_append, List.nil_append]; simp)
  exact alts_last
theorem hb_0125 (g2 : Nat) (g6 : Nat) (g9 : Nat) : Ok ⟨w, Non, Non, 94⟩ (st wh n gg gd dc w G2 [(25, .c (.s 10 g2 0 1 1)), (29, .c (.s 11 g6 0 1 1)), (32, .c (.s 14 g9 0 0 0))] [⟨10, g2, 3, [.v (.int .i64 6)]⟩, ⟨11, g6, 3, [.v (.int .i64 (-1 - kk))]⟩, ⟨14, g9, 3, []⟩]) (sem Try.prog (.inv J k') (.any hbOps (bb gg gd dc) [] 7 (lst [0, 1, 2, 3, 4, 5, 6, 9, 10, 11, 12]) .last)) := by
  refine any_step (i := 7) (p := .last) (r := (.alt 8 .last (.alt 13 .last .last))) hk' (by kernel_rfl) (by kernel_rfl) (bb_mem _) (fun _ h => (by cases h)) ?_
  refine alts_step' (p := .last) 12 0 hk' (by kernel_rfl) (by kernel_rfl) (bb_mem _) (fun _ h => (by cases h)) ?_ ?_
  · simp only [go_sem, simprocAttr, hbOps, hbO, st, bb, List.cons_append, List.nil_append]
    intro g7
    exact any_sub' (hb_01235 hk' hn hkk h0 h9 hJ g2 g6 g7 g9) (by kernel_rfl) (by simp only [go_sem, simprocAttr, st, List.cons_append, List.nil_append]; simp)
  refine alts_step' (p := .last) 13 0 hk' (by kernel_rfl) (by kernel_rfl) (bb_mem _) (fun _ h => (by cases h)) ?_ ?_
  · simp only [go_sem, simprocAttr, hbOps, hbO, st, bb, List.cons_append, List.nil_append]
    intro g8
    exact any_sub' (hb_01245 hk' hn hkk h0 h9 hJ g2 g6 g8 g9) (by kernel_rfl) (by simp only [go_sem, simprocAttr, st, List.cons_append, List.nil_append]; simp)
  refine alts_step' (p := (.take 14 .last)) 9 1 hk' (by kernel_rfl) (by kernel_rfl) (bb_mem _) (fun _ h => (by cases h)) ?_ ?_
  · simp only [go_sem, simprocAttr, hbOps, hbO, st, bb, List.cons_append, List.nil_append]
    refine any_ok2 (N := 1) (call_does (fun v _ => v = .int .i64 kk) rfl rfl (by kernel_rfl) rfl (by simp only [dOk_some, dOk_none, Nat.reduceLT]) (fun G hG => pick9 hn hkk G)) hk' rfl (by first | exact .inl rfl | exact .inr ⟨_, _, rfl, rfl⟩) (by intro _ hK; obtain ⟨_, _, _, _, rfl⟩ := hK; exact ⟨rfl, fun _ h => h⟩) ?_
    rintro _ ⟨_, G7, rfl, hn7, rfl⟩
    clear hn7
    simp only [go_sem, simprocAttr, decide_true, decide_false, Bool.not_true, Bool.not_false, cond_true, cond_false, beq_self_eq_true, and_self, ne_eq, not_true_eq_false, not_false_eq_true, reduceCtorEq, Bool.true_beq, Bool.false_beq]
    refine ⟨by omega, ?_⟩
    exact any_sub' (hb_01256 hk' hn hkk h0 h9 hJ g2 g6 g9) (by kernel_rfl) (by simp only [go_sem, simprocAttr, st, List.cons_append, List.nil_append]; simp)
  exact alts_last
theorem hb_01267 (g2 : Nat) (g6 : Nat) (g15 : Nat) : Ok ⟨w, Non, Non, 94⟩ (st wh n gg gd dc w G2 [(25, .c (.s 10 g2 0 1 1)), (29, .c (.s 11 g6 0 1 1)), (38, .c (.s 15 g15 0 1 1))] [⟨10, g2, 3, [.v (.int .i64 6)]⟩, ⟨11, g6, 3, [.v (.int .i64 (-1 - kk))]⟩, ⟨15, g15, 3, [.v (.int .i64 (6 + kk))]⟩]) (sem Try.prog (.inv J k') (.any hbOps (bb gg gd dc) [] 5 (lst [0, 1, 2, 3, 4, 5, 6, 10, 11, 12, 13, 14, 15]) .last)) := by
  refine any_step (i := 7) (p := .last) (r := (.alt 8 .last (.alt 9 .last .last))) hk' (by kernel_rfl) (by kernel_rfl) (bb_mem _) (fun _ h => (by cases h)) ?_
  refine alts_step' (p := .last) 12 0 hk' (by kernel_rfl) (by kernel_rfl) (bb_mem _) (fun _ h => (by cases h)) ?_ ?_
  · simp only [go_sem, simprocAttr, hbOps, hbO, st, bb, List.cons_append, List.nil_append]
    intro g7
    exact any_sub' (hb_012367 hk' hn hkk h0 h9 hJ g2 g6 g7 g15) (by kernel_rfl) (by simp only [go_sem, simprocAttr, st, List.cons_append, List.nil_append]; simp)
  refine alts_step' (p := .last) 13 0 hk' (by kernel_rfl) (by kernel_rfl) (bb_mem _) (fun _ h => (by cases h)) ?_ ?_
  · simp only [go_sem, simprocAttr, hbOps, hbO, st, bb, List.cons_append, List.nil_append]
    intro g8
    exact any_sub' (hb_012467 hk' hn hkk h0 h9 hJ g2 g6 g8 g15) (by kernel_rfl) (by simp only [go_sem, simprocAttr, st, List.cons_append, List.nil_append]; simp)
  refine alts_step' (p := .last) 14 0 hk' (by kernel_rfl) (by kernel_rfl) (bb_mem _) (fun _ h => (by cases h)) ?_ ?_
  · simp only [go_sem, simprocAttr, hbOps, hbO, st, bb, List.cons_append, List.nil_append]
    intro g9
    exact any_sub' (hb_012567 hk' hn hkk h0 h9 hJ g2 g6 g9 g15) (by kernel_rfl) (by simp only [go_sem, simprocAttr, st, List.cons_append, List.nil_append]; simp)
  exact alts_last
theorem hb_0126 (g2 : Nat) (g6 : Nat) : Ok ⟨w, Non, Non, 94⟩ (st wh n gg gd dc w G2 [(25, .c (.s 10 g2 0 1 1)), (29, .c (.s 11 g6 0 1 1)), (37, .c (.v (.int .i64 (6 + kk))))] [⟨10, g2, 3, [.v (.int .i64 6)]⟩, ⟨11, g6, 3, [.v (.int .i64 (-1 - kk))]⟩]) (sem Try.prog (.inv J k') (.any hbOps (bb gg gd dc) [] 6 (lst [0, 1, 2, 3, 4, 5, 6, 10, 11, 12, 13, 14]) .last)) := by
  refine any_step (i := 7) (p := .last) (r := (.alt 8 .last (.alt 9 .last (.alt 15 .last .last)))) hk' (by kernel_rfl) (by kernel_rfl) (bb_mem _) (fun _ h => (by cases h)) ?_
  refine alts_step' (p := .last) 12 0 hk' (by kernel_rfl) (by kernel_rfl) (bb_mem _) (fun _ h => (by cases h)) ?_ ?_
  · simp only [go_sem, simprocAttr, hbOps, hbO, st, bb, List.cons_append, List.nil_append]
    intro g7
    exact any_sub' (hb_01236 hk' hn hkk h0 h9 hJ g2 g6 g7) (by kernel_rfl) (by simp only [go_sem, simprocAttr, st, List.cons_append, List.nil_append]; simp)
  refine alts_step' (p := .last) 13 0 hk' (by kernel_rfl) (by kernel_rfl) (bb_mem _) (fun _ h => (by cases h)) ?_ ?_
  · simp only [go_sem, simprocAttr, hbOps, hbO, st, bb, List.cons_append, List.nil_append]
    intro g8
    exact any_sub' (hb_01246 hk' hn hkk h0 h9 hJ g2 g6 g8) (by kernel_rfl) (by simp only [go_sem, simprocAttr, st, List.cons_append, List.nil_append]; simp)
  refine alts_step' (p := .last) 14 0 hk' (by kernel_rfl) (by kernel_rfl) (bb_mem _) (fun _ h => (by cases h)) ?_ ?_
  · simp only [go_sem, simprocAttr, hbOps, hbO, st, bb, List.cons_append, List.nil_append]
    intro g9
    exact any_sub' (hb_01256 hk' hn hkk h0 h9 hJ g2 g6 g9) (by kernel_rfl) (by simp only [go_sem, simprocAttr, st, List.cons_append, List.nil_append]; simp)
  refine alts_step' (p := .last) 15 0 hk' (by kernel_rfl) (by kernel_rfl) (bb_mem _) (fun _ h => (by cases h)) ?_ ?_
  · simp only [go_sem, simprocAttr, hbOps, hbO, st, bb, List.cons_append, List.nil_append]
    intro g15
    exact any_sub' (hb_01267 hk' hn hkk h0 h9 hJ g2 g6 g15) (by kernel_rfl) (by simp only [go_sem, simprocAttr, st, List.cons_append, List.nil_append]; simp)
  exact alts_last
theorem hb_012 (g2 : Nat) (g6 : Nat) : Ok ⟨w, Non, Non, 94⟩ (st wh n gg gd dc w G2 [(25, .c (.s 10 g2 0 1 1)), (29, .c (.s 11 g6 0 1 1))] [⟨10, g2, 3, [.v (.int .i64 6)]⟩, ⟨11, g6, 3, [.v (.int .i64 (-1 - kk))]⟩]) (sem Try.prog (.inv J k') (.any hbOps (bb gg gd dc) [] 8 (lst [0, 1, 2, 3, 4, 5, 6, 10, 11, 12]) .last)) := by
  refine any_step (i := 7) (p := .last) (r := (.alt 8 .last (.alt 9 .last (.alt 13 .last .last)))) hk' (by kernel_rfl) (by kernel_rfl) (bb_mem _) (fun _ h => (by cases h)) ?_
  refine alts_step' (p := .last) 12 0 hk' (by kernel_rfl) (by kernel_rfl) (bb_mem _) (fun _ h => (by cases h)) ?_ ?_
  · simp only [go_sem, simprocAttr, hbOps, hbO, st, bb, List.cons_append, List.nil_append]
    intro g7
    exact any_sub' (hb_0123 hk' hn hkk h0 h9 hJ g2 g6 g7) (by kernel_rfl) (by simp only [go_sem, simprocAttr, st, List.cons_append, List.nil_append]; simp)
  refine alts_step' (p := .last) 13 0 hk' (by kernel_rfl) (by kernel_rfl) (bb_mem _) (fun _ h => (by cases h)) ?_ ?_
  · simp only [go_sem, simprocAttr, hbOps, hbO, st, bb, List.cons_append, List.nil_append]
    intro g8
    exact any_sub' (hb_0124 hk' hn hkk h0 h9 hJ g2 g6 g8) (by kernel_rfl) (by simp only [go_sem, simprocAttr, st, List.cons_append, List.nil_append]; simp)
  refine alts_step' (p := .last) 14 0 hk' (by kernel_rfl) (by kernel_rfl) (bb_mem _) (fun _ h => (by cases h)) ?_ ?_
  · simp only [go_sem, simprocAttr, hbOps, hbO, st, bb, List.cons_append, List.nil_append]
    intro g9
    exact any_sub' (hb_0125 hk' hn hkk h0 h9 hJ g2 g6 g9) (by kernel_rfl) (by simp only [go_sem, simprocAttr, st, List.cons_append, List.nil_append]; simp)
  refine alts_step' (p := (.take 14 .last)) 9 1 hk' (by kernel_rfl) (by kernel_rfl) (bb_mem _) (fun _ h => (by cases h)) ?_ ?_
  · simp only [go_sem, simprocAttr, hbOps, hbO, st, bb, List.cons_append, List.nil_append]
    refine any_ok2 (N := 1) (call_does (fun v _ => v = .int .i64 kk) rfl rfl (by kernel_rfl) rfl (by simp only [dOk_some, dOk_none, Nat.reduceLT]) (fun G hG => pick9 hn hkk G)) hk' rfl (by first | exact .inl rfl | exact .inr ⟨_, _, rfl, rfl⟩) (by intro _ hK; obtain ⟨_, _, _, _, rfl⟩ := hK; exact ⟨rfl, fun _ h => h⟩) ?_
    rintro _ ⟨_, G7, rfl, hn7, rfl⟩
    clear hn7
    simp only [go_sem, simprocAttr, decide_true, decide_false, Bool.not_true, Bool.not_false, cond_true, cond_false, beq_self_eq_true, and_self, ne_eq, not_true_eq_false, not_false_eq_true, reduceCtorEq, Bool.true_beq, Bool.false_beq]
    refine ⟨by omega, ?_⟩
    exact any_sub' (hb_0126 hk' hn hkk h0 h9 hJ g2 g6) (by kernel_rfl) (by simp only [go_sem, simprocAttr, st, List.cons_append, List.nil_append]; simp)
  exact alts_last
theorem hb_0134567 (g2 : Nat) (g7 : Nat) (g8 : Nat) (g9 : Nat) (g15 : Nat) : Ok ⟨w, Non, Non, 94⟩ (st wh n gg gd dc w G2 [(25, .c (.s 10 g2 0 1 1)), (28, .c (.v (.int .i64 (-1 - kk)))), (30, .c (.s 12 g7 0 2 2)), (31, .c (.s 13 g8 0 2 2)), (32, .c (.s 14 g9 0 0 0)), (38, .c (.s 15 g15 0 1 1))] [⟨10, g2, 3, [.v (.int .i64 6)]⟩, ⟨12, g7, 3, [.v (.int .i64 0), .v (.int .i64 0)]⟩, ⟨13, g8, 3, [.v (.int .i64 1), .v (.int .i64 2)]⟩, ⟨14, g9, 3, []⟩, ⟨15, g15, 3, [.v (.int .i64 (6 + kk))]⟩]) (sem Try.prog (.inv J k') (.any hbOps (bb gg gd dc) [] 3 (lst [0, 1, 2, 3, 4, 5, 7, 8, 9, 10, 11, 12, 13, 14, 15]) .last)) := by
  refine any_step (i := 6) (p := .last) (r := .last) hk' (by kernel_rfl) (by kernel_rfl) (bb_mem _) (fun _ h => (by cases h)) ?_
  refine alts_step' (p := .last) 11 0 hk' (by kernel_rfl) (by kernel_rfl) (bb_mem _) (fun _ h => (by cases h)) ?_ ?_
  · simp only [go_sem, simprocAttr, hbOps, hbO, st, bb, List.cons_append, List.nil_append]
    intro g6
    exact any_sub' (hb_01234567 hk' hn hkk h0 h9 hJ g2 g6 g7 g8 g9 g15) (by kernel_rfl) (by simp only [go_sem, simprocAttr, st, List.cons_append, List.nil_append]; simp)
  exact alts_last
theorem hb_013456 (g2 : Nat) (g7 : Nat) (g8 : Nat) (g9 : Nat) : Ok ⟨w, Non, Non, 94⟩ (st wh n gg gd dc w G2 [(25, .c (.s 10 g2 0 1 1)), (28, .c (.v (.int .i64 (-1 - kk)))), (30, .c (.s 12 g7 0 2 2)), (31, .c (.s 13 g8 0 2 2)), (32, .c (.s 14 g9 0 0 0)), (37, .c (.v (.int .i64 (6 + kk))))] [⟨10, g2, 3, [.v (.int .i64 6)]⟩, ⟨12, g7, 3, [.v (.int .i64 0), .v (.int .i64 0)]⟩, ⟨13, g8, 3, [.v (.int .i64 1), .v (.int .i64 2)]⟩, ⟨14, g9, 3, []⟩]) (sem Try.prog (.inv J k') (.any hbOps (bb gg gd dc) [] 4 (lst [0, 1, 2, 3, 4, 5, 7, 8, 9, 10, 11, 12, 13, 14]) .last)) := by
  refine any_step (i := 6) (p := .last) (r := (.alt 15 .last .last)) hk' (by kernel_rfl) (by kernel_rfl) (bb_mem _) (fun _ h => (by cases h)) ?_
  refine alts_step' (p := .last) 11 0 hk' (by kernel_rfl) (by kernel_rfl) (bb_mem _) (fun _ h => (by cases h)) ?_ ?_
  · simp only [go_sem, simprocAttr, hbOps, hbO, st, bb, List.cons_append, List.nil_append]
    intro g6
    exact any_sub' (hb_0123456 hk' hn hkk h0 h9 hJ g2 g6 g7 g8 g9) (by kernel_rfl) (by simp only [go_sem, simprocAttr, st, List.cons_append, List.nil_append]; simp)
  refine alts_step' (p := .last) 15 0 hk' (by kernel_rfl) (by kernel_rfl) (bb_mem _) (fun _ h => (by cases h)) ?_ ?_
  · simp only [go_sem, simprocAttr, hbOps, hbO, st, bb, List.cons_append, List.nil_append]
    intro g15
    exact any_sub' (hb_0134567 hk' hn hkk h0 h9 hJ g2 g7 g8 g9 g15) (by kernel_rfl) (by simp only [go_sem, simprocAttr, st, List.cons_append, List.nil_append]; simp)
  exact alts_last
theorem hb_01345 (g2 : Nat) (g7 : Nat) (g8 : Nat) (g9 : Nat) : Ok ⟨w, Non, Non, 94⟩ (st wh n gg gd dc w G2 [(25, .c (.s 10 g2 0 1 1)), (28, .c (.v (.int .i64 (-1 - kk)))), (30, .c (.s 12 g7 0 2 2)), (31, .c (.s 13 g8 0 2 2)), (32, .c (.s 14 g9 0 0 0))] [⟨10, g2, 3, [.v (.int .i64 6)]⟩, ⟨12, g7, 3, [.v (.int .i64 0), .v (.int .i64 0)]⟩, ⟨13, g8, 3, [.v (.int .i64 1), .v (.int .i64 2)]⟩, ⟨14, g9, 3, []⟩]) (sem Try.prog (.inv J k') (.any hbOps (bb gg gd dc) [] 6 (lst [0, 1, 2, 3, 4, 5, 7, 8, 9, 10, 11, 12]) .last)) := by
  refine any_step (i := 6) (p := .last) (r := (.alt 13 .last .last)) hk' (by kernel_rfl) (by kernel_rfl) (bb_mem _) (fun _ h => (by cases h)) ?_
  refine alts_step' (p := .last) 11 0 hk' (by kernel_rfl) (by kernel_rfl) (bb_mem _) (fun _ h => (by cases h)) ?_ ?_
  · simp only [go_sem, simprocAttr, hbOps, hbO, st, bb, List.cons_append, List.nil_append]
    intro g6
    exact any_sub' (hb_012345 hk' hn hkk h0 h9 hJ g2 g6 g7 g8 g9) (by kernel_rfl) (by simp only [go_sem, simprocAttr, st, List.cons_append, List.nil_append]; simp)
  refine alts_step' (p := (.take 14 .last)) 9 1 hk' (by kernel_rfl) (by kernel_rfl) (bb_mem _) (fun _ h => (by cases h)) ?_ ?_
  · simp only [go_sem, simprocAttr, hbOps, hbO, st, bb, List.cons_append, List.nil_append]
    refine any_ok2 (N := 1) (call_does (fun v _ => v = .int .i64 kk) rfl rfl (by kernel_rfl) rfl (by simp only [dOk_some, dOk_none, Nat.reduceLT]) (fun G hG => pick9 hn hkk G)) hk' rfl (by first | exact .inl rfl | exact .inr ⟨_, _, rfl, rfl⟩) (by intro _ hK; obtain ⟨_, _, _, _, rfl⟩ := hK; exact ⟨rfl, fun _ h => h⟩) ?_
    rintro _ ⟨_, G7, rfl, hn7, rfl⟩
    clear hn7
    simp only [go_sem, simprocAttr, decide_true, decide_false, Bool.not_true, Bool.not_false, cond_true, cond_false, beq_self_eq_true, and_self, ne_eq, not_true_eq_false, not_false_eq_true, reduceCtorEq, Bool.true_beq, Bool.false_beq]
    refine ⟨by omega, ?_⟩
    exact any_sub' (hb_013456 hk' hn hkk h0 h9 hJ g2 g7 g8 g9) (by kernel_rfl) (by simp only [go_sem, simprocAttr, st, List.cons_append, List.nil_append]; simp)
  exact alts_last
theorem hb_013467 (g2 : Nat) (g7 : Nat) (g8 : Nat) (g15 : Nat) : Ok ⟨w, Non, Non, 94⟩ (st wh n gg gd dc w G2 [(25, .c (.s 10 g2 0 1 1)), (28, .c (.v (.int .i64 (-1 - kk)))), (30, .c (.s 12 g7 0 2 2)), (31, .c (.s 13 g8 0 2 2)), (38, .c (.s 15 g15 0 1 1))] [⟨10, g2, 3, [.v (.int .i64 6)]⟩, ⟨12, g7, 3, [.v (.int .i64 0), .v (.int .i64 0)]⟩, ⟨13, g8, 3, [.v (.int .i64 1), .v (.int .i64 2)]⟩, ⟨15, g15, 3, [.v (.int .i64 (6 + kk))]⟩]) (sem Try.prog (.inv J k') (.any hbOps (bb gg gd dc) [] 4 (lst [0, 1, 2, 3, 4, 5, 7, 8, 10, 11, 12, 13, 14, 15]) .last)) := by
  refine any_step (i := 6) (p := .last) (r := (.alt 9 .last .last)) hk' (by kernel_rfl) (by kernel_rfl) (bb_mem _) (fun _ h => (by cases h)) ?_
  refine alts_step' (p := .last) 11 0 hk' (by kernel_rfl) (by kernel_rfl) (bb_mem _) (fun _ h => (by cases h)) ?_ ?_
  · simp only [go_sem, simprocAttr, hbOps, hbO, st, bb, List.cons_append, List.nil_append]
    intro g6
    exact any_sub' (hb_0123467 hk' hn hkk h0 h9 hJ g2 g6 g7 g8 g15) (by kernel_rfl) (by simp only [go_sem, simprocAttr, st, List.cons_append, List.nil_append]; simp)
  refine alts_step' (p := .last) 14 0 hk' (by kernel_rfl) (by kernel_rfl) (bb_mem _) (fun _ h => (by cases h)) ?_ ?_
  · simp only [go_sem, simprocAttr, hbOps, hbO, st, bb, List.cons_append, List.nil_append]
    intro g9
    exact any_sub' (hb_0134567 hk' hn hkk h0 h9 hJ g2 g7 g8 g9 g15) (by kernel_rfl) (by simp only [go_sem, simprocAttr, st, List.cons_append, List.nil_append]; simp)
  exact alts_last
theorem hb_01346 (g2 : Nat) (g7 : Nat) (g8 : Nat) : Ok ⟨w, Non, Non, 94⟩ (st wh n gg gd dc w G2 [(25, .c (.s 10 g2 0 1 1)), (28, .c (.v (.int .i64 (-1 - kk)))), (30, .c (.s 12 g7 0 2 2)), (31, .c (.s 13 g8 0 2 2)), (37, .c (.v (.int .i64 (6 + kk))))] [⟨10, g2, 3, [.v (.int .i64 6)]⟩, ⟨12, g7, 3, [.v (.int .i64 0), .v (.int .i64 0)]⟩, ⟨13, g8, 3, [.v (.int .i64 1), .v (.int .i64 2)]⟩]) (sem Try.prog (.inv J k') (.any hbOps (bb gg gd dc) [] 5 (lst [0, 1, 2, 3, 4, 5, 7, 8, 10, 11, 12, 13, 14]) .last)) := by
  refine any_step (i := 6) (p := .last) (r := (.alt 9 .last (.alt 15 .last .last))) hk' (by kernel_rfl) (by kernel_rfl) (bb_mem _) (fun _ h => (by cases h)) ?_
  refine alts_step' (p := .last) 11 0 hk' (by kernel_rfl) (by kernel_rfl) (bb_mem _) (fun _ h => (by cases h)) ?_ ?_
  · simp only [go_sem, simprocAttr, hbOps, hbO, st, bb, List.cons_append, List.nil_append]
    intro g6
    exact any_sub' (hb_012346 hk' hn hkk h0 h9 hJ g2 g6 g7 g8) (by kernel_rfl) (by simp only [go_sem, simprocAttr, st, List.cons_append, List.nil_append]; simp)
  refine alts_step' (p := .last) 14 0 hk' (by kernel_rfl) (by kernel_rfl) (bb_mem _) (fun _ h => (by cases h)) ?_ ?_
  · simp only [go_sem, simprocAttr, hbOps, hbO, st, bb, List.cons_append, List.nil_append]
    intro g9
    exact any_sub' (hb_013456 hk' hn hkk h0 h9 hJ g2 g7 g8 g9) (by kernel_rfl) (by simp only [go_sem, simprocAttr, st, List.cons_append, List.nil_append]; simp)
  refine alts_step' (p := .last) 15 0 hk' (by kernel_rfl) (by kernel_rfl) (bb_mem _) (fun _ h => (by cases h)) ?_ ?_
  · simp only [go_sem, simprocAttr, hbOps, hbO, st, bb, List.cons_append, List.nil_append]
    intro g15
    exact any_sub' (hb_013467 hk' hn hkk h0 h9 hJ g2 g7 g8 g15) (by kernel_rfl) (by simp only [go_sem, simprocAttr, st, List.cons_append, List.nil_append]; simp)
  exact alts_last
theorem hb_0134 (g2 : Nat) (g7 : Nat) (g8 : Nat) : Ok ⟨w, Non, Non, 94⟩ (st wh n gg gd dc w G2 [(25, .c (.s 10 g2 0 1 1)), (28, .c (.v (.int .i64 (-1 - kk)))), (30, .c (.s 12 g7 0 2 2)), (31, .c (.s 13 g8 0 2 2))] [⟨10, g2, 3, [.v (.int .i64 6)]⟩, ⟨12, g7, 3, [.v (.int .i64 0), .v (.int .i64 0)]⟩, ⟨13, g8, 3, [.v (.int .i64 1), .v (.int .i64 2)]⟩]) (sem Try.prog (.inv J k') (.any hbOps (bb gg gd dc) [] 7 (lst [0, 1, 2, 3, 4, 5, 7, 8, 10, 11, 12]) .last)) := by
  refine any_step (i := 6) (p := .last) (r := (.alt 9 .last (.alt 13 .last .last))) hk' (by kernel_rfl) (by kernel_rfl) (bb_mem _) (fun _ h => (by cases h)) ?_
  refine alts_step' (p := .last) 11 0 hk' (by kernel_rfl) (by kernel_rfl) (bb_mem _) (fun _ h => (by cases h)) ?_ ?_
  · simp only [go_sem, simprocAttr, hbOps, hbO, st, bb, List.cons_append, List.nil_append]
    intro g6
    exact any_sub' (hb_01234 hk' hn hkk h0 h9 hJ g2 g6 g7 g8) (by kernel_rfl) (by simp only [go_sem, simprocAttr, st, List.cons_append, List.nil_append]; simp)
  refine alts_step' (p := .last) 14 0 hk' (by kernel_rfl) (by kernel_rfl) (bb_mem _) (fun _ h => (by cases h)) ?_ ?_
  · simp only [go_sem, simprocAttr, hbOps, hbO, st, bb, List.cons_append, List.nil_append]
    intro g9
    exact any_sub' (hb_01345 hk' hn hkk h0 h9 hJ g2 g7 g8 g9) (by kernel_rfl) (by simp only [go_sem, simprocAttr, st, List.cons_append, List.nil_append]; simp)
  refine alts_step' (p := (.take 14 .last)) 9 1 hk' (by kernel_rfl) (by kernel_rfl) (bb_mem _) (fun _ h => (by cases h)) ?_ ?_
  · simp only [go_sem, simprocAttr, hbOps, hbO, st, bb, List.cons_append, List.nil_append]
    refine any_ok2 (N := 1) (call_does (fun v _ => v = .int .i64 kk) rfl rfl (by kernel_rfl) rfl (by simp only [dOk_some, dOk_none, Nat.reduceLT]) (fun G hG => pick9 hn hkk G)) hk' rfl (by first | exact .inl rfl | exact .inr ⟨_, _, rfl, rfl⟩) (by intro _ hK; obtain ⟨_, _, _, _, rfl⟩ := hK; exact ⟨rfl, fun _ h => h⟩) ?_
    rintro _ ⟨_, G7, rfl, hn7, rfl⟩
    clear hn7
    simp only [go_sem, simprocAttr, decide_true, decide_false, Bool.not_true, Bool.not_false, cond_true, cond_false, beq_self_eq_true, and_self, ne_eq, not_true_eq_false, not_false_eq_true, reduceCtorEq, Bool.true_beq, Bool.false_beq]
    refine ⟨by omega, ?_⟩
    exact any_sub' (hb_01346 hk' hn hkk h0 h9 hJ g2 g7 g8) (by kernel_rfl) (by simp only [go_sem, simprocAttr, st, List.cons_append, List.nil_append]; simp)
  exact alts_last
theorem hb_013567 (g2 : Nat) (g7 : Nat) (g9 : Nat) (g15 : Nat) : Ok ⟨w, Non, Non, 94⟩ (st wh n gg gd dc w G2 [(25, .c (.s 10 g2 0 1 1)), (28, .c (.v (.int .i64 (-1 - kk)))), (30, .c (.s 12 g7 0 2 2)), (32, .c (.s 14 g9 0 0 0)), (38, .c (.s 15 g15 0 1 1))] [⟨10, g2, 3, [.v (.int .i64 6)]⟩, ⟨12, g7, 3, [.v (.int .i64 0), .v (.int .i64 0)]⟩, ⟨14, g9, 3, []⟩, ⟨15, g15, 3, [.v (.int .i64 (6 + kk))]⟩]) (sem Try.prog (.inv J k') (.any hbOps (bb gg gd dc) [] 4 (lst [0, 1, 2, 3, 4, 5, 7, 9, 10, 11, 12, 13, 14, 15]) .last)) := by
  refine any_step (i := 6) (p := .last) (r := (.alt 8 .last .last)) hk' (by kernel_rfl) (by kernel_rfl) (bb_mem _) (fun _ h => (by cases h)) ?_
  refine alts_step' (p := .last) 11 0 hk' (by kernel_rfl) (by kernel_rfl) (bb_mem _) (fun _ h => (by cases h)) ?_ ?_
  · simp only [go_sem, simprocAttr, hbOps, hbO, st, bb, List.cons_append, List.nil_append]
    intro g6
    exact any_sub' (hb_0123567 hk' hn hkk h0 h9 hJ g2 g6 g7 g9 g15) (by kernel_rfl) (by simp only [go_sem, simprocAttr, st, List.cons_append, List.nil_append]; simp)
  refine alts_step' (p := .last) 13 0 hk' (by kernel_rfl) (by kernel_rfl) (bb_mem _) (fun _ h => (by cases h)) ?_ ?_
  · simp only [go_sem, simprocAttr, hbOps, hbO, st, bb, List.cons_append, List.nil_append]
    intro g8
    exact any_sub' (hb_0134567 hk' hn hkk h0 h9 hJ g2 g7 g8 g9 g15) (by kernel_rfl) (by simp only [go_sem, simprocAttr, st, List.cons_append, List.nil_append]; simp)
  exact alts_last
theorem hb_01356 (g2 : Nat) (g7 : Nat) (g9 : Nat) : Ok ⟨w, Non, Non, 94⟩ (st wh n gg gd dc w G2 [(25, .c (.s 10 g2 0 1 1)), (28, .c (.v (.int .i64 (-1 - kk)))), (30, .c (.s 12 g7 0 2 2)), (32, .c (.s 14 g9 0 0 0)), (37, .c (.v (.int .i64 (6 + kk))))] [⟨10, g2, 3, [.v (.int .i64 6)]⟩, ⟨12, g7, 3, [.v (.int .i64 0), .v (.int .i64 0)]⟩, ⟨14, g9, 3, []⟩]) (sem Try.prog (.inv J k') (.any hbOps (bb gg gd dc) [] 5 (lst [0, 1, 2, 3, 4, 5, 7, 9, 10, 11, 12, 13, 14]) .last)) := by
  refine any_step (i := 6) (p := .last) (r := (.alt 8 .last (.alt 15 .last .last))) hk' (by kernel_rfl) (by kernel_rfl) (bb_mem _) (fun _ h => (by cases h)) ?_
  refine alts_step' (p := .last) 11 0 hk' (by kernel_rfl) (by kernel_rfl) (bb_mem _) (fun _ h => (by cases h)) ?_ ?_
  · simp only [go_sem, simprocAttr, hbOps, hbO, st, bb, List.cons_append, List.nil_append]
    intro g6
    exact any_sub' (hb_012356 hk' hn hkk h0 h9 hJ g2 g6 g7 g9) (by kernel_rfl) (by simp only [go_sem, simprocAttr, st, List.cons_append, List.nil_append]; simp)
  refine alts_step' (p := .last) 13 0 hk' (by kernel_rfl) (by kernel_rfl) (bb_mem _) (fun _ h => (by cases h)) ?_ ?_
  · simp only [go_sem, simprocAttr, hbOps, hbO, st, bb, List.cons_append, List.nil_append]
    intro g8
    exact any_sub' (hb_013456 hk' hn hkk h0 h9 hJ g2 g7 g8 g9) (by kernel_rfl) (by simp only [go_sem, simprocAttr, st, List.cons_append, List.nil_append]; simp)
  refine alts_step' (p := .last) 15 0 hk' (by kernel_rfl) (by kernel_rfl) (bb_mem _) (fun _ h => (by cases h)) ?_ ?_
  · simp only [go_sem, simprocAttr, hbOps, hbO, st, bb, List.cons_append, List.nil_append]
    intro g15
    exact any_sub' (hb_013567 hk' hn hkk h0 h9 hJ g2 g7 g9 g15) (by kernel_rfl) (by simp only [go_sem, simprocAttr, st, List.cons_append, List.nil_append]; simp)
  exact alts_last
theorem hb_0135 (g2 : Nat) (g7 : Nat) (g9 : Nat) : Ok ⟨w, Non, Non, 94⟩ (st wh n gg gd dc w G2 [(25, .c (.s 10 g2 0 1 1)), (28, .c (.v (.int .i64 (-1 - kk)))), (30, .c (.s 12 g7 0 2 2)), (32, .c (.s 14 g9 0 0 0))] [⟨10, g2, 3, [.v (.int .i64 6)]⟩, ⟨12, g7, 3, [.v (.int .i64 0), .v (.int .i64 0)]⟩, ⟨14, g9, 3, []⟩]) (sem Try.prog (.inv J k') (.any hbOps (bb gg gd dc) [] 7 (lst [0, 1, 2, 3, 4, 5, 7, 9, 10, 11, 12]) .last)) := by
  refine any_step (i := 6) (p := .last) (r := (.alt 8 .last (.alt 13 .last .last))) hk' (by kernel_rfl) (by kernel_rfl) (bb_mem _) (fun _ h => (by cases h)) ?_
  refine alts_step' (p := .last) 11 0 hk' (by kernel_rfl) (by kernel_rfl) (bb_mem _) (fun _ h => (by cases h)) ?_ ?_
  · simp only [go_sem, simprocAttr, hbOps, hbO, st, bb, List.cons_append, List.nil_append]
    intro g6
    exact any_sub' (hb_01235 hk' hn hkk h0 h9 hJ g2 g6 g7 g9) (by kernel_rfl) (by simp only [go_sem, simprocAttr, st, List.cons_append, List.nil_append]; simp)
  refine alts_step' (p := .last) 13 0 hk' (by kernel_rfl) (by kernel_rfl) (bb_mem _) (fun _ h => (by cases h)) ?_ ?_
  · simp only [go_sem, simprocAttr, hbOps, hbO, st, bb, List.cons_append, List.nil_append]
    intro g8
    exact any_sub' (hb_01345 hk' hn hkk h0 h9 hJ g2 g7 g8 g9) (by kernel_rfl) (by simp only [go_sem, simprocAttr, st, List.cons_append, List.nil_append]; simp)
  refine alts_step' (p := (.take 14 .last)) 9 1 hk' (by kernel_rfl) (by kernel_rfl) (bb_mem _) (fun _ h => (by cases h)) ?_ ?_
  · simp only [go_sem, simprocAttr, hbOps, hbO, st, bb, List.cons_append, List.nil_append]
    refine any_ok2 (N := 1) (call_does (fun v _ => v = .int .i64 kk) rfl rfl (by kernel_rfl) rfl (by simp only [dOk_some, dOk_none, Nat.reduceLT]) (fun G hG => pick9 hn hkk G)) hk' rfl (by first | exact .inl rfl | exact .inr ⟨_, _, rfl, rfl⟩) (by intro _ hK; obtain ⟨_, _, _, _, rfl⟩ := hK; exact ⟨rfl, fun _ h => h⟩) ?_
    rintro _ ⟨_, G7, rfl, hn7, rfl⟩
    clear hn7
    simp only [go_sem, simprocAttr, decide_true, decide_false, Bool.not_true, Bool.not_false, cond_true, cond_false, beq_self_eq_true, and_self, ne_eq, not_true_eq_false, not_false_eq_true, reduceCtorEq, Bool.true_beq, Bool.false_beq]
    refine ⟨by omega, ?_⟩
    exact any_sub' (hb_01356 hk' hn hkk h0 h9 hJ g2 g7 g9) (by kernel_rfl) (by simp only [go_sem, simprocAttr, st, List.cons_append, List.nil_append]; simp)
  exact alts_last
theorem hb_01367 (g2 : Nat) (g7 : Nat) (g15 : Nat) : Ok ⟨w, Non, Non, 94⟩ (st wh n gg gd dc w G2 [(25, .c (.s 10 g2 0 1 1)), (28, .c (.v (.int .i64 (-1 - kk)))), (30, .c (.s 12 g7 0 2 2)), (38, .c (.s 15 g15 0 1 1))] [⟨10, g2, 3, [.v (.int .i64 6)]⟩, ⟨12, g7, 3, [.v (.int .i64 0), .v (.int .i64 0)]⟩, ⟨15, g15, 3, [.v (.int .i64 (6 + kk))]⟩]) (sem Try.prog (.inv J k') (.any hbOps (bb gg gd dc) [] 5 (lst [0, 1, 2, 3, 4, 5, 7, 10, 11, 12, 13, 14, 15]) .last)) := by
  refine any_step (i := 6) (p := .last) (r := (.alt 8 .last (.alt 9 .last .last))) hk' (by kernel_rfl) (by kernel_rfl) (bb_mem _) (fun _ h => (by cases h)) ?_
  refine alts_step' (p := .last) 11 0 hk' (by kernel_rfl) (by kernel_rfl) (bb_mem _) (fun _ h => (by cases h)) ?_ ?_
  · simp only [go_sem, simprocAttr, hbOps, hbO, st, bb, List.cons_append, List.nil_append]
    intro g6
    exact any_sub' (hb_012367 hk' hn hkk h0 h9 hJ g2 g6 g7 g15) (by kernel_rfl) (by simp only [go_sem, simprocAttr, st, List.cons_append, List.nil_append]; simp)
  refine alts_step' (p := .last) 13 0 hk' (by kernel_rfl) (by kernel_rfl) (bb_mem _) (fun _ h => (by cases h)) ?_ ?_
  · simp only [go_sem, simprocAttr, hbOps, hbO, st, bb, List.cons_append, List.nil_append]
    intro g8
    exact any_sub' (hb_013467 hk' hn hkk h0 h9 hJ g2 g7 g8 g15) (by kernel_rfl) (by simp only [go_sem, simprocAttr, st, List.cons_append, List.nil_append]; simp)
  refine alts_step' (p := .last) 14 0 hk' (by kernel_rfl) (by kernel_rfl) (bb_mem _) (fun _ h => (by cases h)) ?_ ?_
  · simp only [go_sem, simprocAttr, hbOps, hbO, st, bb, List.cons_append, List.nil_append]
    intro g9
    exact any_sub' (hb_013567 hk' hn hkk h0 h9 hJ g2 g7 g9 g15) (by kernel_rfl) (by simp only [go_sem, simprocAttr, st, List.cons_append, List.nil_append]; simp)
  exact alts_last
theorem hb_0136 (g2 : Nat) (g7 : Nat) : Ok ⟨w, Non, Non, 94⟩ (st wh n gg gd dc w G2 [(25, .c (.s 10 g2 0 1 1)), (28, .c (.v (.int .i64 (-1 - kk)))), (30, .c (.s 12 g7 0 2 2)), (37, .c (.v (.int .i64 (6 + kk))))] [⟨10, g2, 3, [.v (.int .i64 6)]⟩, ⟨12, g7, 3, [.v (.int .i64 0), .v (.int .i64 0)]⟩]) (sem Try.prog (.inv J k') (.any hbOps (bb gg gd dc) [] 6 (lst [0, 1, 2, 3, 4, 5, 7, 10, 11, 12, 13, 14]) .last)) := by
  refine any_step (i := 6) (p := .last) (r := (.alt 8 .last (.alt 9 .last (.alt 15 .last .last)))) hk' (by kernel_rfl) (by kernel_rfl) (bb_mem _) (fun _ h => (by cases h)) ?_
  refine alts_step' (p := .last) 11 0 hk' (by kernel_rfl) (by kernel_rfl) (bb_mem _) (fun _ h => (by cases h)) ?_ ?_
  · simp only [go_sem, simprocAttr, hbOps, hbO, st, bb, List.cons_append, List.nil_append]
    intro g6
    exact any_sub' (hb_01236 hk' hn hkk h0 h9 hJ g2 g6 g7) (by kernel_rfl) (by simp only [go_sem, simprocAttr, st, List.cons_append, List.nil_append]; simp)
  refine alts_step' (p := .last) 13 0 hk' (by kernel_rfl) (by kernel_rfl) (bb_mem _) (fun _ h => (by cases h)) ?_ ?_
  · simp only [go_sem, simprocAttr, hbOps, hbO, st, bb, List.cons_append, List.nil_append]
    intro g8
    exact any_sub' (hb_01346 hk' hn hkk h0 h9 hJ g2 g7 g8) (by kernel_rfl) (by simp only [go_sem, simprocAttr, st, List.cons_append, List.nil_append]; simp)
  refine alts_step' (p := .last) 14 0 hk' (by kernel_rfl) (by kernel_rfl) (bb_mem _) (fun _ h => (by cases h)) ?_ ?_
  · simp only [go_sem, simprocAttr, hbOps, hbO, st, bb, List.cons_append, List.nil_append]
    intro g9
    exact any_sub' (hb_01356 hk' hn hkk h0 h9 hJ g2 g7 g9) (by kernel_rfl) (by simp only [go_sem, simprocAttr, st, List.cons_append, List.nil_append]; simp)
  refine alts_step' (p := .last) 15 0 hk' (by kernel_rfl) (by kernel_rfl) (bb_mem _) (fun _ h => (by cases h)) ?_ ?_
  · simp only [go_sem, simprocAttr, hbOps, hbO, st, bb, List.cons_append, List.nil_append]
    intro g15
    exact any_sub' (hb_01367 hk' hn hkk h0 h9 hJ g2 g7 g15) (by kernel_rfl) (by simp only [go_sem, simprocAttr, st, List.cons_append, List.nil_append]; simp)
  exact alts_last
theorem hb_013 (g2 : Nat) (g7 : Nat) : Ok ⟨w, Non, Non, 94⟩ (st wh n gg gd dc w G2 [(25, .c (.s 10 g2 0 1 1)), (28, .c (.v (.int .i64 (-1 - kk)))), (30, .c (.s 12 g7 0 2 2))] [⟨10, g2, 3, [.v (.int .i64 6)]⟩, ⟨12, g7, 3, [.v (.int .i64 0), .v (.int .i64 0)]⟩]) (sem Try.prog (.inv J k') (.any hbOps (bb gg gd dc) [] 8 (lst [0, 1, 2, 3, 4, 5, 7, 10, 11, 12]) .last)) := by
  refine any_step (i := 6) (p := .last) (r := (.alt 8 .last (.alt 9 .last (.alt 13 .last .last)))) hk' (by kernel_rfl) (by kernel_rfl) (bb_mem _) (fun _ h => (by cases h)) ?_
  refine alts_step' (p := .last) 11 0 hk' (by kernel_rfl) (by kernel_rfl) (bb_mem _) (fun _ h => (by cases h)) ?_ ?_
  · simp only [go_sem, simprocAttr, hbOps, hbO, st, bb, List.cons_append, List.nil_append]
    intro g6
    exact any_sub' (hb_0123 hk' hn hkk h0 h9 hJ g2 g6 g7) (by kernel_rfl) (by simp only [go_sem, simprocAttr, st, List.cons_append, List.nil_append]; simp)
  refine alts_step' (p := .last) 13 0 hk' (by kernel_rfl) (by kernel_rfl) (bb_mem _) (fun _ h => (by cases h)) ?_ ?_
  · simp only [go_sem, simprocAttr, hbOps, hbO, st, bb, List.cons_append, List.nil_append]
    intro g8
    exact any_sub' (hb_0134 hk' hn hkk h0 h9 hJ g2 g7 g8) (by kernel_rfl) (by simp only [go_sem, simprocAttr, st, List.cons_append, List.nil_append]; simp)
  refine alts_step' (p := .last) 14 0 hk' (by kernel_rfl) (by kernel_rfl) (bb_mem _) (fun _ h => (by cases h)) ?_ ?_
  · simp only [go_sem, simprocAttr, hbOps, hbO, st, bb, List.cons_append, List.nil_append]
    intro g9
    exact any_sub' (hb_0135 hk' hn hkk h0 h9 hJ g2 g7 g9) (by kernel_rfl) (by simp only [go_sem, simprocAttr, st, List.cons_append, List.nil_append]; simp)
  refine alts_step' (p := (.take 14 .last)) 9 1 hk' (by kernel_rfl) (by kernel_rfl) (bb_mem _) (fun _ h => (by cases h)) ?_ ?_
  · simp only [go_sem, simprocAttr, hbOps, hbO, st, bb, List.cons_append, List.nil_append]
    refine any_ok2 (N := 1) (call_does (fun v _ => v = .int .i64 kk) rfl rfl (by kernel_rfl) rfl (by simp only [dOk_some, dOk_none, Nat.reduceLT]) (fun G hG => pick9 hn hkk G)) hk' rfl (by first | exact .inl rfl | exact .inr ⟨_, _, rfl, rfl⟩) (by intro _ hK; obtain ⟨_, _, _, _, rfl⟩ := hK; exact ⟨rfl, fun _ h => h⟩) ?_
    rintro _ ⟨_, G7, rfl, hn7, rfl⟩
    clear hn7
    simp only [go_sem, simprocAttr, decide_true, decide_false, Bool.not_true, Bool.not_false, cond_true, cond_false, beq_self_eq_true, and_self, ne_eq, not_true_eq_false, not_false_eq_true, reduceCtorEq, Bool.true_beq, Bool.false_beq]
    refine ⟨by omega, ?_⟩
    exact any_sub' (hb_0136 hk' hn hkk h0 h9 hJ g2 g7) (by kernel_rfl) (by simp only [go_sem, simprocAttr, st, List.cons_append, List.nil_append]; simp)
  exact alts_last
theorem hb_014567 (g2 : Nat) (g8 : Nat) (g9 : Nat) (g15 : Nat) : Ok ⟨w, Non, Non, 94⟩ (st wh n gg gd dc w G2 [(25, .c (.s 10 g2 0 1 1)), (28, .c (.v (.int .i64 (-1 - kk)))), (31, .c (.s 13 g8 0 2 2)), (32, .c (.s 14 g9 0 0 0)), (38, .c (.s 15 g15 0 1 1))] [⟨10, g2, 3, [.v (.int .i64 6)]⟩, ⟨13, g8, 3, [.v (.int .i64 1), .v (.int .i64 2)]⟩, ⟨14, g9, 3, []⟩, ⟨15, g15, 3, [.v (.int .i64 (6 + kk))]⟩]) (sem Try.prog (.inv J k') (.any hbOps (bb gg gd dc) [] 4 (lst [0, 1, 2, 3, 4, 5, 8, 9, 10, 11, 12, 13, 14, 15]) .last)) := by
  refine any_step (i := 6) (p := .last) (r := (.alt 7 .last .last)) hk' (by kernel_rfl) (by kernel_rfl) (bb_mem _) (fun _ h => (by cases h)) ?_
  refine alts_step' (p := .last) 11 0 hk' (by kernel_rfl) (by kernel_rfl) (bb_mem _) (fun _ h => (by cases h)) ?_ ?_
  · simp only [go_sem, simprocAttr, hbOps, hbO, st, bb, List.cons_append, List.nil_append]
    intro g6
    exact any_sub' (hb_0124567 hk' hn hkk h0 h9 hJ g2 g6 g8 g9 g15) (by kernel_rfl) (by simp only [go_sem, simprocAttr, st, List.cons_append, List.nil_append]; simp)
  refine alts_step' (p := .last) 12 0 hk' (by kernel_rfl) (by kernel_rfl) (bb_mem _) (fun _ h => (by cases h)) ?_ ?_
  · simp only [go_sem, simprocAttr, hbOps, hbO, st, bb, List.cons_append, List.nil_append]
    intro g7
    exact any_sub' (hb_0134567 hk' hn hkk h0 h9 hJ g2 g7 g8 g9 g15) (by kernel_rfl) (by simp only [go_sem, simprocAttr, st, List.cons_append, List.nil_append]; simp)
  exact alts_last
theorem hb_01456 (g2 : Nat) (g8 : Nat) (g9 : Nat) : Ok ⟨w, Non, Non, 94⟩ (st wh n gg gd dc w G2 [(25, .c (.s 10 g2 0 1 1)), (28, .c (.v (.int .i64 (-1 - kk)))), (31, .c (.s 13 g8 0 2 2)), (32, .c (.s 14 g9 0 0 0)), (37, .c (.v (.int .i64 (6 + kk))))] [⟨10, g2, 3, [.v (.int .i64 6)]⟩, ⟨13, g8, 3, [.v (.int .i64 1), .v (.int .i64 2)]⟩, ⟨14, g9, 3, []⟩]) (sem Try.prog (.inv J k') (.any hbOps (bb gg gd dc) [] 5 (lst [0, 1, 2, 3, 4, 5, 8, 9, 10, 11, 12, 13, 14]) .last)) := by
  refine any_step (i := 6) (p := .last) (r := (.alt 7 .last (.alt 15 .last .last))) hk' (by kernel_rfl) (by kernel_rfl) (bb_mem _) (fun _ h => (by cases h)) ?_
  refine alts_step' (p := .last) 11 0 hk' (by kernel_rfl) (by kernel_rfl) (bb_mem _) (fun _ h => (by cases h)) ?_ ?_
  · simp only [go_sem, simprocAttr, hbOps, hbO, st, bb, List.cons_append, List.nil_append]
    intro g6
    exact any_sub' (hb_012456 hk' hn hkk h0 h9 hJ g2 g6 g8 g9) (by kernel_rfl) (by simp only [go_sem, simprocAttr, st, List.cons_append, List.nil_append]; simp)
  refine alts_step' (p := .last) 12 0 hk' (by kernel_rfl) (by kernel_rfl) (bb_mem _) (fun _ h => (by cases h)) ?_ ?_
  · simp only [go_sem, simprocAttr, hbOps, hbO, st, bb, List.cons_append, List.nil_append]
    intro g7
    exact any_sub' (hb_013456 hk' hn hkk h0 h9 hJ g2 g7 g8 g9) (by kernel_rfl) (by simp only [go_sem, simprocAttr, st, List.cons_append, List.nil_append]; simp)
  refine alts_step' (p := .last) 15 0 hk' (by kernel_rfl) (by kernel_rfl) (bb_mem _) (fun _ h => (by cases h)) ?_ ?_
  · simp only [go_sem, simprocAttr, hbOps, hbO, st, bb, List.cons_append, List.nil_append]
    intro g15
    exact any_sub' (hb_014567 hk' hn hkk h0 h9 hJ g2 g8 g9 g15) (by kernel_rfl) (by simp only [go_sem, simprocAttr, st, List.cons_append, List.nil_append]; simp)
  exact alts_last
theorem hb_0145 (g2 : Nat) (g8 : Nat) (g9 : Nat) : Ok ⟨w, Non, Non, 94⟩ (st wh n gg gd dc w G2 [(25, .c (.s 10 g2 0 1 1)), (28, .c (.v (.int .i64 (-1 - kk)))), (31, .c (.s 13 g8 0 2 2)), (32, .c (.s 14 g9 0 0 0))] [⟨10, g2, 3, [.v (.int .i64 6)]⟩, ⟨13, g8, 3, [.v (.int .i64 1), .v (.int .i64 2)]⟩, ⟨14, g9, 3, []⟩]) (sem Try.prog (.inv J k') (.any hbOps (bb gg gd dc) [] 7 (lst [0, 1, 2, 3, 4, 5, 8, 9, 10, 11, 12]) .last)) := by
  refine any_step (i := 6) (p := .last) (r := (.alt 7 .last (.alt 13 .last .last))) hk' (by kernel_rfl) (by kernel_rfl) (bb_mem _) (fun _ h => (by cases h)) ?_
  refine alts_step' (p := .last) 11 0 hk' (by kernel_rfl) (by kernel_rfl) (bb_mem _) (fun _ h => (by cases h)) ?_ ?_
  · simp only [go_sem, simprocAttr, hbOps, hbO, st, bb, List.cons_append, List.nil_append]
    intro g6
    exact any_sub' (hb_01245 hk' hn hkk h0 h9 hJ g2 g6 g8 g9) (by kernel_rfl) (by simp only [go_sem, simprocAttr, st, List.cons_append, List.nil_append]; simp)
  refine alts_step' (p := .last) 12 0 hk' (by kernel_rfl) (by kernel_rfl) (bb_mem _) (fun _ h => (by cases h)) ?_ ?_
  · simp only [go_sem, simprocAttr, hbOps, hbO, st, bb, List.cons_append, List.nil_append]
    intro g7
    exact any_sub' (hb_01345 hk' hn hkk h0 h9 hJ g2 g7 g8 g9) (by kernel_rfl) (by simp only [go_sem, simprocAttr, st, List.cons_append, List.nil_append]; simp)
  refine alts_step' (p := (.take 14 .last)) 9 1 hk' (by kernel_rfl) (by kernel_rfl) (bb_mem _) (fun _ h => (by cases h)) ?_ ?_
  · simp only [go_sem, simprocAttr, hbOps, hbO, st, bb, List.cons_append, List.nil_append]
    refine any_ok2 (N := 1) (call_does (fun v _ => v = .int .i64 kk) rfl rfl (by kernel_rfl) rfl (by simp only [dOk_some, dOk_none, Nat.reduceLT]) (fun G hG => pick9 hn hkk G)) hk' rfl (by first | exact .inl rfl | exact .inr ⟨_, _, rfl, rfl⟩) (by intro _ hK; obtain ⟨_, _, _, _, rfl⟩ := hK; exact ⟨rfl, fun _ h => h⟩) ?_
    rintro _ ⟨_, G7, rfl, hn7, rfl⟩
    clear hn7
    simp only [go_sem, simprocAttr, decide_true, decide_false, Bool.not_true, Bool.not_false, cond_true, cond_false, beq_self_eq_true, and_self, ne_eq, not_true_eq_false, not_false_eq_true, reduceCtorEq, Bool.true_beq, Bool.false_beq]
    refine ⟨by omega, ?_⟩
    exact any_sub' (hb_01456 hk' hn hkk h0 h9 hJ g2 g8 g9) (by kernel_rfl) (by simp only [go_sem, simprocAttr, st, List.cons_append, List.nil_append]; simp)
  exact alts_last
theorem hb_01467 (g2 : Nat) (g8 : Nat) (g15 : Nat) : Ok ⟨w, Non, Non, 94⟩ (st wh n gg gd dc w G2 [(25, .c (.s 10 g2 0 1 1)), (28, .c (.v (.int .i64 (-1 - kk)))), (31, .c (.s 13 g8 0 2 2)), (38, .c (.s 15 g15 0 1 1))] [⟨10, g2, 3, [.v (.int .i64 6)]⟩, ⟨13, g8, 3, [.v (.int .i64 1), .v (.int .i64 2)]⟩, ⟨15, g15, 3, [.v (.int .i64 (6 + kk))]⟩]) (sem Try.prog (.inv J k') (.any hbOps (bb gg gd dc) [] 5 (lst [0, 1, 2, 3, 4, 5, 8, 10, 11, 12, 13, 14, 15]) .last)) := by
  refine any_step (i := 6) (p := .last) (r := (.alt 7 .last (.alt 9 .last .last))) hk' (by kernel_rfl) (by kernel_rfl) (bb_mem _) (fun _ h => (by cases h)) ?_
  refine alts_step' (p := .last) 11 0 hk' (by kernel_rfl) (by kernel_rfl) (bb_mem _) (fun _ h => (by cases h)) ?_ ?_
  · simp only [go_sem, simprocAttr, hbOps, hbO, st, bb, List.cons_append, List.nil_append]
    intro g6
    exact any_sub' (hb_012467 hk' hn hkk h0 h9 hJ g2 g6 g8 g15) (by kernel_rfl) (by simp only [go_sem, simprocAttr, st, List.cons_append, List.nil_append]; simp)
  refine alts_step' (p := .last) 12 0 hk' (by kernel_rfl) (by kernel_rfl) (bb_mem _) (fun _ h => (by cases h)) ?_ ?_
  · simp only [go_sem, simprocAttr, hbOps, hbO, st, bb, List.cons_append, List.nil_append]
    intro g7
    exact any_sub' (hb_013467 hk' hn hkk h0 h9 hJ g2 g7 g8 g15) (by kernel_rfl) (by simp only [go_sem, simprocAttr, st, List.cons_append, List.nil_append]; simp)
  refine alts_step' (p := .last) 14 0 hk' (by kernel_rfl) (by kernel_rfl) (bb_mem _) (fun _ h => (by cases h)) ?_ ?_
  · simp only [go_sem, simprocAttr, hbOps, hbO, st, bb, List.cons_append, List.nil_append]
    intro g9
    exact any_sub' (hb_014567 hk' hn hkk h0 h9 hJ g2 g8 g9 g15) (by kernel_rfl) (by simp only [go_sem, simprocAttr, st, List.cons_append, List.nil_append]; simp)
  exact alts_last
theorem hb_0146 (g2 : Nat) (g8 : Nat) : Ok ⟨w, Non, Non, 94⟩ (st wh n gg gd dc w G2 [(25, .c (.s 10 g2 0 1 1)), (28, .c (.v (.int .i64 (-1 - kk)))), (31, .c (.s 13 g8 0 2 2)), (37, .c (.v (.int .i64 (6 + kk))))] [⟨10, g2, 3, [.v (.int .i64 6)]⟩, ⟨13, g8, 3, [.v (.int .i64 1), .v (.int .i64 2)]⟩]) (sem Try.prog (.inv J k') (.any hbOps (bb gg gd dc) [] 6 (lst [0, 1, 2, 3, 4, 5, 8, 10, 11, 12, 13, 14]) .last)) := by
  refine any_step (i := 6) (p := .last) (r := (.alt 7 .last (.alt 9 .last (.alt 15 .last .last)))) hk' (by kernel_rfl) (by kernel_rfl) (bb_mem _) (fun _ h => (by cases h)) ?_
  refine alts_step' (p := .last) 11 0 hk' (by kernel_rfl) (by kernel_rfl) (bb_mem _) (fun _ h => (by cases h)) ?_ ?_
  · simp only [go_sem, simprocAttr, hbOps, hbO, st, bb, List.cons_append, List.nil_append]
    intro g6
    exact any_sub' (hb_01246 hk' hn hkk h0 h9 hJ g2 g6 g8) (by kernel_rfl) (by simp only [go_sem, simprocAttr, st, List.cons_append, List.nil_append]; simp)
  refine alts_step' (p := .last) 12 0 hk' (by kernel_rfl) (by kernel_rfl) (bb_mem _) (fun _ h => (by cases h)) ?_ ?_
  · simp only [go_sem, simprocAttr, hbOps, hbO, st, bb, List.cons_append, List.nil_append]
    intro g7
    exact any_sub' (hb_01346 hk' hn hkk h0 h9 hJ g2 g7 g8) (by kernel_rfl) (by simp only [go_sem, simprocAttr, st, List.cons_append, List.nil_append]; simp)
  refine alts_step' (p := .last) 14 0 hk' (by kernel_rfl) (by kernel_rfl) (bb_mem _) (fun _ h => (by cases h)) ?_ ?_
  · simp only [go_sem, simprocAttr, hbOps, hbO, st, bb, List.cons_append, List.nil_append]
    intro g9
    exact any_sub' (hb_01456 hk' hn hkk h0 h9 hJ g2 g8 g9) (by kernel_rfl) (by simp only [go_sem, simprocAttr, st, List.cons_append, List.nil_append]; simp)
  refine alts_step' (p := .last) 15 0 hk' (by kernel_rfl) (by kernel_rfl) (bb_mem _) (fun _ h => (by cases h)) ?_ ?_
  · simp only [go_sem, simprocAttr, hbOps, hbO, st, bb, List.cons_append, List.nil_append]
    intro g15
    exact any_sub' (hb_01467 hk' hn hkk h0 h9 hJ g2 g8 g15) (by kernel_rfl) (by simp only [go_sem, simprocAttr, st, List.cons_append, List.nil_append]; simp)
  exact alts_last
theorem hb_014 (g2 : Nat) (g8 : Nat) : Ok ⟨w, Non, Non, 94⟩ (st wh n gg gd dc w G2 [(25, .c (.s 10 g2 0 1 1)), (28, .c (.v (.int .i64 (-1 - kk)))), (31, .c (.s 13 g8 0 2 2))] [⟨10, g2, 3, [.v (.int .i64 6)]⟩, ⟨13, g8, 3, [.v (.int .i64 1), .v (.int .i64 2)]⟩]) (sem Try.prog (.inv J k') (.any hbOps (bb gg gd dc) [] 8 (lst [0, 1, 2, 3, 4, 5, 8, 10, 11, 12]) .last)) := by
  refine any_step (i := 6) (p := .last) (r := (.alt 7 .last (.alt 9 .last (.alt 13 .last .last)))) hk' (by kernel_rfl) (by kernel_rfl) (bb_mem _) (fun _ h => (by cases h)) ?_
  refine alts_step' (p := .last) 11 0 hk' (by kernel_rfl) (by kernel_rfl) (bb_mem _) (fun _ h => (by cases h)) ?_ ?_
  · simp only [go_sem, simprocAttr, hbOps, hbO, st, bb, List.cons_append, List.nil_append]
    intro g6
    exact any_sub' (hb_0124 hk' hn hkk h0 h9 hJ g2 g6 g8) (by kernel_rfl) (by simp only [go_sem, simprocAttr, st, List.cons_append, List.nil_append]; simp)
  refine alts_step' (p := .last) 12 0 hk' (by kernel_rfl) (by kernel_rfl) (bb_mem _) (fun _ h => (by cases h)) ?_ ?_
  · simp only [go_sem, simprocAttr, hbOps, hbO, st, bb, List.cons_append, List.nil_append]
    intro g7
    exact any_sub' (hb_0134 hk' hn hkk h0 h9 hJ g2 g7 g8) (by kernel_rfl) (by simp only [go_sem, simprocAttr, st, List.cons_append, List.nil_append]; simp)
  refine alts_step' (p := .last) 14 0 hk' (by kernel_rfl) (by kernel_rfl) (bb_mem _) (fun _ h => (by cases h)) ?_ ?_
  · simp only [go_sem, simprocAttr, hbOps, hbO, st, bb, List.cons_append, List.nil_append]
    intro g9
    exact any_sub' (hb_0145 hk' hn hkk h0 h9 hJ g2 g8 g9) (by kernel_rfl) (by simp only [go_sem, simprocAttr, st, List.cons_append, List.nil_append]; simp)
  refine alts_step' (p := (.take 14 .last)) 9 1 hk' (by kernel_rfl) (by kernel_rfl) (bb_mem _) (fun _ h => (by cases h)) ?_ ?_
  · simp only [go_sem, simprocAttr, hbOps, hbO, st, bb, List.cons_append, List.nil_append]
    refine any_ok2 (N := 1) (call_does (fun v _ => v = .int .i64 kk) rfl rfl (by kernel_rfl) rfl (by simp only [dOk_some, dOk_none, Nat.reduceLT]) (fun G hG => pick9 hn hkk G)) hk' rfl (by first | exact .inl rfl | exact .inr ⟨_, _, rfl, rfl⟩) (by intro _ hK; obtain ⟨_, _, _, _, rfl⟩ := hK; exact ⟨rfl, fun _ h => h⟩) ?_
    rintro _ ⟨_, G7, rfl, hn7, rfl⟩
    clear hn7
    simp only [go_sem, simprocAttr, decide_true, decide_false, Bool.not_true, Bool.not_false, cond_true, cond_false, beq_self_eq_true, and_self, ne_eq, not_true_eq_false, not_false_eq_true, reduceCtorEq, Bool.true_beq, Bool.false_beq]
    refine ⟨by omega, ?_⟩
    exact any_sub' (hb_0146 hk' hn hkk h0 h9 hJ g2 g8) (by kernel_rfl) (by simp only [go_sem, simprocAttr, st, List.cons_append, List.nil_append]; simp)
  exact alts_last
theorem hb_01567 (g2 : Nat) (g9 : Nat) (g15 : Nat) : Ok ⟨w, Non, Non, 94⟩ (st wh n gg gd dc w G2 [(25, .c (.s 10 g2 0 1 1)), (28, .c (.v (.int .i64 (-1 - kk)))), (32, .c (.s 14 g9 0 0 0)), (38, .c (.s 15 g15 0 1 1))] [⟨10, g2, 3, [.v (.int .i64 6)]⟩, ⟨14, g9, 3, []⟩, ⟨15, g15, 3, [.v (.int .i64 (6 + kk))]⟩]) (sem Try.prog (.inv J k') (.any hbOps (bb gg gd dc) [] 5 (lst [0, 1, 2, 3, 4, 5, 9, 10, 11, 12, 13, 14, 15]) .last)) := by
  refine any_step (i := 6) (p := .last) (r := (.alt 7 .last (.alt 8 .last .last))) hk' (by kernel_rfl) (by kernel_rfl) (bb_mem _) (fun _ h => (by cases h)) ?_
  refine alts_step' (p := .last) 11 0 hk' (by kernel_rfl) (by kernel_rfl) (bb_mem _) (fun _ h => (by cases h)) ?_ ?_
  · simp only [go_sem, simprocAttr, hbOps, hbO, st, bb, List.cons_append, List.nil_append]
    intro g6
    exact any_sub' (hb_012567 hk' hn hkk h0 h9 hJ g2 g6 g9 g15) (by kernel_rfl) (by simp only [go_sem, simprocAttr, st, List.cons_append, List.nil_append]; simp)
  refine alts_step' (p := .last) 12 0 hk' (by kernel_rfl) (by kernel_rfl) (bb_mem _) (fun _ h => (by cases h)) ?_ ?_
  · simp only [go_sem, simprocAttr, hbOps, hbO, st, bb, List.cons_append, List.nil_append]
    intro g7
    exact any_sub' (hb_013567 hk' hn hkk h0 h9 hJ g2 g7 g9 g15) (by kernel_rfl) (by simp only [go_sem, simprocAttr, st, List.cons_append, List.nil_append]; simp)
  refine alts_step' (p := .last) 13 0 hk' (by kernel_rfl) (by kernel_rfl) (bb_mem _) (fun _ h => (by cases h)) ?_ ?_
  · simp only [go_sem, simprocAttr, hbOps, hbO, st, bb, List.cons_append, List.nil_append]
    intro g8
    exact any_sub' (hb_014567 hk' hn hkk h0 h9 hJ g2 g8 g9 g15) (by kernel_rfl) (by simp only [go_sem, simprocAttr, st, List.cons_append, List.nil_append]; simp)
  exact alts_last
theorem hb_0156 (g2 : Nat) (g9 : Nat) : Ok ⟨w, Non, Non, 94⟩ (st wh n gg gd dc w G2 [(25, .c (.s 10 g2 0 1 1)), (28, .c (.v (.int .i64 (-1 - kk)))), (32, .c (.s 14 g9 0 0 0)), (37, .c (.v (.int .i64 (6 + kk))))] [⟨10, g2, 3, [.v (.int .i64 6)]⟩, ⟨14, g9, 3, []⟩]) (sem Try.prog (.inv J k') (.any hbOps (bb gg gd dc) [] 6 (lst [0, 1, 2, 3, 4, 5, 9, 10, 11, 12, 13, 14]) .last)) := by
  refine any_step (i := 6) (p := .last) (r := (.alt 7 .last (.alt 8 .last (.alt 15 .last .last)))) hk' (by kernel_rfl) (by kernel_rfl) (bb_mem _) (fun _ h => (by cases h)) ?_
  refine alts_step' (p := .last) 11 0 hk' (by kernel_rfl) (by kernel_rfl) (bb_mem _) (fun _ h => (by cases h)) ?_ ?_
  · simp only [go_sem, simprocAttr, hbOps, hbO, st, bb, List.cons_append, List.nil_append]
    intro g6
    exact any_sub' (hb_01256 hk' hn hkk h0 h9 hJ g2 g6 g9) (by kernel_rfl) (by simp only [go_sem, simprocAttr, st, List.cons_append, List.nil_append]; simp)
  refine alts_step' (p := .last) 12 0 hk' (by kernel_rfl) (by kernel_rfl) (bb_mem _) (fun _ h => (by cases h)) ?_ ?_
  · simp only [go_sem, simprocAttr, hbOps, hbO, st, bb, List.cons_append, List.nil_append]
    intro g7
    exact any_sub' (hb_01356 hk' hn hkk h0 h9 hJ g2 g7 g9) (by kernel_rfl) (by simp only [go_sem, simprocAttr, st, List.cons_append, List.nil_append]; simp)
  refine alts_step' (p := .last) 13 0 hk' (by kernel_rfl) (by kernel_rfl) (bb_mem _) (fun _ h => (by cases h)) ?_ ?_
  · simp only [go_sem, simprocAttr, hbOps, hbO, st, bb, List.cons_append, List.nil_append]
    intro g8
    exact any_sub' (hb_01456 hk' hn hkk h0 h9 hJ g2 g8 g9) (by kernel_rfl) (by simp only [go_sem, simprocAttr, st, List.cons_append, List.nil_append]; simp)
  refine alts_step' (p := .last) 15 0 hk' (by kernel_rfl) (by kernel_rfl) (bb_mem _) (fun _ h => (by cases h)) ?_ ?_
  · simp only [go_sem, simprocAttr, hbOps, hbO, st, bb, List.cons_append, List.nil_append]
    intro g15
    exact any_sub' (hb_01567 hk' hn hkk h0 h9 hJ g2 g9 g15) (by kernel_rfl) (by simp only [go_sem, simprocAttr, st, List.cons_append, List.nil_append]; simp)
  exact alts_last
theorem hb_015 (g2 : Nat) (g9 : Nat) : Ok ⟨w, Non, Non, 94⟩ (st wh n gg gd dc w G2 [(25, .c (.s 10 g2 0 1 1)), (28, .c (.v (.int .i64 (-1 - kk)))), (32, .c (.s 14 g9 0 0 0))] [⟨10, g2, 3, [.v (.int .i64 6)]⟩, ⟨14, g9, 3, []⟩]) (sem Try.prog (.inv J k') (.any hbOps (bb gg gd dc) [] 8 (lst [0, 1, 2, 3, 4, 5, 9, 10, 11, 12]) .last)) := by
  refine any_step (i := 6) (p := .last) (r := (.alt 7 .last (.alt 8 .last (.alt 13 .last .last)))) hk' (by kernel_rfl) (by kernel_rfl) (bb_mem _) (fun _ h => (by cases h)) ?_
  refine alts_step' (p := .last) 11 0 hk' (by kernel_rfl) (by kernel_rfl) (bb_mem _) (fun _ h => (by cases h)) ?_ ?_
  · simp only [go_sem, simprocAttr, hbOps, hbO, st, bb, List.cons_append, List.nil_append]
    intro g6
    exact any_sub' (hb_0125 hk' hn hkk h0 h9 hJ g2 g6 g9) (by kernel_rfl) (by simp only [go_sem, simprocAttr, st, List.cons_append, List.nil_append]; simp)
  refine alts_step' (p := .last) 12 0 hk' (by kernel_rfl) (by kernel_rfl) (bb_mem _) (fun _ h => (by cases h)) ?_ ?_
  · simp only [go_sem, simprocAttr, hbOps, hbO, st, bb, List.cons_append, List.nil_append]
    intro g7
    exact any_sub' (hb_0135 hk' hn hkk h0 h9 hJ g2 g7 g9) (by kernel_rfl) (by simp only [go_sem, simprocAttr, st, List.cons_append, List.nil_append]; simp)
  refine alts_step' (p := .last) 13 0 hk' (by kernel_rfl) (by kernel_rfl) (bb_mem _) (fun _ h => (by cases h)) ?_ ?_
  · simp only [go_sem, simprocAttr, hbOps, hbO, st, bb, List.cons_append, List.nil_append]
    intro g8
    exact any_sub' (hb_0145 hk' hn hkk h0 h9 hJ g2 g8 g9) (by kernel_rfl) (by simp only [go_sem, simprocAttr, st, List.cons_append, List.nil_append]; simp)
  refine alts_step' (p := (.take 14 .last)) 9 1 hk' (by kernel_rfl) (by kernel_rfl) (bb_mem _) (fun _ h => (by cases h)) ?_ ?_
  · simp only [go_sem, simprocAttr, hbOps, hbO, st, bb, List.cons_append, List.nil_append]
    refine any_ok2 (N := 1) (call_does (fun v _ => v = .int .i64 kk) rfl rfl (by kernel_rfl) rfl (by simp only [dOk_some, dOk_none, Nat.reduceLT]) (fun G hG => pick9 hn hkk G)) hk' rfl (by first | exact .inl rfl | exact .inr ⟨_, _, rfl, rfl⟩) (by intro _ hK; obtain ⟨_, _, _, _, rfl⟩ := hK; exact ⟨rfl, fun _ h => h⟩) ?_
    rintro _ ⟨_, G7, rfl, hn7, rfl⟩
    clear hn7
    simp only [go_sem, simprocAttr, decide_true, decide_false, Bool.not_true, Bool.not_false, cond_true, cond_false, beq_self_eq_true, and_self, ne_eq, not_true_eq_false, not_false_eq_true, reduceCtorEq, Bool.true_beq, Bool.false_beq]
    refine ⟨by omega, ?_⟩
    exact any_sub' (hb_0156 hk' hn hkk h0 h9 hJ g2 g9) (by kernel_rfl) (by simp only [go_sem, simprocAttr, st, List.cons_append, List.nil_append]; simp)
  exact alts_last
theorem hb_0167 (g2 : Nat) (g15 : Nat) : Ok ⟨w, Non, Non, 94⟩ (st wh n gg gd dc w G2 [(25, .c (.s 10 g2 0 1 1)), (28, .c (.v (.int .i64 (-1 - kk)))), (38, .c (.s 15 g15 0 1 1))] [⟨10, g2, 3, [.v (.int .i64 6)]⟩, ⟨15, g15, 3, [.v (.int .i64 (6 + kk))]⟩]) (sem Try.prog (.inv J k') (.any hbOps (bb gg gd dc) [] 6 (lst [0, 1, 2, 3, 4, 5, 10, 11, 12, 13, 14, 15]) .last)) := by
  refine any_step (i := 6) (p := .last) (r := (.alt 7 .last (.alt 8 .last (.alt 9 .last .last)))) hk' (by kernel_rfl) (by kernel_rfl) (bb_mem _) (fun _ h => (by cases h)) ?_
  refine alts_step' (p := .last) 11 0 hk' (by kernel_rfl) (by kernel_rfl) (bb_mem _) (fun _ h => (by cases h)) ?_ ?_
  · simp only [go_sem, simprocAttr, hbOps, hbO, st, bb, List.cons_append, List.nil_append]
    intro g6
    exact any_sub' (hb_01267 hk' hn hkk h0 h9 hJ g2 g6 g15) (by kernel_rfl) (by simp only [go_sem, simprocAttr, st, List.cons_append, List.nil_append]; simp)
  refine alts_step' (p := .last) 12 0 hk' (by kernel_rfl) (by kernel_rfl) (bb_mem _) (fun _ h => (by cases h)) ?_ ?_
  · simp only [go_sem, simprocAttr, hbOps, hbO, st, bb, List.cons_append, List.nil_append]
    intro g7
    exact any_sub' (hb_01367 hk' hn hkk h0 h9 hJ g2 g7 g15) (by kernel_rfl) (by simp only [go_sem, simprocAttr, st, List.cons_append, List.nil_append]; simp)
  refine alts_step' (p := .last) 13 0 hk' (by kernel_rfl) (by kernel_rfl) (bb_mem _) (fun _ h => (by cases h)) ?_ ?_
  · simp only [go_sem, simprocAttr, hbOps, hbO, st, bb, List.cons_append, List.nil_append]
    intro g8
    exact any_sub' (hb_01467 hk' hn hkk h0 h9 hJ g2 g8 g15) (by kernel_rfl) (by simp only [go_sem, simprocAttr, st, List.cons_append, List.nil_append]; simp)
  refine alts_step' (p := .last) 14 0 hk' (by kernel_rfl) (by kernel_rfl) (bb_mem _) (fun _ h => (by cases h)) ?_ ?_
  · simp only [go_sem, simprocAttr, hbOps, hbO, st, bb, List.cons_append, List.nil_append]
    intro g9
    exact any_sub' (hb_01567 hk' hn hkk h0 h9 hJ g2 g9 g15) (by kernel_rfl) (by simp only [go_sem, simprocAttr, st, List.cons_append, List.nil_append]; simp)
  exact alts_last
theorem hb_016 (g2 : Nat) : Ok ⟨w, Non, Non, 94⟩ (st wh n gg gd dc w G2 [(25, .c (.s 10 g2 0 1 1)), (28, .c (.v (.int .i64 (-1 - kk)))), (37, .c (.v (.int .i64 (6 + kk))))] [⟨10, g2, 3, [.v (.int .i64 6)]⟩]) (sem Try.prog (.inv J k') (.any hbOps (bb gg gd dc) [] 7 (lst [0, 1, 2, 3, 4, 5, 10, 11, 12, 13, 14]) .last)) := by
  refine any_step (i := 6) (p := .last) (r := (.alt 7 .last (.alt 8 .last (.alt 9 .last (.alt 15 .last .last))))) hk' (by kernel_rfl) (by kernel_rfl) (bb_mem _) (fun _ h => (by cases h)) ?_
  refine alts_step' (p := .last) 11 0 hk' (by kernel_rfl) (by kernel_rfl) (bb_mem _) (fun _ h => (by cases h)) ?_ ?_
  · simp only [go_sem, simprocAttr, hbOps, hbO, st, bb, List.cons_append, List.nil_append]
    intro g6
    exact any_sub' (hb_0126 hk' hn hkk h0 h9 hJ g2 g6) (by kernel_rfl) (by simp only [go_sem, simprocAttr, st, List.cons_append, List.nil_append]; simp)
  refine alts_step' (p := .last) 12 0 hk' (by kernel_rfl) (by kernel_rfl) (bb_mem _) (fun _ h => (by cases h)) ?_ ?_
  · simp only [go_sem, simprocAttr, hbOps, hbO, st, bb, List.cons_append, List.nil_append]
    intro g7
    exact any_sub' (hb_0136 hk' hn hkk h0 h9 hJ g2 g7) (by kernel_rfl) (by simp only [go_sem, simprocAttr, st, List.cons_append, List.nil_append]; simp)
  refine alts_step' (p := .last) 13 0 hk' (by kernel_rfl) (by kernel_rfl) (bb_mem _) (fun _ h => (by cases h)) ?_ ?_
  · simp only [go_sem, simprocAttr, hbOps, hbO, st, bb, List.cons_append, List.nil_append]
    intro g8
    exact any_sub' (hb_0146 hk' hn hkk h0 h9 hJ g2 g8) (by kernel_rfl) (by simp only [go_sem, simprocAttr, st, List.cons_append, List.nil_append]; simp)
  refine alts_step' (p := .last) 14 0 hk' (by kernel_rfl) (by kernel_rfl) (bb_mem _) (fun _ h => (by cases h)) ?_ ?_
  · simp only [go_sem, simprocAttr, hbOps, hbO, st, bb, List.cons_append, List.nil_append]
    intro g9
    exact any_sub' (hb_0156 hk' hn hkk h0 h9 hJ g2 g9) (by kernel_rfl) (by simp only [go_sem, simprocAttr, st, List.cons_append, List.nil_append]; simp)
  refine alts_step' (p := .last) 15 0 hk' (by kernel_rfl) (by kernel_rfl) (bb_mem _) (fun _ h => (by cases h)) ?_ ?_
  · simp only [go_sem, simprocAttr, hbOps, hbO, st, bb, List.cons_append, List.nil_append]
    intro g15
    exact any_sub' (hb_0167 hk' hn hkk h0 h9 hJ g2 g15) (by kernel_rfl) (by simp only [go_sem, simprocAttr, st, List.cons_append, List.nil_append]; simp)
  exact alts_last
theorem hb_01 (g2 : Nat) : Ok ⟨w, Non, Non, 94⟩ (st wh n gg gd dc w G2 [(25, .c (.s 10 g2 0 1 1)), (28, .c (.v (.int .i64 (-1 - kk))))] [⟨10, g2, 3, [.v (.int .i64 6)]⟩]) (sem Try.prog (.inv J k') (.any hbOps (bb gg gd dc) [] 9 (lst [0, 1, 2, 3, 4, 5, 10, 11, 12]) .last)) := by
  refine any_step (i := 6) (p := .last) (r := (.alt 7 .last (.alt 8 .last (.alt 9 .last (.alt 13 .last .last))))) hk' (by kernel_rfl) (by kernel_rfl) (bb_mem _) (fun _ h => (by cases h)) ?_
  refine alts_step' (p := .last) 11 0 hk' (by kernel_rfl) (by kernel_rfl) (bb_mem _) (fun _ h => (by cases h)) ?_ ?_
  · simp only [go_sem, simprocAttr, hbOps, hbO, st, bb, List.cons_append, List.nil_append]
    intro g6
    exact any_sub' (hb_012 hk' hn hkk h0 h9 hJ g2 g6) (by kernel_rfl) (by simp only [go_sem, simprocAttr, st, List.cons_append, List.nil_append]; simp)
  refine alts_step' (p := .last) 12 0 hk' (by kernel_rfl) (by kernel_rfl) (bb_mem _) (fun _ h => (by cases h)) ?_ ?_
  · simp only [go_sem, simprocAttr, hbOps, hbO, st, bb, List.cons_append, List.nil_append]
    intro g7
    exact any_sub' (hb_013 hk' hn hkk h0 h9 hJ g2 g7) (by kernel_rfl) (by simp only [go_sem, simprocAttr, st, List.cons_append, List.nil_append]; simp)
  refine alts_step' (p := .last) 13 0 hk' (by kernel_rfl) (by kernel_rfl) (bb_mem _) (fun _ h => (by cases h)) ?_ ?_
  · simp only [go_sem, simprocAttr, hbOps, hbO, st, bb, List.cons_append, List.nil_append]
    intro g8
    exact any_sub' (hb_014 hk' hn hkk h0 h9 hJ g2 g8) (by kernel_rfl) (by simp only [go_sem, simprocAttr, st, List.cons_append, List.nil_append]; simp)
  refine alts_step' (p := .last) 14 0 hk' (by kernel_rfl) (by kernel_rfl) (bb_mem _) (fun _ h => (by cases h)) ?_ ?_
  · simp only [go_sem, simprocAttr, hbOps, hbO, st, bb, List.cons_append, List.nil_append]
    intro g9
    exact any_sub' (hb_015 hk' hn hkk h0 h9 hJ g2 g9) (by kernel_rfl) (by simp only [go_sem, simprocAttr, st, List.cons_append, List.nil_append]; simp)
  refine alts_step' (p := (.take 14 .last)) 9 1 hk' (by kernel_rfl) (by kernel_rfl) (bb_mem _) (fun _ h => (by cases h)) ?_ ?_
  · simp only [go_sem, simprocAttr, hbOps, hbO, st, bb, List.cons_append, List.nil_append]
    refine any_ok2 (N := 1) (call_does (fun v _ => v = .int .i64 kk) rfl rfl (by kernel_rfl) rfl (by simp only [dOk_some, dOk_none, Nat.reduceLT]) (fun G hG => pick9 hn hkk G)) hk' rfl (by first | exact .inl rfl | exact .inr ⟨_, _, rfl, rfl⟩) (by intro _ hK; obtain ⟨_, _, _, _, rfl⟩ := hK; exact ⟨rfl, fun _ h => h⟩) ?_
    rintro _ ⟨_, G7, rfl, hn7, rfl⟩
    clear hn7
    simp only [go_sem, simprocAttr, decide_true, decide_false, Bool.not_true, Bool.not_false, cond_true, cond_false, beq_self_eq_true, and_self, ne_eq, not_true_eq_false, not_false_eq_true, reduceCtorEq, Bool.true_beq, Bool.false_beq]
    refine ⟨by omega, ?_⟩
    exact any_sub' (hb_016 hk' hn hkk h0 h9 hJ g2) (by kernel_rfl) (by simp only [go_sem, simprocAttr, st, List.cons_append, List.nil_append]; simp)
  exact alts_last
theorem hb_0345 (g2 : Nat) (g7 : Nat) (g8 : Nat) (g9 : Nat) : Ok ⟨w, Non, Non, 94⟩ (st wh n gg gd dc w G2 [(25, .c (.s 10 g2 0 1 1)), (30, .c (.s 12 g7 0 2 2)), (31, .c (.s 13 g8 0 2 2)), (32, .c (.s 14 g9 0 0 0))] [⟨10, g2, 3, [.v (.int .i64 6)]⟩, ⟨12, g7, 3, [.v (.int .i64 0), .v (.int .i64 0)]⟩, ⟨13, g8, 3, [.v (.int .i64 1), .v (.int .i64 2)]⟩, ⟨14, g9, 3, []⟩]) (sem Try.prog (.inv J k') (.any hbOps (bb gg gd dc) [] 8 (lst [0, 1, 2, 3, 7, 8, 9, 10, 11, 12]) .last)) := by
  refine any_step (i := 4) (p := .last) (r := .last) hk' (by kernel_rfl) (by kernel_rfl) (bb_mem _) (fun _ h => (by cases h)) ?_
  refine alts_step' (p := (.take 5 .last)) 9 1 hk' (by kernel_rfl) (by kernel_rfl) (bb_mem _) (fun _ h => (by cases h)) ?_ ?_
  · simp only [go_sem, simprocAttr, hbOps, hbO, st, bb, List.cons_append, List.nil_append]
    refine any_ok2 (N := 1) (call_does (fun v _ => v = .int .i64 kk) rfl rfl (by kernel_rfl) rfl (by simp only [dOk_some, dOk_none, Nat.reduceLT]) (fun G hG => pick9 hn hkk G)) hk' rfl (by first | exact .inl rfl | exact .inr ⟨_, _, rfl, rfl⟩) (by intro _ hK; obtain ⟨_, _, _, _, rfl⟩ := hK; exact ⟨rfl, fun _ h => h⟩) ?_
    rintro _ ⟨_, G7, rfl, hn7, rfl⟩
    clear hn7
    simp only [go_sem, simprocAttr, decide_true, decide_false, Bool.not_true, Bool.not_false, cond_true, cond_false, beq_self_eq_true, and_self, ne_eq, not_true_eq_false, not_false_eq_true, reduceCtorEq, Bool.true_beq, Bool.false_beq]
    refine ⟨by omega, ?_⟩
    exact any_sub' (hb_01345 hk' hn hkk h0 h9 hJ g2 g7 g8 g9) (by kernel_rfl) (by simp only [go_sem, simprocAttr, st, List.cons_append, List.nil_append]; simp)
  exact alts_last
theorem hb_034 (g2 : Nat) (g7 : Nat) (g8 : Nat) : Ok ⟨w, Non, Non, 94⟩ (st wh n gg gd dc w G2 [(25, .c (.s 10 g2 0 1 1)), (30, .c (.s 12 g7 0 2 2)), (31, .c (.s 13 g8 0 2 2))] [⟨10, g2, 3, [.v (.int .i64 6)]⟩, ⟨12, g7, 3, [.v (.int .i64 0), .v (.int .i64 0)]⟩, ⟨13, g8, 3, [.v (.int .i64 1), .v (.int .i64 2)]⟩]) (sem Try.prog (.inv J k') (.any hbOps (bb gg gd dc) [] 9 (lst [0, 1, 2, 3, 7, 8, 10, 11, 12]) .last)) := by
  refine any_step (i := 4) (p := .last) (r := (.alt 9 .last .last)) hk' (by kernel_rfl) (by kernel_rfl) (bb_mem _) (fun _ h => (by cases h)) ?_
  refine alts_step' (p := (.take 5 .last)) 9 1 hk' (by kernel_rfl) (by kernel_rfl) (bb_mem _) (fun _ h => (by cases h)) ?_ ?_
  · simp only [go_sem, simprocAttr, hbOps, hbO, st, bb, List.cons_append, List.nil_append]
    refine any_ok2 (N := 1) (call_does (fun v _ => v = .int .i64 kk) rfl rfl (by kernel_rfl) rfl (by simp only [dOk_some, dOk_none, Nat.reduceLT]) (fun G hG => pick9 hn hkk G)) hk' rfl (by first | exact .inl rfl | exact .inr ⟨_, _, rfl, rfl⟩) (by intro _ hK; obtain ⟨_, _, _, _, rfl⟩ := hK; exact ⟨rfl, fun _ h => h⟩) ?_
    rintro _ ⟨_, G7, rfl, hn7, rfl⟩
    clear hn7
    simp only [go_sem, simprocAttr, decide_true, decide_false, Bool.not_true, Bool.not_false, cond_true, cond_false, beq_self_eq_true, and_self, ne_eq, not_true_eq_false, not_false_eq_true, reduceCtorEq, Bool.true_beq, Bool.false_beq]
    refine ⟨by omega, ?_⟩
    exact any_sub' (hb_0134 hk' hn hkk h0 h9 hJ g2 g7 g8) (by kernel_rfl) (by simp only [go_sem, simprocAttr, st, List.cons_append, List.nil_append]; simp)
  refine alts_step' (p := .last) 14 0 hk' (by kernel_rfl) (by kernel_rfl) (bb_mem _) (fun _ h => (by cases h)) ?_ ?_
  · simp only [go_sem, simprocAttr, hbOps, hbO, st, bb, List.cons_append, List.nil_append]
    intro g9
    exact any_sub' (hb_0345 hk' hn hkk h0 h9 hJ g2 g7 g8 g9) (by kernel_rfl) (by simp only [go_sem, simprocAttr, st, List.cons_append, List.nil_append]; simp)
  exact alts_last
theorem hb_035 (g2 : Nat) (g7 : Nat) (g9 : Nat) : Ok ⟨w, Non, Non, 94⟩ (st wh n gg gd dc w G2 [(25, .c (.s 10 g2 0 1 1)), (30, .c (.s 12 g7 0 2 2)), (32, .c (.s 14 g9 0 0 0))] [⟨10, g2, 3, [.v (.int .i64 6)]⟩, ⟨12, g7, 3, [.v (.int .i64 0), .v (.int .i64 0)]⟩, ⟨14, g9, 3, []⟩]) (sem Try.prog (.inv J k') (.any hbOps (bb gg gd dc) [] 9 (lst [0, 1, 2, 3, 7, 9, 10, 11, 12]) .last)) := by
  refine any_step (i := 4) (p := .last) (r := (.alt 8 .last .last)) hk' (by kernel_rfl) (by kernel_rfl) (bb_mem _) (fun _ h => (by cases h)) ?_
  refine alts_step' (p := (.take 5 .last)) 9 1 hk' (by kernel_rfl) (by kernel_rfl) (bb_mem _) (fun _ h => (by cases h)) ?_ ?_
  · simp only [go_sem, simprocAttr, hbOps, hbO, st, bb, List.cons_append, List.nil_append]
    refine any_ok2 (N := 1) (call_does (fun v _ => v = .int .i64 kk) rfl rfl (by kernel_rfl) rfl (by simp only [dOk_some, dOk_none, Nat.reduceLT]) (fun G hG => pick9 hn hkk G)) hk' rfl (by first | exact .inl rfl | exact .inr ⟨_, _, rfl, rfl⟩) (by intro _ hK; obtain ⟨_, _, _, _, rfl⟩ := hK; exact ⟨rfl, fun _ h => h⟩) ?_
    rintro _ ⟨_, G7, rfl, hn7, rfl⟩
    clear hn7
    simp only [go_sem, simprocAttr, decide_true, decide_false, Bool.not_true, Bool.not_false, cond_true, cond_false, beq_self_eq_true, and_self, ne_eq, not_true_eq_false, not_false_eq_true, reduceCtorEq, Bool.true_beq, Bool.false_beq]
    refine ⟨by omega, ?_⟩
    exact any_sub' (hb_0135 hk' hn hkk h0 h9 hJ g2 g7 g9) (by kernel_rfl) (by simp only [go_sem, simprocAttr, st, List.cons_append, List.nil_append]; simp)
  refine alts_step' (p := .last) 13 0 hk' (by kernel_rfl) (by kernel_rfl) (bb_mem _) (fun _ h => (by cases h)) ?_ ?_
  · simp only [go_sem, simprocAttr, hbOps, hbO, st, bb, List.cons_append, List.nil_append]
    intro g8
    exact any_sub' (hb_0345 hk' hn hkk h0 h9 hJ g2 g7 g8 g9) (by kernel_rfl) (by simp only [go_sem, simprocAttr, st, List.cons_append, List.nil_append]; simp)
  exact alts_last
theorem hb_03 (g2 : Nat) (g7 : Nat) : Ok ⟨w, Non, Non, 94⟩ (st wh n gg gd dc w G2 [(25, .c (.s 10 g2 0 1 1)), (30, .c (.s 12 g7 0 2 2))] [⟨10, g2, 3, [.v (.int .i64 6)]⟩, ⟨12, g7, 3, [.v (.int .i64 0), .v (.int .i64 0)]⟩]) (sem Try.prog (.inv J k') (.any hbOps (bb gg gd dc) [] 10 (lst [0, 1, 2, 3, 7, 10, 11, 12]) .last)) := by
  refine any_step (i := 4) (p := .last) (r := (.alt 8 .last (.alt 9 .last .last))) hk' (by kernel_rfl) (by kernel_rfl) (bb_mem _) (fun _ h => (by cases h)) ?_
  refine alts_step' (p := (.take 5 .last)) 9 1 hk' (by kernel_rfl) (by kernel_rfl) (bb_mem _) (fun _ h => (by cases h)) ?_ ?_
  · simp only [go_sem, simprocAttr, hbOps, hbO, st, bb, List.cons_append, List.nil_append]
    refine any_ok2 (N := 1) (call_does (fun v _ => v = .int .i64 kk) rfl rfl (by kernel_rfl) rfl (by simp only [dOk_some, dOk_none, Nat.reduceLT]) (fun G hG => pick9 hn hkk G)) hk' rfl (by first | exact .inl rfl | exact .inr ⟨_, _, rfl, rfl⟩) (by intro _ hK; obtain ⟨_, _, _, _, rfl⟩ := hK; exact ⟨rfl, fun _ h => h⟩) ?_
    rintro _ ⟨_, G7, rfl, hn7, rfl⟩
    clear hn7
    simp only [go_sem, simprocAttr, decide_true, decide_false, Bool.not_true, Bool.not_false, cond_true, cond_false, beq_self_eq_true, and_self, ne_eq, not_true_eq_false, not_false_eq_true, reduceCtorEq, Bool.true_beq, Bool.false_beq]
    refine ⟨by omega, ?_⟩
    exact any_sub' (hb_013 hk' hn hkk h0 h9 hJ g2 g7) (by kernel_rfl) (by simp only [go_sem, simprocAttr, st, List.cons_append, List.nil_append]; simp)
  refine alts_step' (p := .last) 13 0 hk' (by kernel_rfl) (by kernel_rfl) (bb_mem _) (fun _ h => (by cases h)) ?_ ?_
  · simp only [go_sem, simprocAttr, hbOps, hbO, st, bb, List.cons_append, List.nil_append]
    intro g8
    exact any_sub' (hb_034 hk' hn hkk h0 h9 hJ g2 g7 g8) (by kernel_rfl) (by simp only [go_sem, simprocAttr, st, List.cons_append, List.nil_append]; simp)
  refine alts_step' (p := .last) 14 0 hk' (by kernel_rfl) (by kernel_rfl) (bb_mem _) (fun _ h => (by cases h)) ?_ ?_
  · simp only [go_sem, simprocAttr, hbOps, hbO, st, bb, List.cons_append, List.nil_append]
    intro g9
    exact any_sub' (hb_035 hk' hn hkk h0 h9 hJ g2 g7 g9) (by kernel_rfl) (by simp only [go_sem, simprocAttr, st, List.cons_append, List.nil_append]; simp)
  exact alts_last
theorem hb_045 (g2 : Nat) (g8 : Nat) (g9 : Nat) : Ok ⟨w, Non, Non, 94⟩ (st wh n gg gd dc w G2 [(25, .c (.s 10 g2 0 1 1)), (31, .c (.s 13 g8 0 2 2)), (32, .c (.s 14 g9 0 0 0))] [⟨10, g2, 3, [.v (.int .i64 6)]⟩, ⟨13, g8, 3, [.v (.int .i64 1), .v (.int .i64 2)]⟩, ⟨14, g9, 3, []⟩]) (sem Try.prog (.inv J k') (.any hbOps (bb gg gd dc) [] 9 (lst [0, 1, 2, 3, 8, 9, 10, 11, 12]) .last)) := by
  refine any_step (i := 4) (p := .last) (r := (.alt 7 .last .last)) hk' (by kernel_rfl) (by kernel_rfl) (bb_mem _) (fun _ h => (by cases h)) ?_
  refine alts_step' (p := (.take 5 .last)) 9 1 hk' (by kernel_rfl) (by kernel_rfl) (bb_mem _) (fun _ h => (by cases h)) ?_ ?_
  · simp only [go_sem, simprocAttr, hbOps, hbO, st, bb, List.cons_append, List.nil_append]
    refine any_ok2 (N := 1) (call_does (fun v _ => v = .int .i64 kk) rfl rfl (by kernel_rfl) rfl (by simp only [dOk_some, dOk_none, Nat.reduceLT]) (fun G hG => pick9 hn hkk G)) hk' rfl (by first | exact .inl rfl | exact .inr ⟨_, _, rfl, rfl⟩) (by intro _ hK; obtain ⟨_, _, _, _, rfl⟩ := hK; exact ⟨rfl, fun _ h => h⟩) ?_
    rintro _ ⟨_, G7, rfl, hn7, rfl⟩
    clear hn7
    simp only [go_sem, simprocAttr, decide_true, decide_false, Bool.not_true, Bool.not_false, cond_true, cond_false, beq_self_eq_true, and_self, ne_eq, not_true_eq_false, not_false_eq_true, reduceCtorEq, Bool.true_beq, Bool.false_beq]
    refine ⟨by omega, ?_⟩
    exact any_sub' (hb_0145 hk' hn hkk h0 h9 hJ g2 g8 g9) (by kernel_rfl) (by simp only [go_sem, simprocAttr, st, List.cons_append, List.nil_append]; simp)
  refine alts_step' (p := .last) 12 0 hk' (by kernel_rfl) (by kernel_rfl) (bb_mem _) (fun _ h => (by cases h)) ?_ ?_
  · simp only [go_sem, simprocAttr, hbOps, hbO, st, bb, List.cons_append, List.nil_append]
    intro g7
    exact any_sub' (hb_0345 hk' hn hkk h0 h9 hJ g2 g7 g8 g9) (by kernel_rfl) (by simp only [go_sem, simprocAttr, st, List.cons_append, List.nil_append]; simp)
  exact alts_last
theorem hb_04 (g2 : Nat) (g8 : Nat) : Ok ⟨w, Non, Non, 94⟩ (st wh n gg gd dc w G2 [(25, .c (.s 10 g2 0 1 1)), (31, .c (.s 13 g8 0 2 2))] [⟨10, g2, 3, [.v (.int .i64 6)]⟩, ⟨13, g8, 3, [.v (.int .i64 1), .v (.int .i64 2)]⟩]) (sem Try.prog (.inv J k') (.any hbOps (bb gg gd dc) [] 10 (lst [0, 1, 2, 3, 8, 10, 11, 12]) .last)) := by
  refine any_step (i := 4) (p := .last) (r := (.alt 7 .last (.alt 9 .last .last))) hk' (by kernel_rfl) (by kernel_rfl) (bb_mem _) (fun _ h => (by cases h)) ?_
  refine alts_step' (p := (.take 5 .last)) 9 1 hk' (by kernel_rfl) (by kernel_rfl) (bb_mem _) (fun _ h => (by cases h)) ?_ ?_
  · simp only [go_sem, simprocAttr, hbOps, hbO, st, bb, List.cons_append, List.nil_append]
    refine any_ok2 (N := 1) (call_does (fun v _ => v = .int .i64 kk) rfl rfl (by kernel_rfl) rfl (by simp only [dOk_some, dOk_none, Nat.reduceLT]) (fun G hG => pick9 hn hkk G)) hk' rfl (by first | exact .inl rfl | exact .inr ⟨_, _, rfl, rfl⟩) (by intro _ hK; obtain ⟨_, _, _, _, rfl⟩ := hK; exact ⟨rfl, fun _ h => h⟩) ?_
    rintro _ ⟨_, G7, rfl, hn7, rfl⟩
    clear hn7
    simp only [go_sem, simprocAttr, decide_true, decide_false, Bool.not_true, Bool.not_false, cond_true, cond_false, beq_self_eq_true, and_self, ne_eq, not_true_eq_false, not_false_eq_true, reduceCtorEq, Bool.true_beq, Bool.false_beq]
    refine ⟨by omega, ?_⟩
    exact any_sub' (hb_014 hk' hn hkk h0 h9 hJ g2 g8) (by kernel_rfl) (by simp only [go_sem, simprocAttr, st, List.cons_append, List.nil_append]; simp)
  refine alts_step' (p := .last) 12 0 hk' (by kernel_rfl) (by kernel_rfl) (bb_mem _) (fun _ h => (by cases h)) ?_ ?_
  · simp only [go_sem, simprocAttr, hbOps, hbO, st, bb, List.cons_append, List.nil_append]
    intro g7
    exact any_sub' (hb_034 hk' hn hkk h0 h9 hJ g2 g7 g8) (by kernel_rfl) (by simp only [go_sem, simprocAttr, st, List.cons_append, List.nil_append]; simp)
  refine alts_step' (p := .last) 14 0 hk' (by kernel_rfl) (by kernel_rfl) (bb_mem _) (fun _ h => (by cases h)) ?_ ?_
  · simp only [go_sem, simprocAttr, hbOps, hbO, st, bb, List.cons_append, List.nil_append]
    intro g9
    exact any_sub' (hb_045 hk' hn hkk h0 h9 hJ g2 g8 g9) (by kernel_rfl) (by simp only [go_sem, simprocAttr, st, List.cons_append, List.nil_append]; simp)
  exact alts_last
theorem hb_05 (g2 : Nat) (g9 : Nat) : Ok ⟨w, Non, Non, 94⟩ (st wh n gg gd dc w G2 [(25, .c (.s 10 g2 0 1 1)), (32, .c (.s 14 g9 0 0 0))] [⟨10, g2, 3, [.v (.int .i64 6)]⟩, ⟨14, g9, 3, []⟩]) (sem Try.prog (.inv J k') (.any hbOps (bb gg gd dc) [] 10 (lst [0, 1, 2, 3, 9, 10, 11, 12]) .last)) := by
  refine any_step (i := 4) (p := .last) (r := (.alt 7 .last (.alt 8 .last .last))) hk' (by kernel_rfl) (by kernel_rfl) (bb_mem _) (fun _ h => (by cases h)) ?_
  refine alts_step' (p := (.take 5 .last)) 9 1 hk' (by kernel_rfl) (by kernel_rfl) (bb_mem _) (fun _ h => (by cases h)) ?_ ?_
  · simp only [go_sem, simprocAttr, hbOps, hbO, st, bb, List.cons_append, List.nil_append]
    refine any_ok2 (N := 1) (call_does (fun v _ => v = .int .i64 kk) rfl rfl (by kernel_rfl) rfl (by simp only [dOk_some, dOk_none, Nat.reduceLT]) (fun G hG => pick9 hn hkk G)) hk' rfl (by first | exact .inl rfl | exact .inr ⟨_, _, rfl, rfl⟩) (by intro _ hK; obtain ⟨_, _, _, _, rfl⟩ := hK; exact ⟨rfl, fun _ h => h⟩) ?_
    rintro _ ⟨_, G7, rfl, hn7, rfl⟩
    clear hn7
    simp only [go_sem, simprocAttr, decide_true, decide_false, Bool.not_true, Bool.not_false, cond_true, cond_false, beq_self_eq_true, and_self, ne_eq, not_true_eq_false, not_false_eq_true, reduceCtorEq, Bool.true_beq, Bool.false_beq]
    refine ⟨by omega, ?_⟩
    exact any_sub' (hb_015 hk' hn hkk h0 h9 hJ g2 g9) (by kernel_rfl) (by simp only [go_sem, simprocAttr, st, List.cons_append, List.nil_append]; simp)
  refine alts_step' (p := .last) 12 0 hk' (by kernel_rfl) (by kernel_rfl) (bb_mem _) (fun _ h => (by cases h)) ?_ ?_
  · simp only [go_sem, simprocAttr, hbOps, hbO, st, bb, List.cons_append, List.nil_append]
    intro g7
    exact any_sub' (hb_035 hk' hn hkk h0 h9 hJ g2 g7 g9) (by kernel_rfl) (by simp only [go_sem, simprocAttr, st, List.cons_append, List.nil_append]; simp)
  refine alts_step' (p := .last) 13 0 hk' (by kernel_rfl) (by kernel_rfl) (bb_mem _) (fun _ h => (by cases h)) ?_ ?_
  · simp only [go_sem, simprocAttr, hbOps, hbO, st, bb, List.cons_append, List.nil_append]
    intro g8
    exact any_sub' (hb_045 hk' hn hkk h0 h9 hJ g2 g8 g9) (by kernel_rfl) (by simp only [go_sem, simprocAttr, st, List.cons_append, List.nil_append]; simp)
  exact alts_last
theorem hb_0 (g2 : Nat) : Ok ⟨w, Non, Non, 94⟩ (st wh n gg gd dc w G2 [(25, .c (.s 10 g2 0 1 1))] [⟨10, g2, 3, [.v (.int .i64 6)]⟩]) (sem Try.prog (.inv J k') (.any hbOps (bb gg gd dc) [] 11 (lst [0, 1, 2, 3, 10, 11, 12]) .last)) := by
  refine any_step (i := 4) (p := .last) (r := (.alt 7 .last (.alt 8 .last (.alt 9 .last .last)))) hk' (by kernel_rfl) (by kernel_rfl) (bb_mem _) (fun _ h => (by cases h)) ?_
  refine alts_step' (p := (.take 5 .last)) 9 1 hk' (by kernel_rfl) (by kernel_rfl) (bb_mem _) (fun _ h => (by cases h)) ?_ ?_
  · simp only [go_sem, simprocAttr, hbOps, hbO, st, bb, List.cons_append, List.nil_append]
    refine any_ok2 (N := 1) (call_does (fun v _ => v = .int .i64 kk) rfl rfl (by kernel_rfl) rfl (by simp only [dOk_some, dOk_none, Nat.reduceLT]) (fun G hG => pick9 hn hkk G)) hk' rfl (by first | exact .inl rfl | exact .inr ⟨_, _, rfl, rfl⟩) (by intro _ hK; obtain ⟨_, _, _, _, rfl⟩ := hK; exact ⟨rfl, fun _ h => h⟩) ?_
    rintro _ ⟨_, G7, rfl, hn7, rfl⟩
    clear hn7
    simp only [go_sem, simprocAttr, decide_true, decide_false, Bool.not_true, Bool.not_false, cond_true, cond_false, beq_self_eq_true, and_self, ne_eq, not_true_eq_false, not_false_eq_true, reduceCtorEq, Bool.true_beq, Bool.false_beq]
    refine ⟨by omega, ?_⟩
    exact any_sub' (hb_01 hk' hn hkk h0 h9 hJ g2) (by kernel_rfl) (by simp only [go_sem, simprocAttr, st, List.cons_append, List.nil_append]; simp)
  refine alts_step' (p := .last) 12 0 hk' (by kernel_rfl) (by kernel_rfl) (bb_mem _) (fun _ h => (by cases h)) ?_ ?_
  · simp only [go_sem, simprocAttr, hbOps, hbO, st, bb, List.cons_append, List.nil_append]
    intro g7
    exact any_sub' (hb_03 hk' hn hkk h0 h9 hJ g2 g7) (by kernel_rfl) (by simp only [go_sem, simprocAttr, st, List.cons_append, List.nil_append]; simp)
  refine alts_step' (p := .last) 13 0 hk' (by kernel_rfl) (by kernel_rfl) (bb_mem _) (fun _ h => (by cases h)) ?_ ?_
  · simp only [go_sem, simprocAttr, hbOps, hbO, st, bb, List.cons_append, List.nil_append]
    intro g8
    exact any_sub' (hb_04 hk' hn hkk h0 h9 hJ g2 g8) (by kernel_rfl) (by simp only [go_sem, simprocAttr, st, List.cons_append, List.nil_append]; simp)
  refine alts_step' (p := .last) 14 0 hk' (by kernel_rfl) (by kernel_rfl) (bb_mem _) (fun _ h => (by cases h)) ?_ ?_
  · simp only [go_sem, simprocAttr, hbOps, hbO, st, bb, List.cons_append, List.nil_append]
    intro g9
    exact any_sub' (hb_05 hk' hn hkk h0 h9 hJ g2 g9) (by kernel_rfl) (by simp only [go_sem, simprocAttr, st, List.cons_append, List.nil_append]; simp)
  exact alts_last
theorem hb_1234567 (g6 : Nat) (g7 : Nat) (g8 : Nat) (g9 : Nat) (g15 : Nat) : Ok ⟨w, Non, Non, 94⟩ (st wh n gg gd dc w G2 [(29, .c (.s 11 g6 0 1 1)), (30, .c (.s 12 g7 0 2 2)), (31, .c (.s 13 g8 0 2 2)), (32, .c (.s 14 g9 0 0 0)), (38, .c (.s 15 g15 0 1 1))] [⟨11, g6, 3, [.v (.int .i64 (-1 - kk))]⟩, ⟨12, g7, 3, [.v (.int .i64 0), .v (.int .i64 0)]⟩, ⟨13, g8, 3, [.v (.int .i64 1), .v (.int .i64 2)]⟩, ⟨14, g9, 3, []⟩, ⟨15, g15, 3, [.v (.int .i64 (6 + kk))]⟩]) (sem Try.prog (.inv J k') (.any hbOps (bb gg gd dc) [] 3 (lst [0, 1, 3, 4, 5, 6, 7, 8, 9, 10, 11, 12, 13, 14, 15]) .last)) := by
  refine any_step (i := 2) (p := .last) (r := .last) hk' (by kernel_rfl) (by kernel_rfl) (bb_mem _) (fun _ h => (by cases h)) ?_
  refine alts_step' (p := .last) 10 0 hk' (by kernel_rfl) (by kernel_rfl) (bb_mem _) (fun _ h => (by cases h)) ?_ ?_
  · simp only [go_sem, simprocAttr, hbOps, hbO, st, bb, List.cons_append, List.nil_append]
    intro g2
    exact any_sub' (hb_01234567 hk' hn hkk h0 h9 hJ g2 g6 g7 g8 g9 g15) (by kernel_rfl) (by simp only [go_sem, simprocAttr, st, List.cons_append, List.nil_append]; simp)
  exact alts_last
theorem hb_123456 (g6 : Nat) (g7 : Nat) (g8 : Nat) (g9 : Nat) : Ok ⟨w, Non, Non, 94⟩ (st wh n gg gd dc w G2 [(29, .c (.s 11 g6 0 1 1)), (30, .c (.s 12 g7 0 2 2)), (31, .c (.s 13 g8 0 2 2)), (32, .c (.s 14 g9 0 0 0)), (37, .c (.v (.int .i64 (6 + kk))))] [⟨11, g6, 3, [.v (.int .i64 (-1 - kk))]⟩, ⟨12, g7, 3, [.v (.int .i64 0), .v (.int .i64 0)]⟩, ⟨13, g8, 3, [.v (.int .i64 1), .v (.int .i64 2)]⟩, ⟨14, g9, 3, []⟩]) (sem Try.prog (.inv J k') (.any hbOps (bb gg gd dc) [] 4 (lst [0, 1, 3, 4, 5, 6, 7, 8, 9, 10, 11, 12, 13, 14]) .last)) := by
  refine any_step (i := 2) (p := .last) (r := (.alt 15 .last .last)) hk' (by kernel_rfl) (by kernel_rfl) (bb_mem _) (fun _ h => (by cases h)) ?_
  refine alts_step' (p := .last) 10 0 hk' (by kernel_rfl) (by kernel_rfl) (bb_mem _) (fun _ h => (by cases h)) ?_ ?_
  · simp only [go_sem, simprocAttr, hbOps, hbO, st, bb, List.cons_append, List.nil_append]
    intro g2
    exact any_sub' (hb_0123456 hk' hn hkk h0 h9 hJ g2 g6 g7 g8 g9) (by kernel_rfl) (by simp only [go_sem, simprocAttr, st, List.cons_append, List.nil_append]; simp)
  refine alts_step' (p := .last) 15 0 hk' (by kernel_rfl) (by kernel_rfl) (bb_mem _) (fun _ h => (by cases h)) ?_ ?_
  · simp only [go_sem, simprocAttr, hbOps, hbO, st, bb, List.cons_append, List.nil_append]
    intro g15
    exact any_sub' (hb_1234567 hk' hn hkk h0 h9 hJ g6 g7 g8 g9 g15) (by kernel_rfl) (by simp only [go_sem, simprocAttr, st, List.cons_append, List.nil_append]; simp)
  exact alts_last
theorem hb_12345 (g6 : Nat) (g7 : Nat) (g8 : Nat) (g9 : Nat) : Ok ⟨w, Non, Non, 94⟩ (st wh n gg gd dc w G2 [(29, .c (.s 11 g6 0 1 1)), (30, .c (.s 12 g7 0 2 2)), (31, .c (.s 13 g8 0 2 2)), (32, .c (.s 14 g9 0 0 0))] [⟨11, g6, 3, [.v (.int .i64 (-1 - kk))]⟩, ⟨12, g7, 3, [.v (.int .i64 0), .v (.int .i64 0)]⟩, ⟨13, g8, 3, [.v (.int .i64 1), .v (.int .i64 2)]⟩, ⟨14, g9, 3, []⟩]) (sem Try.prog (.inv J k') (.any hbOps (bb gg gd dc) [] 6 (lst [0, 1, 3, 4, 5, 6, 7, 8, 9, 10, 11, 12]) .last)) := by
  refine any_step (i := 2) (p := .last) (r := (.alt 13 .last .last)) hk' (by kernel_rfl) (by kernel_rfl) (bb_mem _) (fun _ h => (by cases h)) ?_
  refine alts_step' (p := .last) 10 0 hk' (by kernel_rfl) (by kernel_rfl) (bb_mem _) (fun _ h => (by cases h)) ?_ ?_
  · simp only [go_sem, simprocAttr, hbOps, hbO, st, bb, List.cons_append, List.nil_append]
    intro g2
    exact any_sub' (hb_012345 hk' hn hkk h0 h9 hJ g2 g6 g7 g8 g9) (by kernel_rfl) (by simp only [go_sem, simprocAttr, st, List.cons_append, List.nil_append]; simp)
  refine alts_step' (p := (.take 14 .last)) 9 1 hk' (by kernel_rfl) (by kernel_rfl) (bb_mem _) (fun _ h => (by cases h)) ?_ ?_
  · simp only [go_sem, simprocAttr, hbOps, hbO, st, bb, List.cons_append, List.nil_append]
    refine any_ok2 (N := 1) (call_does (fun v _ => v = .int .i64 kk) rfl rfl (by kernel_rfl) rfl (by simp only [dOk_some, dOk_none, Nat.reduceLT]) (fun G hG => pick9 hn hkk G)) hk' rfl (by first | exact .inl rfl | exact .inr ⟨_, _, rfl, rfl⟩) (by intro _ hK; obtain ⟨_, _, _, _, rfl⟩ := hK; exact ⟨rfl, fun _ h => h⟩) ?_
    rintro _ ⟨_, G7, rfl, hn7, rfl⟩
    clear hn7
    simp only [go_sem, simprocAttr, decide_true, decide_false, Bool.not_true, Bool.not_false, cond_true, cond_false, beq_self_eq_true, and_self, ne_eq, not_true_eq_false, not_false_eq_true, reduceCtorEq, Bool.true_beq, Bool.false_beq]
    refine ⟨by omega, ?_⟩
    exact any_sub' (hb_123456 hk' hn hkk h0 h9 hJ g6 g7 g8 g9) (by kernel_rfl) (by simp only [go_sem, simprocAttr, st, List.cons_append, List.nil_append]; simp)
  exact alts_last
theorem hb_123467 (g6 : Nat) (g7 : Nat) (g8 : Nat) (g15 : Nat) : Ok ⟨w, Non, Non, 94⟩ (st wh n gg gd dc w G2 [(29, .c (.s 11 g6 0 1 1)), (30, .c (.s 12 g7 0 2 2)), (31, .c (.s 13 g8 0 2 2)), (38, .c (.s 15 g15 0 1 1))] [⟨11, g6, 3, [.v (.int .i64 (-1 - kk))]⟩, ⟨12, g7, 3, [.v (.int .i64 0), .v (.int .i64 0)]⟩, ⟨13, g8, 3, [.v (.int .i64 1), .v (.int .i64 2)]⟩, ⟨15, g15, 3, [.v (.int .i64 (6 + kk))]⟩]) (sem Try.prog (.inv J k') (.any hbOps (bb gg gd dc) [] 4 (lst [0, 1, 3, 4, 5, 6, 7, 8, 10, 11, 12, 13, 14, 15]) .last)) := by
  refine any_step (i := 2) (p := .last) (r := (.alt 9 .last .last)) hk' (by kernel_rfl) (by kernel_rfl) (bb_mem _) (fun _ h => (by cases h)) ?_
  refine alts_step' (p := .last) 10 0 hk' (by kernel_rfl) (by kernel_rfl) (bb_mem _) (fun _ h => (by cases h)) ?_ ?_
  · simp only [go_sem, simprocAttr, hbOps, hbO, st, bb, List.cons_append, List.nil_append]
    intro g2
    exact any_sub' (hb_0123467 hk' hn hkk h0 h9 hJ g2 g6 g7 g8 g15) (by kernel_rfl) (by simp only [go_sem, simprocAttr, st, List.cons_append, List.nil_append]; simp)
  refine alts_step' (p := .last) 14 0 hk' (by kernel_rfl) (by kernel_rfl) (bb_mem _) (fun _ h => (by cases h)) ?_ ?_
  · simp only [go_sem, simprocAttr, hbOps, hbO, st, bb, List.cons_append, List.nil_append]
    intro g9
    exact any_sub' (hb_1234567 hk' hn hkk h0 h9 hJ g6 g7 g8 g9 g15) (by kernel_rfl) (by simp only [go_sem, simprocAttr, st, List.cons_append, List.nil_append]; simp)
  exact alts_last
theorem hb_12346 (g6 : Nat) (g7 : Nat) (g8 : Nat) : Ok ⟨w, Non, Non, 94⟩ (st wh n gg gd dc w G2 [(29, .c (.s 11 g6 0 1 1)), (30, .c (.s 12 g7 0 2 2)), (31, .c (.s 13 g8 0 2 2)), (37, .c (.v (.int .i64 (6 + kk))))] [⟨11, g6, 3, [.v (.int .i64 (-1 - kk))]⟩, ⟨12, g7, 3, [.v (.int .i64 0), .v (.int .i64 0)]⟩, ⟨13, g8, 3, [.v (.int .i64 1), .v (.int .i64 2)]⟩]) (sem Try.prog (.inv J k') (.any hbOps (bb gg gd dc) [] 5 (lst [0, 1, 3, 4, 5, 6, 7, 8, 10, 11, 12, 13, 14]) .last)) := by
  refine any_step (i := 2) (p := .last) (r := (.alt 9 .last (.alt 15 .last .last))) hk' (by kernel_rfl) (by kernel_rfl) (bb_mem _) (fun _ h => (by cases h)) ?_
  refine alts_step' (p := .last) 10 0 hk' (by kernel_rfl) (by kernel_rfl) (bb_mem _) (fun _ h => (by cases h)) ?_ ?_
  · simp only [go_sem, simprocAttr, hbOps, hbO, st, bb, List.cons_append, List.nil_append]
    intro g2
    exact any_sub' (hb_012346 hk' hn hkk h0 h9 hJ g2 g6 g7 g8) (by kernel_rfl) (by simp only [go_sem, simprocAttr, st, List.cons_append, List.nil_append]; simp)
  refine alts_step' (p := .last) 14 0 hk' (by kernel_rfl) (by kernel_rfl) (bb_mem _) (fun _ h => (by cases h)) ?_ ?_
  · simp only [go_sem, simprocAttr, hbOps, hbO, st, bb, List.cons_append, List.nil_append]
    intro g9
    exact any_sub' (hb_123456 hk' hn hkk h0 h9 hJ g6 g7 g8 g9) (by kernel_rfl) (by simp only [go_sem, simprocAttr, st, List.cons_append, List.nil_append]; simp)
  refine alts_step' (p := .last) 15 0 hk' (by kernel_rfl) (by kernel_rfl) (bb_mem _) (fun _ h => (by cases h)) ?_ ?_
  · simp only [go_sem, simprocAttr, hbOps, hbO, st, bb, List.cons_append, List.nil_append]
    intro g15
    exact any_sub' (hb_123467 hk' hn hkk h0 h9 hJ g6 g7 g8 g15) (by kernel_rfl) (by simp only [go_sem, simprocAttr, st, List.cons_append, List.nil_append]; simp)
  exact alts_last
theorem hb_1234 (g6 : Nat) (g7 : Nat) (g8 : Nat) : Ok ⟨w, Non, Non, 94⟩ (st wh n gg gd dc w G2 [(29, .c (.s 11 g6 0 1 1)), (30, .c (.s 12 g7 0 2 2)), (31, .c (.s 13 g8 0 2 2))] [⟨11, g6, 3, [.v (.int .i64 (-1 - kk))]⟩, ⟨12, g7, 3, [.v (.int .i64 0), .v (.int .i64 0)]⟩, ⟨13, g8, 3, [.v (.int .i64 1), .v (.int .i64 2)]⟩]) (sem Try.prog (.inv J k') (.any hbOps (bb gg gd dc) [] 7 (lst [0, 1, 3, 4, 5, 6, 7, 8, 10, 11, 12]) .last)) := by
  refine any_step (i := 2) (p := .last) (r := (.alt 9 .last (.alt 13 .last .last))) hk' (by kernel_rfl) (by kernel_rfl) (bb_mem _) (fun _ h => (by cases h)) ?_
  refine alts_step' (p := .last) 10 0 hk' (by kernel_rfl) (by kernel_rfl) (bb_mem _) (fun _ h => (by cases h)) ?_ ?_
  · simp only [go_sem, simprocAttr, hbOps, hbO, st, bb, List.cons_append, List.nil_append]
    intro g2
    exact any_sub' (hb_01234 hk' hn hkk h0 h9 hJ g2 g6 g7 g8) (by kernel_rfl) (by simp only [go_sem, simprocAttr, st, List.cons_append, List.nil_append]; simp)
  refine alts_step' (p := .last) 14 0 hk' (by kernel_rfl) (by kernel_rfl) (bb_mem _) (fun _ h => (by cases h)) ?_ ?_
  · simp only [go_sem, simprocAttr, hbOps, hbO, st, bb, List.cons_append, List.nil_append]
    intro g9
    exact any_sub' (hb_12345 hk' hn hkk h0 h9 hJ g6 g7 g8 g9) (by kernel_rfl) (by simp only [go_sem, simprocAttr, st, List.cons_append, List.nil_append]; simp)
  refine alts_step' (p := (.take 14 .last)) 9 1 hk' (by kernel_rfl) (by kernel_rfl) (bb_mem _) (fun _ h => (by cases h)) ?_ ?_
  · simp only [go_sem, simprocAttr, hbOps, hbO, st, bb, List.cons_append, List.nil_append]
    refine any_ok2 (N := 1) (call_does (fun v _ => v = .int .i64 kk) rfl rfl (by kernel_rfl) rfl (by simp only [dOk_some, dOk_none, Nat.reduceLT]) (fun G hG => pick9 hn hkk G)) hk' rfl (by first | exact .inl rfl | exact .inr ⟨_, _, rfl, rfl⟩) (by intro _ hK; obtain ⟨_, _, _, _, rfl⟩ := hK; exact ⟨rfl, fun _ h => h⟩) ?_
    rintro _ ⟨_, G7, rfl, hn7, rfl⟩
    clear hn7
    simp only [go_sem, simprocAttr, decide_true, decide_false, Bool.not_true, Bool.not_false, cond_true, cond_false, beq_self_eq_true, and_self, ne_eq, not_true_eq_false, not_false_eq_true, reduceCtorEq, Bool.true_beq, Bool.false_beq]
    refine ⟨by omega, ?_⟩
    exact any_sub' (hb_12346 hk' hn hkk h0 h9 hJ g6 g7 g8) (by kernel_rfl) (by simp only [go_sem, simprocAttr, st, List.cons_append, List.nil_append]; simp)
  exact alts_last
theorem hb_123567 (g6 : Nat) (g7 : Nat) (g9 : Nat) (g15 : Nat) : Ok ⟨w, Non, Non, 94⟩ (st wh n gg gd dc w G2 [(29, .c (.s 11 g6 0 1 1)), (30, .c (.s 12 g7 0 2 2)), (32, .c (.s 14 g9 0 0 0)), (38, .c (.s 15 g15 0 1 1))] [⟨11, g6, 3, [.v (.int .i64 (-1 - kk))]⟩, ⟨12, g7, 3, [.v (.int .i64 0), .v (.int .i64 0)]⟩, ⟨14, g9, 3, []⟩, ⟨15, g15, 3, [.v (.int .i64 (6 + kk))]⟩]) (sem Try.prog (.inv J k') (.any hbOps (bb gg gd dc) [] 4 (lst [0, 1, 3, 4, 5, 6, 7, 9, 10, 11, 12, 13, 14, 15]) .last)) := by
  refine any_step (i := 2) (p := .last) (r := (.alt 8 .last .last)) hk' (by kernel_rfl) (by kernel_rfl) (bb_mem _) (fun _ h => (by cases h)) ?_
  refine alts_step' (p := .last) 10 0 hk' (by kernel_rfl) (by kernel_rfl) (bb_mem _) (fun _ h => (by cases h)) ?_ ?_
  · simp only [go_sem, simprocAttr, hbOps, hbO, st, bb, List.cons_append, List.nil_append]
    intro g2
    exact any_sub' (hb_0123567 hk' hn hkk h0 h9 hJ g2 g6 g7 g9 g15) (by kernel_rfl) (by simp only [go_sem, simprocAttr, st, List.cons_append, List.nil_append]; simp)
  refine alts_step' (p := .last) 13 0 hk' (by kernel_rfl) (by kernel_rfl) (bb_mem _) (fun _ h => (by cases h)) ?_ ?_
  · simp only [go_sem, simprocAttr, hbOps, hbO, st, bb, List.cons_append, List.nil_append]
    intro g8
    exact any_sub' (hb_1234567 hk' hn hkk h0 h9 hJ g6 g7 g8 g9 g15) (by kernel_rfl) (by simp only [go_sem, simprocAttr, st, List.cons_append, List.nil_append]; simp)
  exact alts_last
theorem hb_12356 (g6 : Nat) (g7 : Nat) (g9 : Nat) : Ok ⟨w, Non, Non, 94⟩ (st wh n gg gd dc w G2 [(29, .c (.s 11 g6 0 1 1)), (30, .c (.s 12 g7 0 2 2)), (32, .c (.s 14 g9 0 0 0)), (37, .c (.v (.int .i64 (6 + kk))))] [⟨11, g6, 3, [.v (.int .i64 (-1 - kk))]⟩, ⟨12, g7, 3, [.v (.int .i64 0), .v (.int .i64 0)]⟩, ⟨14, g9, 3, []⟩]) (sem Try.prog (.inv J k') (.any hbOps (bb gg gd dc) [] 5 (lst [0, 1, 3, 4, 5, 6, 7, 9, 10, 11, 12, 13, 14]) .last)) := by
  refine any_step (i := 2) (p := .last) (r := (.alt 8 .last (.alt 15 .last .last))) hk' (by kernel_rfl) (by kernel_rfl) (bb_mem _) (fun _ h => (by cases h)) ?_
  refine alts_step' (p := .last) 10 0 hk' (by kernel_rfl) (by kernel_rfl) (bb_mem _) (fun _ h => (by cases h)) ?_ ?_
  · simp only [go_sem, simprocAttr, hbOps, hbO, st, bb, List.cons_append, List.nil_append]
    intro g2
    exact any_sub' (hb_012356 hk' hn hkk h0 h9 hJ g2 g6 g7 g9) (by kernel_rfl) (by simp only [go_sem, simprocAttr, st, List.cons_append, List.nil_append]; simp)
  refine alts_step' (p := .last) 13 0 hk' (by kernel_rfl) (by kernel_rfl) (bb_mem _) (fun _ h => (by cases h)) ?_ ?_
  · simp only [go_sem, simprocAttr, hbOps, hbO, st, bb, List.cons_append, List.nil_append]
    intro g8
    exact any_sub' (hb_123456 hk' hn hkk h0 h9 hJ g6 g7 g8 g9) (by kernel_rfl) (by simp only [go_sem, simprocAttr, st, List.cons_append, List.nil_append]; simp)
  refine alts_step' (p := .last) 15 0 hk' (by kernel_rfl) (by kernel_rfl) (bb_mem _) (fun _ h => (by cases h)) ?_ ?_
  · simp only [go_sem, simprocAttr, hbOps, hbO, st, bb, List.cons_append, List.nil_append]
    intro g15
    exact any_sub' (hb_123567 hk' hn hkk h0 h9 hJ g6 g7 g9 g15) (by kernel_rfl) (by simp only [go_sem, simprocAttr, st, List.cons_append, List.nil_append]; simp)
  exact alts_last
theorem hb_1235 (g6 : Nat) (g7 : Nat) (g9 : Nat) : Ok ⟨w, Non, Non, 94⟩ (st wh n gg gd dc w G2 [(29, .c (.s 11 g6 0 1 1)), (30, .c (.s 12 g7 0 2 2)), (32, .c (.s 14 g9 0 0 0))] [⟨11, g6, 3, [.v (.int .i64 (-1 - kk))]⟩, ⟨12, g7, 3, [.v (.int .i64 0), .v (.int .i64 0)]⟩, ⟨14, g9, 3, []⟩]) (sem Try.prog (.inv J k') (.any hbOps (bb gg gd dc) [] 7 (lst [0, 1, 3, 4, 5, 6, 7, 9, 10, 11, 12]) .last)) := by
  refine any_step (i := 2) (p := .last) (r := (.alt 8 .last (.alt 13 .last .last))) hk' (by kernel_rfl) (by kernel_rfl) (bb_mem _) (fun _ h => (by cases h)) ?_
  refine alts_step' (p := .last) 10 0 hk' (by kernel_rfl) (by kernel_rfl) (bb_mem _) (fun _ h => (by cases h)) ?_ ?_
  · simp only [go_sem, simprocAttr, hbOps, hbO, st, bb, List.cons_append, List.nil_append]
    intro g2
    exact any_sub' (hb_01235 hk' hn hkk h0 h9 hJ g2 g6 g7 g9) (by kernel_rfl) (by simp only [go_sem, simprocAttr, st, List.cons_append, List.nil_append]; simp)
  refine alts_step' (p := .last) 13 0 hk' (by kernel_rfl) (by kernel_rfl) (bb_mem _) (fun _ h => (by cases h)) ?_ ?_
  · simp only [go_sem, simprocAttr, hbOps, hbO, st, bb, List.cons_append, List.nil_append]
    intro g8
    exact any_sub' (hb_12345 hk' hn hkk h0 h9 hJ g6 g7 g8 g9) (by kernel_rfl) (by simp only [go_sem, simprocAttr, st, List.cons_append, List.nil_append]; simp)
  refine alts_step' (p := (.take 14 .last)) 9 1 hk' (by kernel_rfl) (by kernel_rfl) (bb_mem _) (fun _ h => (by cases h)) ?_ ?_
  · simp only [go_sem, simprocAttr, hbOps, hbO, st, bb, List.cons_append, List.nil_append]
    refine any_ok2 (N := 1) (call_does (fun v _ => v = .int .i64 kk) rfl rfl (by kernel_rfl) rfl (by simp only [dOk_some, dOk_none, Nat.reduceLT]) (fun G hG => pick9 hn hkk G)) hk' rfl (by first | exact .inl rfl | exact .inr ⟨_, _, rfl, rfl⟩) (by intro _ hK; obtain ⟨_, _, _, _, rfl⟩ := hK; exact ⟨rfl, fun _ h => h⟩) ?_
    rintro _ ⟨_, G7, rfl, hn7, rfl⟩
    clear hn7
    simp only [go_sem, simprocAttr, decide_true, decide_false, Bool.not_true, Bool.not_false, cond_true, cond_false, beq_self_eq_true, and_self, ne_eq, not_true_eq_false, not_false_eq_true, reduceCtorEq, Bool.true_beq, Bool.false_beq]
    refine ⟨by omega, ?_⟩
    exact any_sub' (hb_12356 hk' hn hkk h0 h9 hJ g6 g7 g9) (by kernel_rfl) (by simp only [go_sem, simprocAttr, st, List.cons_append, List.nil_append]; simp)
  exact alts_last
theorem hb_12367 (g6 : Nat) (g7 : Nat) (g15 : Nat) : Ok ⟨w, Non, Non, 94⟩ (st wh n gg gd dc w G2 [(29, .c (.s 11 g6 0 1 1)), (30, .c (.s 12 g7 0 2 2)), (38, .c (.s 15 g15 0 1 1))] [⟨11, g6, 3, [.v (.int .i64 (-1 - kk))]⟩, ⟨12, g7, 3, [.v (.int .i64 0), .v (.int .i64 0)]⟩, ⟨15, g15, 3, [.v (.int .i64 (6 + kk))]⟩]) (sem Try.prog (.inv J k') (.any hbOps (bb gg gd dc) [] 5 (lst [0, 1, 3, 4, 5, 6, 7, 10, 11, 12, 13, 14, 15]) .last)) := by
  refine any_step (i := 2) (p := .last) (r := (.alt 8 .last (.alt 9 .last .last))) hk' (by kernel_rfl) (by kernel_rfl) (bb_mem _) (fun _ h => (by cases h)) ?_
  refine alts_step' (p := .last) 10 0 hk' (by kernel_rfl) (by kernel_rfl) (bb_mem _) (fun _ h => (by cases h)) ?_ ?_
  · simp only [go_sem, simprocAttr, hbOps, hbO, st, bb, List.cons_append, List.nil_append]
    intro g2
    exact any_sub' (hb_012367 hk' hn hkk h0 h9 hJ g2 g6 g7 g15) (by kernel_rfl) (by simp only [go_sem, simprocAttr, st, List.cons_append, List.nil_append]; simp)
  refine alts_step' (p := .last) 13 0 hk' (by kernel_rfl) (by kernel_rfl) (bb_mem _) (fun _ h => (by cases h)) ?_ ?_
  · simp only [go_sem, simprocAttr, hbOps, hbO, st, bb, List.cons_append, List.nil_append]
    intro g8
    exact any_sub' (hb_123467 hk' hn hkk h0 h9 hJ g6 g7 g8 g15) (by kernel_rfl) (by simp only [go_sem, simprocAttr, st, List.cons_append, List.nil_append]; simp)
  refine alts_step' (p := .last) 14 0 hk' (by kernel_rfl) (by kernel_rfl) (bb_mem _) (fun _ h => (by cases h)) ?_ ?_
  · simp only [go_sem, simprocAttr, hbOps, hbO, st, bb, List.cons_append, List.nil_append]
    intro g9
    exact any_sub' (hb_123567 hk' hn hkk h0 h9 hJ g6 g7 g9 g15) (by kernel_rfl) (by simp only [go_sem, simprocAttr, st, List.cons_append, List.nil_append]; simp)
  exact alts_last
theorem hb_1236 (g6 : Nat) (g7 : Nat) : Ok ⟨w, Non, Non, 94⟩ (st wh n gg gd dc w G2 [(29, .c (.s 11 g6 0 1 1)), (30, .c (.s 12 g7 0 2 2)), (37, .c (.v (.int .i64 (6 + kk))))] [⟨11, g6, 3, [.v (.int .i64 (-1 - kk))]⟩, ⟨12, g7, 3, [.v (.int .i64 0), .v (.int .i64 0)]⟩]) (sem Try.prog (.inv J k') (.any hbOps (bb gg gd dc) [] 6 (lst [0, 1, 3, 4, 5, 6, 7, 10, 11, 12, 13, 14]) .last)) := by
  refine any_step (i := 2) (p := .last) (r := (.alt 8 .last (.alt 9 .last (.alt 15 .last .last)))) hk' (by kernel_rfl) (by kernel_rfl) (bb_mem _) (fun _ h => (by cases h)) ?_
  refine alts_step' (p := .last) 10 0 hk' (by kernel_rfl) (by kernel_rfl) (bb_mem _) (fun _ h => (by cases h)) ?_ ?_
  · simp only [go_sem, simprocAttr, hbOps, hbO, st, bb, List.cons_append, List.nil_append]
    intro g2
    exact any_sub' (hb_01236 hk' hn hkk h0 h9 hJ g2 g6 g7) (by kernel_rfl) (by simp only [go_sem, simprocAttr, st, List.cons_append, List.nil_append]; simp)
  refine alts_step' (p := .last) 13 0 hk' (by kernel_rfl) (by kernel_rfl) (bb_mem _) (fun _ h => (by cases h)) ?_ ?_
  · simp only [go_sem, simprocAttr, hbOps, hbO, st, bb, List.cons_append, List.nil_append]
    intro g8
    exact any_sub' (hb_12346 hk' hn hkk h0 h9 hJ g6 g7 g8) (by kernel_rfl) (by simp only [go_sem, simprocAttr, st, List.cons_append, List.nil_append]; simp)
  refine alts_step' (p := .last) 14 0 hk' (by kernel_rfl) (by kernel_rfl) (bb_mem _) (fun _ h => (by cases h)) ?_ ?_
  · simp only [go_sem, simprocAttr, hbOps, hbO, st, bb, List.cons_append, List.nil_append]
    intro g9
    exact any_sub' (hb_12356 hk' hn hkk h0 h9 hJ g6 g7 g9) (by kernel_rfl) (by simp only [go_sem, simprocAttr, st, List.cons_append, List.nil_append]; simp)
  refine alts_step' (p := .last) 15 0 hk' (by kernel_rfl) (by kernel_rfl) (bb_mem _) (fun _ h => (by cases h)) ?_ ?_
  · simp only [go_sem, simprocAttr, hbOps, hbO, st, bb, List.cons_append, List.nil_append]
    intro g15
    exact any_sub' (hb_12367 hk' hn hkk h0 h9 hJ g6 g7 g15) (by kernel_rfl) (by simp only [go_sem, simprocAttr, st, List.cons_append, List.nil_append]; simp)
  exact alts_last
theorem hb_123 (g6 : Nat) (g7 : Nat) : Ok ⟨w, Non, Non, 94⟩ (st wh n gg gd dc w G2 [(29, .c (.s 11 g6 0 1 1)), (30, .c (.s 12 g7 0 2 2))] [⟨11, g6, 3, [.v (.int .i64 (-1 - kk))]⟩, ⟨12, g7, 3, [.v (.int .i64 0), .v (.int .i64 0)]⟩]) (sem Try.prog (.inv J k') (.any hbOps (bb gg gd dc) [] 8 (lst [0, 1, 3, 4, 5, 6, 7, 10, 11, 12]) .last)) := by
  refine any_step (i := 2) (p := .last) (r := (.alt 8 .last (.alt 9 .last (.alt 13 .last .last)))) hk' (by kernel_rfl) (by kernel_rfl) (bb_mem _) (fun _ h => (by cases h)) ?_
  refine alts_step' (p := .last) 10 0 hk' (by kernel_rfl) (by kernel_rfl) (bb_mem _) (fun _ h => (by cases h)) ?_ ?_
  · simp only [go_sem, simprocAttr, hbOps, hbO, st, bb, List.cons_append, List.nil_append]
    intro g2
    exact any_sub' (hb_0123 hk' hn hkk h0 h9 hJ g2 g6 g7) (by kernel_rfl) (by simp only [go_sem, simprocAttr, st, List.cons_append, List.nil_append]; simp)
  refine alts_step' (p := .last) 13 0 hk' (by kernel_rfl) (by kernel_rfl) (bb_mem _) (fun _ h => (by cases h)) ?_ ?_
  · simp only [go_sem, simprocAttr, hbOps, hbO, st, bb, List.cons_append, List.nil_append]
    intro g8
    exact any_sub' (hb_1234 hk' hn hkk h0 h9 hJ g6 g7 g8) (by kernel_rfl) (by simp only [go_sem, simprocAttr, st, List.cons_append, List.nil_append]; simp)
  refine alts_step' (p := .last) 14 0 hk' (by kernel_rfl) (by kernel_rfl) (bb_mem _) (fun _ h => (by cases h)) ?_ ?_
  · simp only [go_sem, simprocAttr, hbOps, hbO, st, bb, List.cons_append, List.nil_append]
    intro g9
    exact any_sub' (hb_1235 hk' hn hkk h0 h9 hJ g6 g7 g9) (by kernel_rfl) (by simp only [go_sem, simprocAttr, st, List.cons_append, List.nil_append]; simp)
  refine alts_step' (p := (.take 14 .last)) 9 1 hk' (by kernel_rfl) (by kernel_rfl) (bb_mem _) (fun _ h => (by cases h)) ?_ ?_
  · simp only [go_sem, simprocAttr, hbOps, hbO, st, bb, List.cons_append, List.nil_append]
    refine any_ok2 (N := 1) (call_does (fun v _ => v = .int .i64 kk) rfl rfl (by kernel_rfl) rfl (by simp only [dOk_some, dOk_none, Nat.reduceLT]) (fun G hG => pick9 hn hkk G)) hk' rfl (by first | exact .inl rfl | exact .inr ⟨_, _, rfl, rfl⟩) (by intro _ hK; obtain ⟨_, _, _, _, rfl⟩ := hK; exact ⟨rfl, fun _ h => h⟩) ?_
    rintro _ ⟨_, G7, rfl, hn7, rfl⟩
    clear hn7
    simp only [go_sem, simprocAttr, decide_true, decide_false, Bool.not_true, Bool.not_false, cond_true, cond_false, beq_self_eq_true, and_self, ne_eq, not_true_eq_false, not_false_eq_true, reduceCtorEq, Bool.true_beq, Bool.false_beq]
    refine ⟨by omega, ?_⟩
    exact any_sub' (hb_1236 hk' hn hkk h0 h9 hJ g6 g7) (by kernel_rfl) (by simp only [go_sem, simprocAttr, st, List.cons_append, List.nil_append]; simp)
  exact alts_last
theorem hb_124567 (g6 : Nat) (g8 : Nat) (g9 : Nat) (g15 : Nat) : Ok ⟨w, Non, Non, 94⟩ (st wh n gg gd dc w G2 [(29, .c (.s 11 g6 0 1 1)), (31, .c (.s 13 g8 0 2 2)), (32, .c (.s 14 g9 0 0 0)), (38, .c (.s 15 g15 0 1 1))] [⟨11, g6, 3, [.v (.int .i64 (-1 - kk))]⟩, ⟨13, g8, 3, [.v (.int .i64 1), .v (.int .i64 2)]⟩, ⟨14, g9, 3, []⟩, ⟨15, g15, 3, [.v (.int .i64 (6 + kk))]⟩]) (sem Try.prog (.inv J k') (.any hbOps (bb gg gd dc) [] 4 (lst [0, 1, 3, 4, 5, 6, 8, 9, 10, 11, 12, 13, 14, 15]) .last)) := by
  refine any_step (i := 2) (p := .last) (r := (.alt 7 .last .last)) hk' (by kernel_rfl) (by kernel_rfl) (bb_mem _) (fun _ h => (by cases h)) ?_
  refine alts_step' (p := .last) 10 0 hk' (by kernel_rfl) (by kernel_rfl) (bb_mem _) (fun _ h => (by cases h)) ?_ ?_
  · simp only [go_sem, simprocAttr, hbOps, hbO, st, bb, List.cons_append, List.nil_append]
    intro g2
    exact any_sub' (hb_0124567 hk' hn hkk h0 h9 hJ g2 g6 g8 g9 g15) (by kernel_rfl) (by simp only [go_sem, simprocAttr, st, List.cons_append, List.nil_append]; simp)
  refine alts_step' (p := .last) 12 0 hk' (by kernel_rfl) (by kernel_rfl) (bb_mem _) (fun _ h => (by cases h)) ?_ ?_
  · simp only [go_sem, simprocAttr, hbOps, hbO, st, bb, List.cons_append, List.nil_append]
    intro g7
    exact any_sub' (hb_1234567 hk' hn hkk h0 h9 hJ g6 g7 g8 g9 g15) (by kernel_rfl) (by simp only [go_sem, simprocAttr, st, List.cons_append, List.nil_append]; simp)
  exact alts_last
theorem hb_12456 (g6 : Nat) (g8 : Nat) (g9 : Nat) : Ok ⟨w, Non, Non, 94⟩ (st wh n gg gd dc w G2 [(29, .c (.s 11 g6 0 1 1)), (31, .c (.s 13 g8 0 2 2)), (32, .c (.s 14 g9 0 0 0)), (37, .c (.v (.int .i64 (6 + kk))))] [⟨11, g6, 3, [.v (.int .i64 (-1 - kk))]⟩, ⟨13, g8, 3, [.v (.int .i64 1), .v (.int .i64 2)]⟩, ⟨14, g9, 3, []⟩]) (sem Try.prog (.inv J k') (.any hbOps (bb gg gd dc) [] 5 (lst [0, 1, 3, 4, 5, 6, 8, 9, 10, 11, 12, 13, 14]) .last)) := by
  refine any_step (i := 2) (p := .last) (r := (.alt 7 .last (.alt 15 .last .last))) hk' (by kernel_rfl) (by kernel_rfl) (bb_mem _) (fun _ h => (by cases h)) ?_
  refine alts_step' (p := .last) 10 0 hk' (by kernel_rfl) (by kernel_rfl) (bb_mem _) (fun _ h => (by cases h)) ?_ ?_
  · simp only [go_sem, simprocAttr, hbOps, hbO, st, bb, List.cons_append, List.nil_append]
    intro g2
    exact any_sub' (hb_012456 hk' hn hkk h0 h9 hJ g2 g6 g8 g9) (by kernel_rfl) (by simp only [go_sem, simprocAttr, st, List.cons_append, List.nil_append]; simp)
  refine alts_step' (p := .last) 12 0 hk' (by kernel_rfl) (by kernel_rfl) (bb_mem _) (fun _ h => (by cases h)) ?_ ?_
  · simp only [go_sem, simprocAttr, hbOps, hbO, st, bb, List.cons_append, List.nil_append]
    intro g7
    exact any_sub' (hb_123456 hk' hn hkk h0 h9 hJ g6 g7 g8 g9) (by kernel_rfl) (by simp only [go_sem, simprocAttr, st, List.cons_append, List.nil_append]; simp)
  refine alts_step' (p := .last) 15 0 hk' (by kernel_rfl) (by kernel_rfl) (bb_mem _) (fun _ h => (by cases h)) ?_ ?_
  · simp only [go_sem, simprocAttr, hbOps, hbO, st, bb, List.cons_append, List.nil_append]
    intro g15
    exact any_sub' (hb_124567 hk' hn hkk h0 h9 hJ g6 g8 g9 g15) (by kernel_rfl) (by simp only [go_sem, simprocAttr, st, List.cons_append, List.nil_append]; simp)
  exact alts_last
theorem hb_1245 (g6 : Nat) (g8 : Nat) (g9 : Nat) : Ok ⟨w, Non, Non, 94⟩ (st wh n gg gd dc w G2 [(29, .c (.s 11 g6 0 1 1)), (31, .c (.s 13 g8 0 2 2)), (32, .c (.s 14 g9 0 0 0))] [⟨11, g6, 3, [.v (.int .i64 (-1 - kk))]⟩, ⟨13, g8, 3, [.v (.int .i64 1), .v (.int .i64 2)]⟩, ⟨14, g9, 3, []⟩]) (sem Try.prog (.inv J k') (.any hbOps (bb gg gd dc) [] 7 (lst [0, 1, 3, 4, 5, 6, 8, 9, 10, 11, 12]) .last)) := by
  refine any_step (i := 2) (p := .last) (r := (.alt 7 .last (.alt 13 .last .last))) hk' (by kernel_rfl) (by kernel_rfl) (bb_mem _) (fun _ h => (by cases h)) ?_
  refine alts_step' (p := .last) 10 0 hk' (by kernel_rfl) (by kernel_rfl) (bb_mem _) (fun _ h => (by cases h)) ?_ ?_
  · simp only [go_sem, simprocAttr, hbOps, hbO, st, bb, List.cons_append, List.nil_append]
    intro g2
    exact any_sub' (hb_01245 hk' hn hkk h0 h9 hJ g2 g6 g8 g9) (by kernel_rfl) (by simp only [go_sem, simprocAttr, st, List.cons_append, List.nil_append]; simp)
  refine alts_step' (p := .last) 12 0 hk' (by kernel_rfl) (by kernel_rfl) (bb_mem _) (fun _ h => (by cases h)) ?_ ?_
  · simp only [go_sem, simprocAttr, hbOps, hbO, st, bb, List.cons_append, List.nil_append]
    intro g7
    exact any_sub' (hb_12345 hk' hn hkk h0 h9 hJ g6 g7 g8 g9) (by kernel_rfl) (by simp only [go_sem, simprocAttr, st, List.cons_append, List.nil_append]; simp)
  refine alts_step' (p := (.take 14 .last)) 9 1 hk' (by kernel_rfl) (by kernel_rfl) (bb_mem _) (fun _ h => (by cases h)) ?_ ?_
  · simp only [go_sem, simprocAttr, hbOps, hbO, st, bb, List.cons_append, List.nil_append]
    refine any_ok2 (N := 1) (call_does (fun v _ => v = .int .i64 kk) rfl rfl (by kernel_rfl) rfl (by simp only [dOk_some, dOk_none, Nat.reduceLT]) (fun G hG => pick9 hn hkk G)) hk' rfl (by first | exact .inl rfl | exact .inr ⟨_, _, rfl, rfl⟩) (by intro _ hK; obtain ⟨_, _, _, _, rfl⟩ := hK; exact ⟨rfl, fun _ h => h⟩) ?_
    rintro _ ⟨_, G7, rfl, hn7, rfl⟩
    clear hn7
    simp only [go_sem, simprocAttr, decide_true, decide_false, Bool.not_true, Bool.not_false, cond_true, cond_false, beq_self_eq_true, and_self, ne_eq, not_true_eq_false, not_false_eq_true, reduceCtorEq, Bool.true_beq, Bool.false_beq]
    refine ⟨by omega, ?_⟩
    exact any_sub' (hb_12456 hk' hn hkk h0 h9 hJ g6 g8 g9) (by kernel_rfl) (by simp only [go_sem, simprocAttr, st, List.cons_append, List.nil_append]; simp)
  exact alts_last
theorem hb_12467 (g6 : Nat) (g8 : Nat) (g15 : Nat) : Ok ⟨w, Non, Non, 94⟩ (st wh n gg gd dc w G2 [(29, .c (.s 11 g6 0 1 1)), (31, .c (.s 13 g8 0 2 2)), (38, .c (.s 15 g15 0 1 1))] [⟨11, g6, 3, [.v (.int .i64 (-1 - kk))]⟩, ⟨13, g8, 3, [.v (.int .i64 1), .v (.int .i64 2)]⟩, ⟨15, g15, 3, [.v (.int .i64 (6 + kk))]⟩]) (sem Try.prog (.inv J k') (.any hbOps (bb gg gd dc) [] 5 (lst [0, 1, 3, 4, 5, 6, 8, 10, 11, 12, 13, 14, 15]) .last)) := by
  refine any_step (i := 2) (p := .last) (r := (.alt 7 .last (.alt 9 .last .last))) hk' (by kernel_rfl) (by kernel_rfl) (bb_mem _) (fun _ h => (by cases h)) ?_
  refine alts_step' (p := .last) 10 0 hk' (by kernel_rfl) (by kernel_rfl) (bb_mem _) (fun _ h => (by cases h)) ?_ ?_
  · simp only [go_sem, simprocAttr, hbOps, hbO, st, bb, List.cons_append, List.nil_append]
    intro g2
    exact any_sub' (hb_012467 hk' hn hkk h0 h9 hJ g2 g6 g8 g15) (by kernel_rfl) (by simp only [go_sem, simprocAttr, st, List.cons_append, List.nil_append]; simp)
  refine alts_step' (p := .last) 12 0 hk' (by kernel_rfl) (by kernel_rfl) (bb_mem _) (fun _ h => (by cases h)) ?_ ?_
  · simp only [go_sem, simprocAttr, hbOps, hbO, st, bb, List.cons_append, List.nil_append]
    intro g7
    exact any_sub' (hb_123467 hk' hn hkk h0 h9 hJ g6 g7 g8 g15) (by kernel_rfl) (by simp only [go_sem, simprocAttr, st, List.cons_append, List.nil_append]; simp)
  refine alts_step' (p := .last) 14 0 hk' (by kernel_rfl) (by kernel_rfl) (bb_mem _) (fun _ h => (by cases h)) ?_ ?_
  · simp only [go_sem, simprocAttr, hbOps, hbO, st, bb, List.cons_append, List.nil_append]
    intro g9
    exact any_sub' (hb_124567 hk' hn hkk h0 h9 hJ g6 g8 g9 g15) (by kernel_rfl) (by simp only [go_sem, simprocAttr, st, List.cons_append, List.nil_append]; simp)
  exact alts_last
theorem hb_1246 (g6 : Nat) (g8 : Nat) : Ok ⟨w, Non, Non, 94⟩ (st wh n gg gd dc w G2 [(29, .c (.s 11 g6 0 1 1)), (31, .c (.s 13 g8 0 2 2)), (37, .c (.v (.int .i64 (6 + kk))))] [⟨11, g6, 3, [.v (.int .i64 (-1 - kk))]⟩, ⟨13, g8, 3, [.v (.int .i64 1), .v (.int .i64 2)]⟩]) (sem Try.prog (.inv J k') (.any hbOps (bb gg gd dc) [] 6 (lst [0, 1, 3, 4, 5, 6, 8, 10, 11, 12, 13, 14]) .last)) := by
  refine any_step (i := 2) (p := .last) (r := (.alt 7 .last (.alt 9 .last (.alt 15 .last .last)))) hk' (by kernel_rfl) (by kernel_rfl) (bb_mem _) (fun _ h => (by cases h)) ?_
  refine alts_step' (p := .last) 10 0 hk' (by kernel_rfl) (by kernel_rfl) (bb_mem _) (fun _ h => (by cases h)) ?_ ?_
  · simp only [go_sem, simprocAttr, hbOps, hbO, st, bb, List.cons_append, List.nil_append]
    intro g2
    exact any_sub' (hb_01246 hk' hn hkk h0 h9 hJ g2 g6 g8) (by kernel_rfl) (by simp only [go_sem, simprocAttr, st, List.cons_append, List.nil_append]; simp)
  refine alts_step' (p := .last) 12 0 hk' (by kernel_rfl) (by kernel_rfl) (bb_mem _) (fun _ h => (by cases h)) ?_ ?_
  · simp only [go_sem, simprocAttr, hbOps, hbO, st, bb, List.cons_append, List.nil_append]
    intro g7
    exact any_sub' (hb_12346 hk' hn hkk h0 h9 hJ g6 g7 g8) (by kernel_rfl) (by simp only [go_sem, simprocAttr, st, List.cons_append, List.nil_append]; simp)
  refine alts_step' (p := .last) 14 0 hk' (by kernel_rfl) (by kernel_rfl) (bb_mem _) (fun _ h => (by cases h)) ?_ ?_
  · simp only [go_sem, simprocAttr, hbOps, hbO, st, bb, List.cons_append, List.nil_append]
    intro g9
    exact any_sub' (hb_12456 hk' hn hkk h0 h9 hJ g6 g8 g9) (by kernel_rfl) (by simp only [go_sem, simprocAttr, st, List.cons_append, List.nil_append]; simp)
  refine alts_step' (p := .last) 15 0 hk' (by kernel_rfl) (by kernel_rfl) (bb_mem _) (fun _ h => (by cases h)) ?_ ?_
  · simp only [go_sem, simprocAttr, hbOps, hbO, st, bb, List.cons_append, List.nil_append]
    intro g15
    exact any_sub' (hb_12467 hk' hn hkk h0 h9 hJ g6 g8 g15) (by kernel_rfl) (by simp only [go_sem, simprocAttr, st, List.cons_append, List.nil_append]; simp)
  exact alts_last
theorem hb_124 (g6 : Nat) (g8 : Nat) : Ok ⟨w, Non, Non, 94⟩ (st wh n gg gd dc w G2 [(29, .c (.s 11 g6 0 1 1)), (31, .c (.s 13 g8 0 2 2))] [⟨11, g6, 3, [.v (.int .i64 (-1 - kk))]⟩, ⟨13, g8, 3, [.v (.int .i64 1), .v (.int .i64 2)]⟩]) (sem Try.prog (.inv J k') (.any hbOps (bb gg gd dc) [] 8 (lst [0, 1, 3, 4, 5, 6, 8, 10, 11, 12]) .last)) := by
  refine any_step (i := 2) (p := .last) (r := (.alt 7 .last (.alt 9 .last (.alt 13 .last .last)))) hk' (by kernel_rfl) (by kernel_rfl) (bb_mem _) (fun _ h => (by cases h)) ?_
  refine alts_step' (p := .last) 10 0 hk' (by kernel_rfl) (by kernel_rfl) (bb_mem _) (fun _ h => (by cases h)) ?_ ?_
  · simp only [go_sem, simprocAttr, hbOps, hbO, st, bb, List.cons_append, List.nil_append]
    intro g2
    exact any_sub' (hb_0124 hk' hn hkk h0 h9 hJ g2 g6 g8) (by kernel_rfl) (by simp only [go_sem, simprocAttr, st, List.cons_append, List.nil_append]; simp)
  refine alts_step' (p := .last) 12 0 hk' (by kernel_rfl) (by kernel_rfl) (bb_mem _) (fun _ h => (by cases h)) ?_ ?_
  · simp only [go_sem, simprocAttr, hbOps, hbO, st, bb, List.cons_append, List.nil_append]
    intro g7
    exact any_sub' (hb_1234 hk' hn hkk h0 h9 hJ g6 g7 g8) (by kernel_rfl) (by simp only [go_sem, simprocAttr, st, List.cons_append, List.nil_append]; simp)
  refine alts_step' (p := .last) 14 0 hk' (by kernel_rfl) (by kernel_rfl) (bb_mem _) (fun _ h => (by cases h)) ?_ ?_
  · simp only [go_sem, simprocAttr, hbOps, hbO, st, bb, List.cons_append, List.nil_append]
    intro g9
    exact any_sub' (hb_1245 hk' hn hkk h0 h9 hJ g6 g8 g9) (by kernel_rfl) (by simp only [go_sem, simprocAttr, st, List.cons_append, List.nil_append]; simp)
  refine alts_step' (p := (.take 14 .last)) 9 1 hk' (by kernel_rfl) (by kernel_rfl) (bb_mem _) (fun _ h => (by cases h)) ?_ ?_
  · simp only [go_sem, simprocAttr, hbOps, hbO, st, bb, List.cons_append, List.nil_append]
    refine any_ok2 (N := 1) (call_does (fun v _ => v = .int .i64 kk) rfl rfl (by kernel_rfl) rfl (by simp only [dOk_some, dOk_none, Nat.reduceLT]) (fun G hG => pick9 hn hkk G)) hk' rfl (by first | exact .inl rfl | exact .inr ⟨_, _, rfl, rfl⟩) (by intro _ hK; obtain ⟨_, _, _, _, rfl⟩ := hK; exact ⟨rfl, fun _ h => h⟩) ?_
    rintro _ ⟨_, G7, rfl, hn7, rfl⟩
    clear hn7
    simp only [go_sem, simprocAttr, decide_true, decide_false, Bool.not_true, Bool.not_false, cond_true, cond_false, beq_self_eq_true, and_self, ne_eq, not_true_eq_false, not_false_eq_true, reduceCtorEq, Bool.true_beq, Bool.false_beq]
    refine ⟨by omega, ?_⟩
    exact any_sub' (hb_1246 hk' hn hkk h0 h9 hJ g6 g8) (by kernel_rfl) (by simp only [go_sem, simprocAttr, st, List.cons_append, List.nil_append]; simp)
  exact alts_last
theorem hb_12567 (g6 : Nat) (g9 : Nat) (g15 : Nat) : Ok ⟨w, Non, Non, 94⟩ (st wh n gg gd dc w G2 [(29, .c (.s 11 g6 0 1 1)), (32, .c (.s 14 g9 0 0 0)), (38, .c (.s 15 g15 0 1 1))] [⟨11, g6, 3, [.v (.int .i64 (-1 - kk))]⟩, ⟨14, g9, 3, []⟩, ⟨15, g15, 3, [.v (.int .i64 (6 + kk))]⟩]) (sem Try.prog (.inv J k') (.any hbOps (bb gg gd dc) [] 5 (lst [0, 1, 3, 4, 5, 6, 9, 10, 11, 12, 13, 14, 15]) .last)) := by
  refine any_step (i := 2) (p := .last) (r := (.alt 7 .last (.alt 8 .last .last))) hk' (by kernel_rfl) (by kernel_rfl) (bb_mem _) (fun _ h => (by cases h)) ?_
  refine alts_step' (p := .last) 10 0 hk' (by kernel_rfl) (by kernel_rfl) (bb_mem _) (fun _ h => (by cases h)) ?_ ?_
  · simp only [go_sem, simprocAttr, hbOps, hbO, st, bb, List.cons_append, List.nil_append]
    intro g2
    exact any_sub' (hb_012567 hk' hn hkk h0 h9 hJ g2 g6 g9 g15) (by kernel_rfl) (by simp only [go_sem, simprocAttr, st, List.cons_append, List.nil_append]; simp)
  refine alts_step' (p := .last) 12 0 hk' (by kernel_rfl) (by kernel_rfl) (bb_mem _) (fun _ h => (by cases h)) ?_ ?_
  · simp only [go_sem, simprocAttr, hbOps, hbO, st, bb, List.cons_append, List.nil_append]
    intro g7
    exact any_sub' (hb_123567 hk' hn hkk h0 h9 hJ g6 g7 g9 g15) (by kernel_rfl) (by simp only [go_sem, simprocAttr, st, List.cons_append, List.nil_append]; simp)
  refine alts_step' (p := .last) 13 0 hk' (by kernel_rfl) (by kernel_rfl) (bb_mem _) (fun _ h => (by cases h)) ?_ ?_
  · simp only [go_sem, simprocAttr, hbOps, hbO, st, bb, List.cons_append, List.nil_append]
    intro g8
    exact any_sub' (hb_124567 hk' hn hkk h0 h9 hJ g6 g8 g9 g15) (by kernel_rfl) (by simp only [go_sem, simprocAttr, st, List.cons_append, List.nil_append]; simp)
  exact alts_last
theorem hb_1256 (g6 : Nat) (g9 : Nat) : Ok ⟨w, Non, Non, 94⟩ (st wh n gg gd dc w G2 [(29, .c (.s 11 g6 0 1 1)), (32, .c (.s 14 g9 0 0 0)), (37, .c (.v (.int .i64 (6 + kk))))] [⟨11, g6, 3, [.v (.int .i64 (-1 - kk))]⟩, ⟨14, g9, 3, []⟩]) (sem Try.prog (.inv J k') (.any hbOps (bb gg gd dc) [] 6 (lst [0, 1, 3, 4, 5, 6, 9, 10, 11, 12, 13, 14]) .last)) := by
  refine any_step (i := 2) (p := .last) (r := (.alt 7 .last (.alt 8 .last (.alt 15 .last .last)))) hk' (by kernel_rfl) (by kernel_rfl) (bb_mem _) (fun _ h => (by cases h)) ?_
  refine alts_step' (p := .last) 10 0 hk' (by kernel_rfl) (by kernel_rfl) (bb_mem _) (fun _ h => (by cases h)) ?_ ?_
  · simp only [go_sem, simprocAttr, hbOps, hbO, st, bb, List.cons_append, List.nil_append]
    intro g2
    exact any_sub' (hb_01256 hk' hn hkk h0 h9 hJ g2 g6 g9) (by kernel_rfl) (by simp only [go_sem, simprocAttr, st, List.cons_append, List.nil_append]; simp)
  refine alts_step' (p := .last) 12 0 hk' (by kernel_rfl) (by kernel_rfl) (bb_mem _) (fun _ h => (by cases h)) ?_ ?_
  · simp only [go_sem, simprocAttr, hbOps, hbO, st, bb, List.cons_append, List.nil_append]
    intro g7
    exact any_sub' (hb_12356 hk' hn hkk h0 h9 hJ g6 g7 g9) (by kernel_rfl) (by simp only [go_sem, simprocAttr, st, List.cons_append, List.nil_append]; simp)
  refine alts_step' (p := .last) 13 0 hk' (by kernel_rfl) (by kernel_rfl) (bb_mem _) (fun _ h => (by cases h)) ?_ ?_
  · simp only [go_sem, simprocAttr, hbOps, hbO, st, bb, List.cons_append, List.nil_append]
    intro g8
    exact any_sub' (hb_12456 hk' hn hkk h0 h9 hJ g6 g8 g9) (by kernel_rfl) (by simp only [go_sem, simprocAttr, st, List.cons_append, List.nil_append]; simp)
  refine alts_step' (p := .last) 15 0 hk' (by kernel_rfl) (by kernel_rfl) (bb_mem _) (fun _ h => (by cases h)) ?_ ?_
  · simp only [go_sem, simprocAttr, hbOps, hbO, st, bb, List.cons_append, List.nil_append]
    intro g15
    exact any_sub' (hb_12567 hk' hn hkk h0 h9 hJ g6 g9 g15) (by kernel_rfl) (by simp only [go_sem, simprocAttr, st, List.cons_append, List.nil_append]; simp)
  exact alts_last
theorem hb_125 (g6 : Nat) (g9 : Nat) : Ok ⟨w, Non, Non, 94⟩ (st wh n gg gd dc w G2 [(29, .c (.s 11 g6 0 1 1)), (32, .c (.s 14 g9 0 0 0))] [⟨11, g6, 3, [.v (.int .i64 (-1 - kk))]⟩, ⟨14, g9, 3, []⟩]) (sem Try.prog (.inv J k') (.any hbOps (bb gg gd dc) [] 8 (lst [0, 1, 3, 4, 5, 6, 9, 10, 11, 12]) .last)) := by
  refine any_step (i := 2) (p := .last) (r := (.alt 7 .last (.alt 8 .last (.alt 13 .last .last)))) hk' (by kernel_rfl) (by kernel_rfl) (bb_mem _) (fun _ h => (by cases h)) ?_
  refine alts_step' (p := .last) 10 0 hk' (by kernel_rfl) (by kernel_rfl) (bb_mem _) (fun _ h => (by cases h)) ?_ ?_
  · simp only [go_sem, simprocAttr, hbOps, hbO, st, bb, List.cons_append, List.nil_append]
    intro g2
    exact any_sub' (hb_0125 hk' hn hkk h0 h9 hJ g2 g6 g9) (by kernel_rfl) (by simp only [go_sem, simprocAttr, st, List.cons_append, List.nil_append]; simp)
  refine alts_step' (p := .last) 12 0 hk' (by kernel_rfl) (by kernel_rfl) (bb_mem _) (fun _ h => (by cases h)) ?_ ?_
  · simp only [go_sem, simprocAttr, hbOps, hbO, st, bb, List.cons_append, List.nil_append]
    intro g7
    exact any_sub' (hb_1235 hk' hn hkk h0 h9 hJ g6 g7 g9) (by kernel_rfl) (by simp only [go_sem, simprocAttr, st, List.cons_append, List.nil_append]; simp)
  refine alts_step' (p := .last) 13 0 hk' (by kernel_rfl) (by kernel_rfl) (bb_mem _) (fun _ h => (by cases h)) ?_ ?_
  · simp only [go_sem, simprocAttr, hbOps, hbO, st, bb, List.cons_append, List.nil_append]
    intro g8
    exact any_sub' (hb_1245 hk' hn hkk h0 h9 hJ g6 g8 g9) (by kernel_rfl) (by simp only [go_sem, simprocAttr, st, List.cons_append, List.nil_append]; simp)
  refine alts_step' (p := (.take 14 .last)) 9 1 hk' (by kernel_rfl) (by kernel_rfl) (bb_mem _) (fun _ h => (by cases h)) ?_ ?_
  · simp only [go_sem, simprocAttr, hbOps, hbO, st, bb, List.cons_append, List.nil_append]
    refine any_ok2 (N := 1) (call_does (fun v _ => v = .int .i64 kk) rfl rfl (by kernel_rfl) rfl (by simp only [dOk_some, dOk_none, Nat.reduceLT]) (fun G hG => pick9 hn hkk G)) hk' rfl (by first | exact .inl rfl | exact .inr ⟨_, _, rfl, rfl⟩) (by intro _ hK; obtain ⟨_, _, _, _, rfl⟩ := hK; exact ⟨rfl, fun _ h => h⟩) ?_
    rintro _ ⟨_, G7, rfl, hn7, rfl⟩
    clear hn7
    simp only [go_sem, simprocAttr, decide_true, decide_false, Bool.not_true, Bool.not_false, cond_true, cond_false, beq_self_eq_true, and_self, ne_eq, not_true_eq_false, not_false_eq_true, reduceCtorEq, Bool.true_beq, Bool.false_beq]
    refine ⟨by omega, ?_⟩
    exact any_sub' (hb_1256 hk' hn hkk h0 h9 hJ g6 g9) (by kernel_rfl) (by simp only [go_sem, simprocAttr, st, List.cons_append, List.nil_append]; simp)
  exact alts_last
theorem hb_1267 (g6 : Nat) (g15 : Nat) : Ok ⟨w, Non, Non, 94⟩ (st wh n gg gd dc w G2 [(29, .c (.s 11 g6 0 1 1)), (38, .c (.s 15 g15 0 1 1))] [⟨11, g6, 3, [.v (.int .i64 (-1 - kk))]⟩, ⟨15, g15, 3, [.v (.int .i64 (6 + kk))]⟩]) (sem Try.prog (.inv J k') (.any hbOps (bb gg gd dc) [] 6 (lst [0, 1, 3, 4, 5, 6, 10, 11, 12, 13, 14, 15]) .last)) := by
  refine any_step (i := 2) (p := .last) (r := (.alt 7 .last (.alt 8 .last (.alt 9 .last .last)))) hk' (by kernel_rfl) (by kernel_rfl) (bb_mem _) (fun _ h => (by cases h)) ?_
  refine alts_step' (p := .last) 10 0 hk' (by kernel_rfl) (by kernel_rfl) (bb_mem _) (fun _ h => (by cases h)) ?_ ?_
  · simp only [go_sem, simprocAttr, hbOps, hbO, st, bb, List.cons_append, List.nil_append]
    intro g2
    exact any_sub' (hb_01267 hk' hn hkk h0 h9 hJ g2 g6 g15) (by kernel_rfl) (by simp only [go_sem, simprocAttr, st, List.cons_append, List.nil_append]; simp)
  refine alts_step' (p := .last) 12 0 hk' (by kernel_rfl) (by kernel_rfl) (bb_mem _) (fun _ h => (by cases h)) ?_ ?_
  · simp only [go_sem, simprocAttr, hbOps, hbO, st, bb, List.cons_append, List.nil_append]
    intro g7
    exact any_sub' (hb_12367 hk' hn hkk h0 h9 hJ g6 g7 g15) (by kernel_rfl) (by simp only [go_sem, simprocAttr, st, List.cons_append, List.nil_append]; simp)
  refine alts_step' (p := .last) 13 0 hk' (by kernel_rfl) (by kernel_rfl) (bb_mem _) (fun _ h => (by cases h)) ?_ ?_
  · simp only [go_sem, simprocAttr, hbOps, hbO, st, bb, List.cons_append, List.nil_append]
    intro g8
    exact any_sub' (hb_12467 hk' hn hkk h0 h9 hJ g6 g8 g15) (by kernel_rfl) (by simp only [go_sem, simprocAttr, st, List.cons_append, List.nil_append]; simp)
  refine alts_step' (p := .last) 14 0 hk' (by kernel_rfl) (by kernel_rfl) (bb_mem _) (fun _ h => (by cases h)) ?_ ?_
  · simp only [go_sem, simprocAttr, hbOps, hbO, st, bb, List.cons_append, List.nil_append]
    intro g9
    exact any_sub' (hb_12567 hk' hn hkk h0 h9 hJ g6 g9 g15) (by kernel_rfl) (by simp only [go_sem, simprocAttr, st, List.cons_append, List.nil_append]; simp)
  exact alts_last
theorem hb_126 (g6 : Nat) : Ok ⟨w, Non, Non, 94⟩ (st wh n gg gd dc w G2 [(29, .c (.s 11 g6 0 1 1)), (37, .c (.v (.int .i64 (6 + kk))))] [⟨11, g6, 3, [.v (.int .i64 (-1 - kk))]⟩]) (sem Try.prog (.inv J k') (.any hbOps (bb gg gd dc) [] 7 (lst [0, 1, 3, 4, 5, 6, 10, 11, 12, 13, 14]) .last)) := by
  refine any_step (i := 2) (p := .last) (r := (.alt 7 .last (.alt 8 .last (.alt 9 .last (.alt 15 .last .last))))) hk' (by kernel_rfl) (by kernel_rfl) (bb_mem _) (fun _ h => (by cases h)) ?_
  refine alts_step' (p := .last) 10 0 hk' (by kernel_rfl) (by kernel_rfl) (bb_mem _) (fun _ h => (by cases h)) ?_ ?_
  · simp only [go_sem, simprocAttr, hbOps, hbO, st, bb, List.cons_append, List.nil_append]
    intro g2
    exact any_sub' (hb_0126 hk' hn hkk h0 h9 hJ g2 g6) (by kernel_rfl) (by simp only [go_sem, simprocAttr, st, List.cons_append, List.nil_append]; simp)
  refine alts_step' (p := .last) 12 0 hk' (by kernel_rfl) (by kernel_rfl) (bb_mem _) (fun _ h => (by cases h)) ?_ ?_
  · simp only [go_sem, simprocAttr, hbOps, hbO, st, bb, List.cons_append, List.nil_append]
    intro g7
    exact any_sub' (hb_1236 hk' hn hkk h0 h9 hJ g6 g7) (by kernel_rfl) (by simp only [go_sem, simprocAttr, st, List.cons_append, List.nil_append]; simp)
  refine alts_step' (p := .last) 13 0 hk' (by kernel_rfl) (by kernel_rfl) (bb_mem _) (fun _ h => (by cases h)) ?_ ?_
  · simp only [go_sem, simprocAttr, hbOps, hbO, st, bb, List.cons_append, List.nil_append]
    intro g8
    exact any_sub' (hb_1246 hk' hn hkk h0 h9 hJ g6 g8) (by kernel_rfl) (by simp only [go_sem, simprocAttr, st, List.cons_append, List.nil_append]; simp)
  refine alts_step' (p := .last) 14 0 hk' (by kernel_rfl) (by kernel_rfl) (bb_mem _) (fun _ h => (by cases h)) ?_ ?_
  · simp only [go_sem, simprocAttr, hbOps, hbO, st, bb, List.cons_append, List.nil_append]
    intro g9
    exact any_sub' (hb_1256 hk' hn hkk h0 h9 hJ g6 g9) (by kernel_rfl) (by simp only [go_sem, simprocAttr, st, List.cons_append, List.nil_append]; simp)
  refine alts_step' (p := .last) 15 0 hk' (by kernel_rfl) (by kernel_rfl) (bb_mem _) (fun _ h => (by cases h)) ?_ ?_
  · simp only [go_sem, simprocAttr, hbOps, hbO, st, bb, List.cons_append, List.nil_append]
    intro g15
    exact any_sub' (hb_1267 hk' hn hkk h0 h9 hJ g6 g15) (by kernel_rfl) (by simp only [go_sem, simprocAttr, st, List.cons_append, List.nil_append]; simp)
  exact alts_last
theorem hb_12 (g6 : Nat) : Ok ⟨w, Non, Non, 94⟩ (st wh n gg gd dc w G2 [(29, .c (.s 11 g6 0 1 1))] [⟨11, g6, 3, [.v (.int .i64 (-1 - kk))]⟩]) (sem Try.prog (.inv J k') (.any hbOps (bb gg gd dc) [] 9 (lst [0, 1, 3, 4, 5, 6, 10, 11, 12]) .last)) := by
  refine any_step (i := 2) (p := .last) (r := (.alt 7 .last (.alt 8 .last (.alt 9 .last (.alt 13 .last .last))))) hk' (by kernel_rfl) (by kernel_rfl) (bb_mem _) (fun _ h => (by cases h)) ?_
  refine alts_step' (p := .last) 10 0 hk' (by kernel_rfl) (by kernel_rfl) (bb_mem _) (fun _ h => (by cases h)) ?_ ?_
  · simp only [go_sem, simprocAttr, hbOps, hbO, st, bb, List.cons_append, List.nil_append]
    intro g2
    exact any_sub' (hb_012 hk' hn hkk h0 h9 hJ g2 g6) (by kernel_rfl) (by simp only [go_sem, simprocAttr, st, List.cons_append, List.nil_append]; simp)
  refine alts_step' (p := .last) 12 0 hk' (by kernel_rfl) (by kernel_rfl) (bb_mem _) (fun _ h => (by cases h)) ?_ ?_
  · simp only [go_sem, simprocAttr, hbOps, hbO, st, bb, List.cons_append, List.nil_append]
    intro g7
    exact any_sub' (hb_123 hk' hn hkk h0 h9 hJ g6 g7) (by kernel_rfl) (by simp only [go_sem, simprocAttr, st, List.cons_append, List.nil_append]; simp)
  refine alts_step' (p := .last) 13 0 hk' (by kernel_rfl) (by kernel_rfl) (bb_mem _) (fun _ h => (by cases h)) ?_ ?_
  · simp only [go_sem, simprocAttr, hbOps, hbO, st, bb, List.cons_append, List.nil_append]
    intro g8
    exact any_sub' (hb_124 hk' hn hkk h0 h9 hJ g6 g8) (by kernel_rfl) (by simp only [go_sem, simprocAttr, st, List.cons_append, List.nil_append]; simp)
  refine alts_step' (p := .last) 14 0 hk' (by kernel_rfl) (by kernel_rfl) (bb_mem _) (fun _ h => (by cases h)) ?_ ?_
  · simp only [go_sem, simprocAttr, hbOps, hbO, st, bb, List.cons_append, List.nil_append]
    intro g9
    exact any_sub' (hb_125 hk' hn hkk h0 h9 hJ g6 g9) (by kernel_rfl) (by simp only [go_sem, simprocAttr, st, List.cons_append, List.nil_append]; simp)
  refine alts_step' (p := (.take 14 .last)) 9 1 hk' (by kernel_rfl) (by kernel_rfl) (bb_mem _) (fun _ h => (by cases h)) ?_ ?_
  · simp only [go_sem, simprocAttr, hbOps, hbO, st, bb, List.cons_append, List.nil_append]
    refine any_ok2 (N := 1) (call_does (fun v _ => v = .int .i64 kk) rfl rfl (by kernel_rfl) rfl (by simp only [dOk_some, dOk_none, Nat.reduceLT]) (fun G hG => pick9 hn hkk G)) hk' rfl (by first | exact .inl rfl | exact .inr ⟨_, _, rfl, rfl⟩) (by intro _ hK; obtain ⟨_, _, _, _, rfl⟩ := hK; exact ⟨rfl, fun _ h => h⟩) ?_
    rintro _ ⟨_, G7, rfl, hn7, rfl⟩
    clear hn7
    simp only [go_sem, simprocAttr, decide_true, decide_false, Bool.not_true, Bool.not_false, cond_true, cond_false, beq_self_eq_true, and_self, ne_eq, not_true_eq_false, not_false_eq_true, reduceCtorEq, Bool.true_beq, Bool.false_beq]
    refine ⟨by omega, ?_⟩
    exact any_sub' (hb_126 hk' hn hkk h0 h9 hJ g6) (by kernel_rfl) (by simp only [go_sem, simprocAttr, st, List.cons_append, List.nil_append]; simp)
  exact alts_last
theorem hb_134567 (g7 : Nat) (g8 : Nat) (g9 : Nat) (g15 : Nat) : Ok ⟨w, Non, Non, 94⟩ (st wh n gg gd dc w G2 [(28, .c (.v (.int .i64 (-1 - kk)))), (30, .c (.s 12 g7 0 2 2)), (31, .c (.s 13 g8 0 2 2)), (32, .c (.s 14 g9 0 0 0)), (38, .c (.s 15 g15 0 1 1))] [⟨12, g7, 3, [.v (.int .i64 0), .v (.int .i64 0)]⟩, ⟨13, g8, 3, [.v (.int .i64 1), .v (.int .i64 2)]⟩, ⟨14, g9, 3, []⟩, ⟨15, g15, 3, [.v (.int .i64 (6 + kk))]⟩]) (sem Try.prog (.inv J k') (.any hbOps (bb gg gd dc) [] 4 (lst [0, 1, 3, 4, 5, 7, 8, 9, 10, 11, 12, 13, 14, 15]) .last)) := by
  refine any_step (i := 2) (p := .last) (r := (.alt 6 .last .last)) hk' (by kernel_rfl) (by kernel_rfl) (bb_mem _) (fun _ h => (by cases h)) ?_
  refine alts_step' (p := .last) 10 0 hk' (by kernel_rfl) (by kernel_rfl) (bb_mem _) (fun _ h => (by cases h)) ?_ ?_
  · simp only [go_sem, simprocAttr, hbOps, hbO, st, bb, List.cons_append, List.nil_append]
    intro g2
    exact any_sub' (hb_0134567 hk' hn hkk h0 h9 hJ g2 g7 g8 g9 g15) (by kernel_rfl) (by simp only [go_sem, simprocAttr, st, List.cons_append, List.nil_append]; simp)
  refine alts_step' (p := .last) 11 0 hk' (by kernel_rfl) (by kernel_rfl) (bb_mem _) (fun _ h => (by cases h)) ?_ ?_
  · simp only [go_sem, simprocAttr, hbOps, hbO, st, bb, List.cons_append, List.nil_append]
    intro g6
    exact any_sub' (hb_1234567 hk' hn hkk h0 h9 hJ g6 g7 g8 g9 g15) (by kernel_rfl) (by simp only [go_sem, simprocAttr, st, List.cons_append, List.nil_append]; simp)
  exact alts_last
theorem hb_13456 (g7 : Nat) (g8 : Nat) (g9 : Nat) : Ok ⟨w, Non, Non, 94⟩ (st wh n gg gd dc w G2 [(28, .c (.v (.int .i64 (-1 - kk)))), (30, .c (.s 12 g7 0 2 2)), (31, .c (.s 13 g8 0 2 2)), (32, .c (.s 14 g9 0 0 0)), (37, .c (.v (.int .i64 (6 + kk))))] [⟨12, g7, 3, [.v (.int .i64 0), .v (.int .i64 0)]⟩, ⟨13, g8, 3, [.v (.int .i64 1), .v (.int .i64 2)]⟩, ⟨14, g9, 3, []⟩]) (sem Try.prog (.inv J k') (.any hbOps (bb gg gd dc) [] 5 (lst [0, 1, 3, 4, 5, 7, 8, 9, 10, 11, 12, 13, 14]) .last)) := by
  refine any_step (i := 2) (p := .last) (r := (.alt 6 .last (.alt 15 .last .last))) hk' (by kernel_rfl) (by kernel_rfl) (bb_mem _) (fun _ h => (by cases h)) ?_
  refine alts_step' (p := .last) 10 0 hk' (by kernel_rfl) (by kernel_rfl) (bb_mem _) (fun _ h => (by cases h)) ?_ ?_
  · simp only [go_sem, simprocAttr, hbOps, hbO, st, bb, List.cons_append, List.nil_append]
    intro g2
    exact any_sub' (hb_013456 hk' hn hkk h0 h9 hJ g2 g7 g8 g9) (by kernel_rfl) (by simp only [go_sem, simprocAttr, st, List.cons_append, List.nil_append]; simp)
  refine alts_step' (p := .last) 11 0 hk' (by kernel_rfl) (by kernel_rfl) (bb_mem _) (fun _ h => (by cases h)) ?_ ?_
  · simp only [go_sem, simprocAttr, hbOps, hbO, st, bb, List.cons_append, List.nil_append]
    intro g6
    exact any_sub' (hb_123456 hk' hn hkk h0 h9 hJ g6 g7 g8 g9) (by kernel_rfl) (by simp only [go_sem, simprocAttr, st, List.cons_append, List.nil_append]; simp)
  refine alts_step' (p := .last) 15 0 hk' (by kernel_rfl) (by kernel_rfl) (bb_mem _) (fun _ h => (by cases h)) ?_ ?_
  · simp only [go_sem, simprocAttr, hbOps, hbO, st, bb, List.cons_append, List.nil_append]
    intro g15
    exact any_sub' (hb_134567 hk' hn hkk h0 h9 hJ g7 g8 g9 g15) (by kernel_rfl) (by simp only [go_sem, simprocAttr, st, List.cons_append, List.nil_append]; simp)
  exact alts_last
theorem hb_1345 (g7 : Nat) (g8 : Nat) (g9 : Nat) : Ok ⟨w, Non, Non, 94⟩ (st wh n gg gd dc w G2 [(28, .c (.v (.int .i64 (-1 - kk)))), (30, .c (.s 12 g7 0 2 2)), (31, .c (.s 13 g8 0 2 2)), (32, .c (.s 14 g9 0 0 0))] [⟨12, g7, 3, [.v (.int .i64 0), .v (.int .i64 0)]⟩, ⟨13, g8, 3, [.v (.int .i64 1), .v (.int .i64 2)]⟩, ⟨14, g9, 3, []⟩]) (sem Try.prog (.inv J k') (.any hbOps (bb gg gd dc) [] 7 (lst [0, 1, 3, 4, 5, 7, 8, 9, 10, 11, 12]) .last)) := by
  refine any_step (i := 2) (p := .last) (r := (.alt 6 .last (.alt 13 .last .last))) hk' (by kernel_rfl) (by kernel_rfl) (bb_mem _) (fun _ h => (by cases h)) ?_
  refine alts_step' (p := .last) 10 0 hk' (by kernel_rfl) (by kernel_rfl) (bb_mem _) (fun _ h => (by cases h)) ?_ ?_
  · simp only [go_sem, simprocAttr, hbOps, hbO, st, bb, List.cons_append, List.nil_append]
    intro g2
    exact any_sub' (hb_01345 hk' hn hkk h0 h9 hJ g2 g7 g8 g9) (by kernel_rfl) (by simp only [go_sem, simprocAttr, st, List.cons_append, List.nil_append]; simp)
  refine alts_step' (p := .last) 11 0 hk' (by kernel_rfl) (by kernel_rfl) (bb_mem _) (fun _ h => (by cases h)) ?_ ?_
  · simp only [go_sem, simprocAttr, hbOps, hbO, st, bb, List.cons_append, List.nil_append]
    intro g6
    exact any_sub' (hb_12345 hk' hn hkk h0 h9 hJ g6 g7 g8 g9) (by kernel_rfl) (by simp only [go_sem, simprocAttr, st, List.cons_append, List.nil_append]; simp)
  refine alts_step' (p := (.take 14 .last)) 9 1 hk' (by kernel_rfl) (by kernel_rfl) (bb_mem _) (fun _ h => (by cases h)) ?_ ?_
  · simp only [go_sem, simprocAttr, hbOps, hbO, st, bb, List.cons_append, List.nil_append]
    refine any_ok2 (N := 1) (call_does (fun v _ => v = .int .i64 kk) rfl rfl (by kernel_rfl) rfl (by simp only [dOk_some, dOk_none, Nat.reduceLT]) (fun G hG => pick9 hn hkk G)) hk' rfl (by first | exact .inl rfl | exact .inr ⟨_, _, rfl, rfl⟩) (by intro _ hK; obtain ⟨_, _, _, _, rfl⟩ := hK; exact ⟨rfl, fun _ h => h⟩) ?_
    rintro _ ⟨_, G7, rfl, hn7, rfl⟩
    clear hn7
    simp only [go_sem, simprocAttr, decide_true, decide_false, Bool.not_true, Bool.not_false, cond_true, cond_false, beq_self_eq_true, and_self, ne_eq, not_true_eq_false, not_false_eq_true, reduceCtorEq, Bool.true_beq, Bool.false_beq]
    refine ⟨by omega, ?_⟩
    exact any_sub' (hb_13456 hk' hn hkk h0 h9 hJ g7 g8 g9) (by kernel_rfl) (by simp only [go_sem, simprocAttr, st, List.cons_append, List.nil_append]; simp)
  exact alts_last
theorem hb_13467 (g7 : Nat) (g8 : Nat) (g15 : Nat) : Ok ⟨w, Non, Non, 94⟩ (st wh n gg gd dc w G2 [(28, .c (.v (.int .i64 (-1 - kk)))), (30, .c (.s 12 g7 0 2 2)), (31, .c (.s 13 g8 0 2 2)), (38, .c (.s 15 g15 0 1 1))] [⟨12, g7, 3, [.v (.int .i64 0), .v (.int .i64 0)]⟩, ⟨13, g8, 3, [.v (.int .i64 1), .v (.int .i64 2)]⟩, ⟨15, g15, 3, [.v (.int .i64 (6 + kk))]⟩]) (sem Try.prog (.inv J k') (.any hbOps (bb gg gd dc) [] 5 (lst [0, 1, 3, 4, 5, 7, 8, 10, 11, 12, 13, 14, 15]) .last)) := by
  refine any_step (i := 2) (p := .last) (r := (.alt 6 .last (.alt 9 .last .last))) hk' (by kernel_rfl) (by kernel_rfl) (bb_mem _) (fun _ h => (by cases h)) ?_
  refine alts_step' (p := .last) 10 0 hk' (by kernel_rfl) (by kernel_rfl) (bb_mem _) (fun _ h => (by cases h)) ?_ ?_
  · simp only [go_sem, simprocAttr, hbOps, hbO, st, bb, List.cons_append, List.nil_append]
    intro g2
    exact any_sub' (hb_013467 hk' hn hkk h0 h9 hJ g2 g7 g8 g15) (by kernel_rfl) (by simp only [go_sem, simprocAttr, st, List.cons_append, List.nil_append]; simp)
  refine alts_step' (p := .last) 11 0 hk' (by kernel_rfl) (by kernel_rfl) (bb_mem _) (fun _ h => (by cases h)) ?_ ?_
  · simp only [go_sem, simprocAttr, hbOps, hbO, st, bb, List.cons_append, List.nil_append]
    intro g6
    exact any_sub' (hb_123467 hk' hn hkk h0 h9 hJ g6 g7 g8 g15) (by kernel_rfl) (by simp only [go_sem, simprocAttr, st, List.cons_append, List.nil_append]; simp)
  refine alts_step' (p := .last) 14 0 hk' (by kernel_rfl) (by kernel_rfl) (bb_mem _) (fun _ h => (by cases h)) ?_ ?_
  · simp only [go_sem, simprocAttr, hbOps, hbO, st, bb, List.cons_append, List.nil_append]
    intro g9
    exact any_sub' (hb_134567 hk' hn hkk h0 h9 hJ g7 g8 g9 g15) (by kernel_rfl) (by simp only [go_sem, simprocAttr, st, List.cons_append, List.nil_append]; simp)
  exact alts_last
theorem hb_1346 (g7 : Nat) (g8 : Nat) : Ok ⟨w, Non, Non, 94⟩ (st wh n gg gd dc w G2 [(28, .c (.v (.int .i64 (-1 - kk)))), (30, .c (.s 12 g7 0 2 2)), (31, .c (.s 13 g8 0 2 2)), (37, .c (.v (.int .i64 (6 + kk))))] [⟨12, g7, 3, [.v (.int .i64 0), .v (.int .i64 0)]⟩, ⟨13, g8, 3, [.v (.int .i64 1), .v (.int .i64 2)]⟩]) (sem Try.prog (.inv J k') (.any hbOps (bb gg gd dc) [] 6 (lst [0, 1, 3, 4, 5, 7, 8, 10, 11, 12, 13, 14]) .last)) := by
  refine any_step (i := 2) (p := .last) (r := (.alt 6 .last (.alt 9 .last (.alt 15 .last .last)))) hk' (by kernel_rfl) (by kernel_rfl) (bb_mem _) (fun _ h => (by cases h)) ?_
  refine alts_step' (p := .last) 10 0 hk' (by kernel_rfl) (by kernel_rfl) (bb_mem _) (fun _ h => (by cases h)) ?_ ?_
  · simp only [go_sem, simprocAttr, hbOps, hbO, st, bb, List.cons_append, List.nil_append]
    intro g2
    exact any_sub' (hb_01346 hk' hn hkk h0 h9 hJ g2 g7 g8) (by kernel_rfl) (by simp only [go_sem, simprocAttr, st, List.cons_append, List.nil_append]; simp)
  refine alts_step' (p := .last) 11 0 hk' (by kernel_rfl) (by kernel_rfl) (bb_mem _) (fun _ h => (by cases h)) ?_ ?_
  · simp only [go_sem, simprocAttr, hbOps, hbO, st, bb, List.cons_append, List.nil_append]
    intro g6
    exact any_sub' (hb_12346 hk' hn hkk h0 h9 hJ g6 g7 g8) (by kernel_rfl) (by simp only [go_sem, simprocAttr, st, List.cons_append, List.nil_append]; simp)
  refine alts_step' (p := .last) 14 0 hk' (by kernel_rfl) (by kernel_rfl) (bb_mem _) (fun _ h => (by cases h)) ?_ ?_
  · simp only [go_sem, simprocAttr, hbOps, hbO, st, bb, List.cons_append, List.nil_append]
    intro g9
    exact any_sub' (hb_13456 hk' hn hkk h0 h9 hJ g7 g8 g9) (by kernel_rfl) (by simp only [go_sem, simprocAttr, st, List.cons_append, List.nil_append]; simp)
  refine alts_step' (p := .last) 15 0 hk' (by kernel_rfl) (by kernel_rfl) (bb_mem _) (fun _ h => (by cases h)) ?_ ?_
  · simp only [go_sem, simprocAttr, hbOps, hbO, st, bb, List.cons_append, List.nil_append]
    intro g15
    exact any_sub' (hb_13467 hk' hn hkk h0 h9 hJ g7 g8 g15) (by kernel_rfl) (by simp only [go_sem, simprocAttr, st, List.cons_append, List.nil_append]; simp)
  exact alts_last
theorem hb_134 (g7 : Nat) (g8 : Nat) : Ok ⟨w, Non, Non, 94⟩ (st wh n gg gd dc w G2 [(28, .c (.v (.int .i64 (-1 - kk)))), (30, .c (.s 12 g7 0 2 2)), (31, .c (.s 13 g8 0 2 2))] [⟨12, g7, 3, [.v (.int .i64 0), .v (.int .i64 0)]⟩, ⟨13, g8, 3, [.v (.int .i64 1), .v (.int .i64 2)]⟩]) (sem Try.prog (.inv J k') (.any hbOps (bb gg gd dc) [] 8 (lst [0, 1, 3, 4, 5, 7, 8, 10, 11, 12]) .last)) := by
  refine any_step (i := 2) (p := .last) (r := (.alt 6 .last (.alt 9 .last (.alt 13 .last .last)))) hk' (by kernel_rfl) (by kernel_rfl) (bb_mem _) (fun _ h => (by cases h)) ?_
  refine alts_step' (p := .last) 10 0 hk' (by kernel_rfl) (by kernel_rfl) (bb_mem _) (fun _ h => (by cases h)) ?_ ?_
  · simp only [go_sem, simprocAttr, hbOps, hbO, st, bb, List.cons_append, List.nil_append]
    intro g2
    exact any_sub' (hb_0134 hk' hn hkk h0 h9 hJ g2 g7 g8) (by kernel_rfl) (by simp only [go_sem, simprocAttr, st, List.cons_append, List.nil_append]; simp)
  refine alts_step' (p := .last) 11 0 hk' (by kernel_rfl) (by kernel_rfl) (bb_mem _) (fun _ h => (by cases h)) ?_ ?_
  · simp only [go_sem, simprocAttr, hbOps, hbO, st, bb, List.cons_append, List.nil_append]
    intro g6
    exact any_sub' (hb_1234 hk' hn hkk h0 h9 hJ g6 g7 g8) (by kernel_rfl) (by simp only [go_sem, simprocAttr, st, List.cons_append, List.nil_append]; simp)
  refine alts_step' (p := .last) 14 0 hk' (by kernel_rfl) (by kernel_rfl) (bb_mem _) (fun _ h => (by cases h)) ?_ ?_
  · simp only [go_sem, simprocAttr, hbOps, hbO, st, bb, List.cons_append, List.nil_append]
    intro g9
    exact any_sub' (hb_1345 hk' hn hkk h0 h9 hJ g7 g8 g9) (by kernel_rfl) (by simp only [go_sem, simprocAttr, st, List.cons_append, List.nil_append]; simp)
  refine alts_step' (p := (.take 14 .last)) 9 1 hk' (by kernel_rfl) (by kernel_rfl) (bb_mem _) (fun _ h => (by cases h)) ?_ ?_
  · simp only [go_sem, simprocAttr, hbOps, hbO, st, bb, List.cons_append, List.nil_append]
    refine any_ok2 (N := 1) (call_does (fun v _ => v = .int .i64 kk) rfl rfl (by kernel_rfl) rfl (by simp only [dOk_some, dOk_none, Nat.reduceLT]) (fun G hG => pick9 hn hkk G)) hk' rfl (by first | exact .inl rfl | exact .inr ⟨_, _, rfl, rfl⟩) (by intro _ hK; obtain ⟨_, _, _, _, rfl⟩ := hK; exact ⟨rfl, fun _ h => h⟩) ?_
    rintro _ ⟨_, G7, rfl, hn7, rfl⟩
    clear hn7
    simp only [go_sem, simprocAttr, decide_true, decide_false, Bool.not_true, Bool.not_false, cond_true, cond_false, beq_self_eq_true, and_self, ne_eq, not_true_eq_false, not_false_eq_true, reduceCtorEq, Bool.true_beq, Bool.false_beq]
    refine ⟨by omega, ?_⟩
    exact any_sub' (hb_1346 hk' hn hkk h0 h9 hJ g7 g8) (by kernel_rfl) (by simp only [go_sem, simprocAttr, st, List.cons_append, List.nil_append]; simp)
  exact alts_last
theorem hb_13567 (g7 : Nat) (g9 : Nat) (g15 : Nat) : Ok ⟨w, Non, Non, 94⟩ (st wh n gg gd dc w G2 [(28, .c (.v (.int .i64 (-1 - kk)))), (30, .c (.s 12 g7 0 2 2)), (32, .c (.s 14 g9 0 0 0)), (38, .c (.s 15 g15 0 1 1))] [⟨12, g7, 3, [.v (.int .i64 0), .v (.int .i64 0)]⟩, ⟨14, g9, 3, []⟩, ⟨15, g15, 3, [.v (.int .i64 (6 + kk))]⟩]) (sem Try.prog (.inv J k') (.any hbOps (bb gg gd dc) [] 5 (lst [0, 1, 3, 4, 5, 7, 9, 10, 11, 12, 13, 14, 15]) .last)) := by
  refine any_step (i := 2) (p := .last) (r := (.alt 6 .last (.alt 8 .last .last))) hk' (by kernel_rfl) (by kernel_rfl) (bb_mem _) (fun _ h => (by cases h)) ?_
  refine alts_step' (p := .last) 10 0 hk' (by kernel_rfl) (by kernel_rfl) (bb_mem _) (fun _ h => (by cases h)) ?_ ?_
  · simp only [go_sem, simprocAttr, hbOps, hbO, st, bb, List.cons_append, List.nil_append]
    intro g2
    exact any_sub' (hb_013567 hk' hn hkk h0 h9 hJ g2 g7 g9 g15) (by kernel_rfl) (by simp only [go_sem, simprocAttr, st, List.cons_append, List.nil_append]; simp)
  refine alts_step' (p := .last) 11 0 hk' (by kernel_rfl) (by kernel_rfl) (bb_mem _) (fun _ h => (by cases h)) ?_ ?_
  · simp only [go_sem, simprocAttr, hbOps, hbO, st, bb, List.cons_append, List.nil_append]
    intro g6
    exact any_sub' (hb_123567 hk' hn hkk h0 h9 hJ g6 g7 g9 g15) (by kernel_rfl) (by simp only [go_sem, simprocAttr, st, List.cons_append, List.nil_append]; simp)
  refine alts_step' (p := .last) 13 0 hk' (by kernel_rfl) (by kernel_rfl) (bb_mem _) (fun _ h => (by cases h)) ?_ ?_
  · simp only [go_sem, simprocAttr, hbOps, hbO, st, bb, List.cons_append, List.nil_append]
    intro g8
    exact any_sub' (hb_134567 hk' hn hkk h0 h9 hJ g7 g8 g9 g15) (by kernel_rfl) (by simp only [go_sem, simprocAttr, st, List.cons_append, List.nil_append]; simp)
  exact alts_last
theorem hb_1356 (g7 : Nat) (g9 : Nat) : Ok ⟨w, Non, Non, 94⟩ (st wh n gg gd dc w G2 [(28, .c (.v (.int .i64 (-1 - kk)))), (30, .c (.s 12 g7 0 2 2)), (32, .c (.s 14 g9 0 0 0)), (37, .c (.v (.int .i64 (6 + kk))))] [⟨12, g7, 3, [.v (.int .i64 0), .v (.int .i64 0)]⟩, ⟨14, g9, 3, []⟩]) (sem Try.prog (.inv J k') (.any hbOps (bb gg gd dc) [] 6 (lst [0, 1, 3, 4, 5, 7, 9, 10, 11, 12, 13, 14]) .last)) := by
  refine any_step (i := 2) (p := .last) (r := (.alt 6 .last (.alt 8 .last (.alt 15 .last .last)))) hk' (by kernel_rfl) (by kernel_rfl) (bb_mem _) (fun _ h => (by cases h)) ?_
  refine alts_step' (p := .last) 10 0 hk' (by kernel_rfl) (by kernel_rfl) (bb_mem _) (fun _ h => (by cases h)) ?_ ?_
  · simp only [go_sem, simprocAttr, hbOps, hbO, st, bb, List.cons_append, List.nil_append]
    intro g2
    exact any_sub' (hb_01356 hk' hn hkk h0 h9 hJ g2 g7 g9) (by kernel_rfl) (by simp only [go_sem, simprocAttr, st, List.cons_append, List.nil_append]; simp)
  refine alts_step' (p := .last) 11 0 hk' (by kernel_rfl) (by kernel_rfl) (bb_mem _) (fun _ h => (by cases h)) ?_ ?_
  · simp only [go_sem, simprocAttr, hbOps, hbO, st, bb, List.cons_append, List.nil_append]
    intro g6
    exact any_sub' (hb_12356 hk' hn hkk h0 h9 hJ g6 g7 g9) (by kernel_rfl) (by simp only [go_sem, simprocAttr, st, List.cons_append, List.nil_append]; simp)
  refine alts_step' (p := .last) 13 0 hk' (by kernel_rfl) (by kernel_rfl) (bb_mem _) (fun _ h => (by cases h)) ?_ ?_
  · simp only [go_sem, simprocAttr, hbOps, hbO, st, bb, List.cons_append, List.nil_append]
    intro g8
    exact any_sub' (hb_13456 hk' hn hkk h0 h9 hJ g7 g8 g9) (by kernel_rfl) (by simp only [go_sem, simprocAttr, st, List.cons_append, List.nil_append]; simp)
  refine alts_step' (p := .last) 15 0 hk' (by kernel_rfl) (by kernel_rfl) (bb_mem _) (fun _ h => (by cases h)) ?_ ?_
  · simp only [go_sem, simprocAttr, hbOps, hbO, st, bb, List.cons_append, List.nil_append]
    intro g15
    exact any_sub' (hb_13567 hk' hn hkk h0 h9 hJ g7 g9 g15) (by kernel_rfl) (by simp only [go_sem, simprocAttr, st, List.cons_append, List.nil_append]; simp)
  exact alts_last
theorem hb_135 (g7 : Nat) (g9 : Nat) : Ok ⟨w, Non, Non, 94⟩ (st wh n gg gd dc w G2 [(28, .c (.v (.int .i64 (-1 - kk)))), (30, .c (.s 12 g7 0 2 2)), (32, .c (.s 14 g9 0 0 0))] [⟨12, g7, 3, [.v (.int .i64 0), .v (.int .i64 0)]⟩, ⟨14, g9, 3, []⟩]) (sem Try.prog (.inv J k') (.any hbOps (bb gg gd dc) [] 8 (lst [0, 1, 3, 4, 5, 7, 9, 10, 11, 12]) .last)) := by
  refine any_step (i := 2) (p := .last) (r := (.alt 6 .last (.alt 8 .last (.alt 13 .last .last)))) hk' (by kernel_rfl) (by kernel_rfl) (bb_mem _) (fun _ h => (by cases h)) ?_
  refine alts_step' (p := .last) 10 0 hk' (by kernel_rfl) (by kernel_rfl) (bb_mem _) (fun _ h => (by cases h)) ?_ ?_
  · simp only [go_sem, simprocAttr, hbOps, hbO, st, bb, List.cons_append, List.nil_append]
    intro g2
    exact any_sub' (hb_0135 hk' hn hkk h0 h9 hJ g2 g7 g9) (by kernel_rfl) (by simp only [go_sem, simprocAttr, st, List.cons_append, List.nil_append]; simp)
  refine alts_step' (p := .last) 11 0 hk' (by kernel_rfl) (by kernel_rfl) (bb_mem _) (fun _ h => (by cases h)) ?_ ?_
  · simp only [go_sem, simprocAttr, hbOps, hbO, st, bb, List.cons_append, List.nil_append]
    intro g6
    exact any_sub' (hb_1235 hk' hn hkk h0 h9 hJ g6 g7 g9) (by kernel_rfl) (by simp only [go_sem, simprocAttr, st, List.cons_append, List.nil_append]; simp)
  refine alts_step' (p := .last) 13 0 hk' (by kernel_rfl) (by kernel_rfl) (bb_mem _) (fun _ h => (by cases h)) ?_ ?_
  · simp only [go_sem, simprocAttr, hbOps, hbO, st, bb, List.cons_append, List.nil_append]
    intro g8
    exact any_sub' (hb_1345 hk' hn hkk h0 h9 hJ g7 g8 g9) (by kernel_rfl) (by simp only [go_sem, simprocAttr, st, List.cons_append, List.nil_append]; simp)
  refine alts_step' (p := (.take 14 .last)) 9 1 hk' (by kernel_rfl) (by kernel_rfl) (bb_mem _) (fun _ h => (by cases h)) ?_ ?_
  · simp only [go_sem, simprocAttr, hbOps, hbO, st, bb, List.cons_append, List.nil_append]
    refine any_ok2 (N := 1) (call_does (fun v _ => v = .int .i64 kk) rfl rfl (by kernel_rfl) rfl (by simp only [dOk_some, dOk_none, Nat.reduceLT]) (fun G hG => pick9 hn hkk G)) hk' rfl (by first | exact .inl rfl | exact .inr ⟨_, _, rfl, rfl⟩) (by intro _ hK; obtain ⟨_, _, _, _, rfl⟩ := hK; exact ⟨rfl, fun _ h => h⟩) ?_
    rintro _ ⟨_, G7, rfl, hn7, rfl⟩
    clear hn7
    simp only [go_sem, simprocAttr, decide_true, decide_false, Bool.not_true, Bool.not_false, cond_true, cond_false, beq_self_eq_true, and_self, ne_eq, not_true_eq_false, not_false_eq_true, reduceCtorEq, Bool.true_beq, Bool.false_beq]
    refine ⟨by omega, ?_⟩
    exact any_sub' (hb_1356 hk' hn hkk h0 h9 hJ g7 g9) (by kernel_rfl) (by simp only [go_sem, simprocAttr, st, List.cons_append, List.nil_append]; simp)
  exact alts_last
theorem hb_1367 (g7 : Nat) (g15 : Nat) : Ok ⟨w, Non, Non, 94⟩ (st wh n gg gd dc w G2 [(28, .c (.v (.int .i64 (-1 - kk)))), (30, .c (.s 12 g7 0 2 2)), (38, .c (.s 15 g15 0 1 1))] [⟨12, g7, 3, [.v (.int .i64 0), .v (.int .i64 0)]⟩, ⟨15, g15, 3, [.v (.int .i64 (6 + kk))]⟩]) (sem Try.prog (.inv J k') (.any hbOps (bb gg gd dc) [] 6 (lst [0, 1, 3, 4, 5, 7, 10, 11, 12, 13, 14, 15]) .last)) := by
  refine any_step (i := 2) (p := .last) (r := (.alt 6 .last (.alt 8 .last (.alt 9 .last .last)))) hk' (by kernel_rfl) (by kernel_rfl) (bb_mem _) (fun _ h => (by cases h)) ?_
  refine alts_step' (p := .last) 10 0 hk' (by kernel_rfl) (by kernel_rfl) (bb_mem _) (fun _ h => (by cases h)) ?_ ?_
  · simp only [go_sem, simprocAttr, hbOps, hbO, st, bb, List.cons_append, List.nil_append]
    intro g2
    exact any_sub' (hb_01367 hk' hn hkk h0 h9 hJ g2 g7 g15) (by kernel_rfl) (by simp only [go_sem, simprocAttr, st, List.cons_append, List.nil_append]; simp)
  refine alts_step' (p := .last) 11 0 hk' (by kernel_rfl) (by kernel_rfl) (bb_mem _) (fun _ h => (by cases h)) ?_ ?_
  · simp only [go_sem, simprocAttr, hbOps, hbO, st, bb, List.cons_append, List.nil_append]
    intro g6
    exact any_sub' (hb_12367 hk' hn hkk h0 h9 hJ g6 g7 g15) (by kernel_rfl) (by simp only [go_sem, simprocAttr, st, List.cons_append, List.nil_append]; simp)
  refine alts_step' (p := .last) 13 0 hk' (by kernel_rfl) (by kernel_rfl) (bb_mem _) (fun _ h => (by cases h)) ?_ ?_
  · simp only [go_sem, simprocAttr, hbOps, hbO, st, bb, List.cons_append, List.nil_append]
    intro g8
    exact any_sub' (hb_13467 hk' hn hkk h0 h9 hJ g7 g8 g15) (by kernel_rfl) (by simp only [go_sem, simprocAttr, st, List.cons_append, List.nil_append]; simp)
  refine alts_step' (p := .last) 14 0 hk' (by kernel_rfl) (by kernel_rfl) (bb_mem _) (fun _ h => (by cases h)) ?_ ?_
  · simp only [go_sem, simprocAttr, hbOps, hbO, st, bb, List.cons_append, List.nil_append]
    intro g9
    exact any_sub' (hb_13567 hk' hn hkk h0 h9 hJ g7 g9 g15) (by kernel_rfl) (by simp only [go_sem, simprocAttr, st, List.cons_append, List.nil_append]; simp)
  exact alts_last
theorem hb_136 (g7 : Nat) : Ok ⟨w, Non, Non, 94⟩ (st wh n gg gd dc w G2 [(28, .c (.v (.int .i64 (-1 - kk)))), (30, .c (.s 12 g7 0 2 2)), (37, .c (.v (.int .i64 (6 + kk))))] [⟨12, g7, 3, [.v (.int .i64 0), .v (.int .i64 0)]⟩]) (sem Try.prog (.inv J k') (.any hbOps (bb gg gd dc) [] 7 (lst [0, 1, 3, 4, 5, 7, 10, 11, 12, 13, 14]) .last)) := by
  refine any_step (i := 2) (p := .last) (r := (.alt 6 .last (.alt 8 .last (.alt 9 .last (.alt 15 .last .last))))) hk' (by kernel_rfl) (by kernel_rfl) (bb_mem _) (fun _ h => (by cases h)) ?_
  refine alts_step' (p := .last) 10 0 hk' (by kernel_rfl) (by kernel_rfl) (bb_mem _) (fun _ h => (by cases h)) ?_ ?_
  · simp only [go_sem, simprocAttr, hbOps, hbO, st, bb, List.cons_append, List.nil_append]
    intro g2
    exact any_sub' (hb_0136 hk' hn hkk h0 h9 hJ g2 g7) (by kernel_rfl) (by simp only [go_sem, simprocAttr, st, List.cons_append, List.nil_append]; simp)
  refine alts_step' (p := .last) 11 0 hk' (by kernel_rfl) (by kernel_rfl) (bb_mem _) (fun _ h => (by cases h)) ?_ ?_
  · simp only [go_sem, simprocAttr, hbOps, hbO, st, bb, List.cons_append, List.nil_append]
    intro g6
    exact any_sub' (hb_1236 hk' hn hkk h0 h9 hJ g6 g7) (by kernel_rfl) (by simp only [go_sem, simprocAttr, st, List.cons_append, List.nil_append]; simp)
  refine alts_step' (p := .last) 13 0 hk' (by kernel_rfl) (by kernel_rfl) (bb_mem _) (fun _ h => (by cases h)) ?_ ?_
  · simp only [go_sem, simprocAttr, hbOps, hbO, st, bb, List.cons_append, List.nil_append]
    intro g8
    exact any_sub' (hb_1346 hk' hn hkk h0 h9 hJ g7 g8) (by kernel_rfl) (by simp only [go_sem, simprocAttr, st, List.cons_append, List.nil_append]; simp)
  refine alts_step' (p := .last) 14 0 hk' (by kernel_rfl) (by kernel_rfl) (bb_mem _) (fun _ h => (by cases h)) ?_ ?_
  · simp only [go_sem, simprocAttr, hbOps, hbO, st, bb, List.cons_append, List.nil_append]
    intro g9
    exact any_sub' (hb_1356 hk' hn hkk h0 h9 hJ g7 g9) (by kernel_rfl) (by simp only [go_sem, simprocAttr, st, List.cons_append, List.nil_append]; simp)
  refine alts_step' (p := .last) 15 0 hk' (by kernel_rfl) (by kernel_rfl) (bb_mem _) (fun _ h => (by cases h)) ?_ ?_
  · simp only [go_sem, simprocAttr, hbOps, hbO, st, bb, List.cons_append, List.nil_append]
    intro g15
    exact any_sub' (hb_1367 hk' hn hkk h0 h9 hJ g7 g15) (by kernel_rfl) (by simp only [go_sem, simprocAttr, st, List.cons_append, List.nil_append]; simp)
  exact alts_last
theorem hb_13 (g7 : Nat) : Ok ⟨w, Non, Non, 94⟩ (st wh n gg gd dc w G2 [(28, .c (.v (.int .i64 (-1 - kk)))), (30, .c (.s 12 g7 0 2 2))] [⟨12, g7, 3, [.v (.int .i64 0), .v (.int .i64 0)]⟩]) (sem Try.prog (.inv J k') (.any hbOps (bb gg gd dc) [] 9 (lst [0, 1, 3, 4, 5, 7, 10, 11, 12]) .last)) := by
  refine any_step (i := 2) (p := .last) (r := (.alt 6 .last (.alt 8 .last (.alt 9 .last (.alt 13 .last .last))))) hk' (by kernel_rfl) (by kernel_rfl) (bb_mem _) (fun _ h => (by cases h)) ?_
  refine alts_step' (p := .last) 10 0 hk' (by kernel_rfl) (by kernel_rfl) (bb_mem _) (fun _ h => (by cases h)) ?_ ?_
  · simp only [go_sem, simprocAttr, hbOps, hbO, st, bb, List.cons_append, List.nil_append]
    intro g2
    exact any_sub' (hb_013 hk' hn hkk h0 h9 hJ g2 g7) (by kernel_rfl) (by simp only [go_sem, simprocAttr, st, List.cons_append, List.nil_append]; simp)
  refine alts_step' (p := .last) 11 0 hk' (by kernel_rfl) (by kernel_rfl) (bb_mem _) (fun _ h => (by cases h)) ?_ ?_
  · simp only [go_sem, simprocAttr, hbOps, hbO, st, bb, List.cons_append, List.nil_append]
    intro g6
    exact any_sub' (hb_123 hk' hn hkk h0 h9 hJ g6 g7) (by kernel_rfl) (by simp only [go_sem, simprocAttr, st, List.cons_append, List.nil_append]; simp)
  refine alts_step' (p := .last) 13 0 hk' (by kernel_rfl) (by kernel_rfl) (bb_mem _) (fun _ h => (by cases h)) ?_ ?_
  · simp only [go_sem, simprocAttr, hbOps, hbO, st, bb, List.cons_append, List.nil_append]
    intro g8
    exact any_sub' (hb_134 hk' hn hkk h0 h9 hJ g7 g8) (by kernel_rfl) (by simp only [go_sem, simprocAttr, st, List.cons_append, List.nil_append]; simp)
  refine alts_step' (p := .last) 14 0 hk' (by kernel_rfl) (by kernel_rfl) (bb_mem _) (fun _ h => (by cases h)) ?_ ?_
  · simp only [go_sem, simprocAttr, hbOps, hbO, st, bb, List.cons_append, List.nil_append]
    intro g9
    exact any_sub' (hb_135 hk' hn hkk h0 h9 hJ g7 g9) (by kernel_rfl) (by simp only [go_sem, simprocAttr, st, List.cons_append, List.nil_append]; simp)
  refine alts_step' (p := (.take 14 .last)) 9 1 hk' (by kernel_rfl) (by kernel_rfl) (bb_mem _) (fun _ h => (by cases h)) ?_ ?_
  · simp only [go_sem, simprocAttr, hbOps, hbO, st, bb, List.cons_append, List.nil_append]
    refine any_ok2 (N := 1) (call_does (fun v _ => v = .int .i64 kk) rfl rfl (by kernel_rfl) rfl (by simp only [dOk_some, dOk_none, Nat.reduceLT]) (fun G hG => pick9 hn hkk G)) hk' rfl (by first | exact .inl rfl | exact .inr ⟨_, _, rfl, rfl⟩) (by intro _ hK; obtain ⟨_, _, _, _, rfl⟩ := hK; exact ⟨rfl, fun _ h => h⟩) ?_
    rintro _ ⟨_, G7, rfl, hn7, rfl⟩
    clear hn7
    simp only [go_sem, simprocAttr, decide_true, decide_false, Bool.not_true, Bool.not_false, cond_true, cond_false, beq_self_eq_true, and_self, ne_eq, not_true_eq_false, not_false_eq_true, reduceCtorEq, Bool.true_beq, Bool.false_beq]
    refine ⟨by omega, ?_⟩
    exact any_sub' (hb_136 hk' hn hkk h0 h9 hJ g7) (by kernel_rfl) (by simp only [go_sem, simprocAttr, st, List.cons_append, List.nil_append]; simp)
  exact alts_last
theorem hb_14567 (g8 : Nat) (g9 : Nat) (g15 : Nat) : Ok ⟨w, Non, Non, 94⟩ (st wh n gg gd dc w G2 [(28, .c (.v (.int .i64 (-1 - kk)))), (31, .c (.s 13 g8 0 2 2)), (32, .c (.s 14 g9 0 0 0)), (38, .c (.s 15 g15 0 1 1))] [⟨13, g8, 3, [.v (.int .i64 1), .v (.int .i64 2)]⟩, ⟨14, g9, 3, []⟩, ⟨15, g15, 3, [.v (.int .i64 (6 + kk))]⟩]) (sem Try.prog (.inv J k') (.any hbOps (bb gg gd dc) [] 5 (lst [0, 1, 3, 4, 5, 8, 9, 10, 11, 12, 13, 14, 15]) .last)) := by
  refine any_step (i := 2) (p := .last) (r := (.alt 6 .last (.alt 7 .last .last))) hk' (by kernel_rfl) (by kernel_rfl) (bb_mem _) (fun _ h => (by cases h)) ?_
  refine alts_step' (p := .last) 10 0 hk' (by kernel_rfl) (by kernel_rfl) (bb_mem _) (fun _ h => (by cases h)) ?_ ?_
  · simp only [go_sem, simprocAttr, hbOps, hbO, st, bb, List.cons_append, List.nil_append]
    intro g2
    exact any_sub' (hb_014567 hk' hn hkk h0 h9 hJ g2 g8 g9 g15) (by kernel_rfl) (by simp only [go_sem, simprocAttr, st, List.cons_append, List.nil_append]; simp)
  refine alts_step' (p := .last) 11 0 hk' (by kernel_rfl) (by kernel_rfl) (bb_mem _) (fun _ h => (by cases h)) ?_ ?_
  · simp only [go_sem, simprocAttr, hbOps, hbO, st, bb, List.cons_append, List.nil_append]
    intro g6
    exact any_sub' (hb_124567 hk' hn hkk h0 h9 hJ g6 g8 g9 g15) (by kernel_rfl) (by simp only [go_sem, simprocAttr, st, List.cons_append, List.nil_append]; simp)
  refine alts_step' (p := .last) 12 0 hk' (by kernel_rfl) (by kernel_rfl) (bb_mem _) (fun _ h => (by cases h)) ?_ ?_
  · simp only [go_sem, simprocAttr, hbOps, hbO, st, bb, List.cons_append, List.nil_append]
    intro g7
    exact any_sub' (hb_134567 hk' hn hkk h0 h9 hJ g7 g8 g9 g15) (by kernel_rfl) (by simp only [go_sem, simprocAttr, st, List.cons_append, List.nil_append]; simp)
  exact alts_last
theorem hb_1456 (g8 : Nat) (g9 : Nat) : Ok ⟨w, Non, Non, 94⟩ (st wh n gg gd dc w G2 [(28, .c (.v (.int .i64 (-1 - kk)))), (31, .c (.s 13 g8 0 2 2)), (32, .c (.s 14 g9 0 0 0)), (37, .c (.v (.int .i64 (6 + kk))))] [⟨13, g8, 3, [.v (.int .i64 1), .v (.int .i64 2)]⟩, ⟨14, g9, 3, []⟩]) (sem Try.prog (.inv J k') (.any hbOps (bb gg gd dc) [] 6 (lst [0, 1, 3, 4, 5, 8, 9, 10, 11, 12, 13, 14]) .last)) := by
  refine any_step (i := 2) (p := .last) (r := (.alt 6 .last (.alt 7 .last (.alt 15 .last .last)))) hk' (by kernel_rfl) (by kernel_rfl) (bb_mem _) (fun _ h => (by cases h)) ?_
  refine alts_step' (p := .last) 10 0 hk' (by kernel_rfl) (by kernel_rfl) (bb_mem _) (fun _ h => (by cases h)) ?_ ?_
  · simp only [go_sem, simprocAttr, hbOps, hbO, st, bb, List.cons_append, List.nil_append]
    intro g2
    exact any_sub' (hb_01456 hk' hn hkk h0 h9 hJ g2 g8 g9) (by kernel_rfl) (by simp only [go_sem, simprocAttr, st, List.cons_append, List.nil_append]; simp)
  refine alts_step' (p := .last) 11 0 hk' (by kernel_rfl) (by kernel_rfl) (bb_mem _) (fun _ h => (by cases h)) ?_ ?_
  · simp only [go_sem, simprocAttr, hbOps, hbO, st, bb, List.cons_append, List.nil_append]
    intro g6
    exact any_sub' (hb_12456 hk' hn hkk h0 h9 hJ g6 g8 g9) (by kernel_rfl) (by simp only [go_sem, simprocAttr, st, List.cons_append, List.nil_append]; simp)
  refine alts_step' (p := .last) 12 0 hk' (by kernel_rfl) (by kernel_rfl) (bb_mem _) (fun _ h => (by cases h)) ?_ ?_
  · simp only [go_sem, simprocAttr, hbOps, hbO, st, bb, List.cons_append, List.nil_append]
    intro g7
    exact any_sub' (hb_13456 hk' hn hkk h0 h9 hJ g7 g8 g9) (by kernel_rfl) (by simp only [go_sem, simprocAttr, st, List.cons_append, List.nil_append]; simp)
  refine alts_step' (p := .last) 15 0 hk' (by kernel_rfl) (by kernel_rfl) (bb_mem _) (fun _ h => (by cases h)) ?_ ?_
  · simp only [go_sem, simprocAttr, hbOps, hbO, st, bb, List.cons_append, List.nil_append]
    intro g15
    exact any_sub' (hb_14567 hk' hn hkk h0 h9 hJ g8 g9 g15) (by kernel_rfl) (by simp only [go_sem, simprocAttr, st, List.cons_append, List.nil_append]; simp)
  exact alts_last
theorem hb_145 (g8 : Nat) (g9 : Nat) : Ok ⟨w, Non, Non, 94⟩ (st wh n gg gd dc w G2 [(28, .c (.v (.int .i64 (-1 - kk)))), (31, .c (.s 13 g8 0 2 2)), (32, .c (.s 14 g9 0 0 0))] [⟨13, g8, 3, [.v (.int .i64 1), .v (.int .i64 2)]⟩, ⟨14, g9, 3, []⟩]) (sem Try.prog (.inv J k') (.any hbOps (bb gg gd dc) [] 8 (lst [0, 1, 3, 4, 5, 8, 9, 10, 11, 12]) .last)) := by
  refine any_step (i := 2) (p := .last) (r := (.alt 6 .last (.alt 7 .last (.alt 13 .last .last)))) hk' (by kernel_rfl) (by kernel_rfl) (bb_mem _) (fun _ h => (by cases h)) ?_
  refine alts_step' (p := .last) 10 0 hk' (by kernel_rfl) (by kernel_rfl) (bb_mem _) (fun _ h => (by cases h)) ?_ ?_
  · simp only [go_sem, simprocAttr, hbOps, hbO, st, bb, List.cons_append, List.nil_append]
    intro g2
    exact any_sub' (hb_0145 hk' hn hkk h0 h9 hJ g2 g8 g9) (by kernel_rfl) (by simp only [go_sem, simprocAttr, st, List.cons_append, List.nil_append]; simp)
  refine alts_step' (p := .last) 11 0 hk' (by kernel_rfl) (by kernel_rfl) (bb_mem _) (fun _ h => (by cases h)) ?_ ?_
  · simp only [go_sem, simprocAttr, hbOps, hbO, st, bb, List.cons_append, List.nil_append]
    intro g6
    exact any_sub' (hb_1245 hk' hn hkk h0 h9 hJ g6 g8 g9) (by kernel_rfl) (by simp only [go_sem, simprocAttr, st, List.cons_append, List.nil_append]; simp)
  refine alts_step' (p := .last) 12 0 hk' (by kernel_rfl) (by kernel_rfl) (bb_mem _) (fun _ h => (by cases h)) ?_ ?_
  · simp only [go_sem, simprocAttr, hbOps, hbO, st, bb, List.cons_append, List.nil_append]
    intro g7
    exact any_sub' (hb_1345 hk' hn hkk h0 h9 hJ g7 g8 g9) (by kernel_rfl) (by simp only [go_sem, simprocAttr, st, List.cons_append, List.nil_append]; simp)
  refine alts_step' (p := (.take 14 .last)) 9 1 hk' (by kernel_rfl) (by kernel_rfl) (bb_mem _) (fun _ h => (by cases h)) ?_ ?_
  · simp only [go_sem, simprocAttr, hbOps, hbO, st, bb, List.cons_append, List.nil_append]
    refine any_ok2 (N := 1) (call_does (fun v _ => v = .int .i64 kk) rfl rfl (by kernel_rfl) rfl (by simp only [dOk_some, dOk_none, Nat.reduceLT]) (fun G hG => pick9 hn hkk G)) hk' rfl (by first | exact .inl rfl | exact .inr ⟨_, _, rfl, rfl⟩) (by intro _ hK; obtain ⟨_, _, _, _, rfl⟩ := hK; exact ⟨rfl, fun _ h => h⟩) ?_
    rintro _ ⟨_, G7, rfl, hn7, rfl⟩
    clear hn7
    simp only [go_sem, simprocAttr, decide_true, decide_false, Bool.not_true, Bool.not_false, cond_true, cond_false, beq_self_eq_true, and_self, ne_eq, not_true_eq_false, not_false_eq_true, reduceCtorEq, Bool.true_beq, Bool.false_beq]
    refine ⟨by omega, ?_⟩
    exact any_sub' (hb_1456 hk' hn hkk h0 h9 hJ g8 g9) (by kernel_rfl) (by simp only [go_sem, simprocAttr, st, List.cons_append, List.nil_append]; simp)
  exact alts_last
theorem hb_1467 (g8 : Nat) (g15 : Nat) : Ok ⟨w, Non, Non, 94⟩ (st wh n gg gd dc w G2 [(28, .c (.v (.int .i64 (-1 - kk)))), (31, .c (.s 13 g8 0 2 2)), (38, .c (.s 15 g15 0 1 1))] [⟨13, g8, 3, [.v (.int .i64 1), .v (.int .i64 2)]⟩, ⟨15, g15, 3, [.v (.int .i64 (6 + kk))]⟩]) (sem Try.prog (.inv J k') (.any hbOps (bb gg gd dc) [] 6 (lst [0, 1, 3, 4, 5, 8, 10, 11, 12, 13, 14, 15]) .last)) := by
  refine any_step (i := 2) (p := .last) (r := (.alt 6 .last (.alt 7 .last (.alt 9 .last .last)))) hk' (by kernel_rfl) (by kernel_rfl) (bb_mem _) (fun _ h => (by cases h)) ?_
  refine alts_step' (p := .last) 10 0 hk' (by kernel_rfl) (by kernel_rfl) (bb_mem _) (fun _ h => (by cases h)) ?_ ?_
  · simp only [go_sem, simprocAttr, hbOps, hbO, st, bb, List.cons_append, List.nil_append]
    intro g2
    exact any_sub' (hb_01467 hk' hn hkk h0 h9 hJ g2 g8 g15) (by kernel_rfl) (by simp only [go_sem, simprocAttr, st, List.cons_append, List.nil_append]; simp)
  refine alts_step' (p := .last) 11 0 hk' (by kernel_rfl) (by kernel_rfl) (bb_mem _) (fun _ h => (by cases h)) ?_ ?_
  · simp only [go_sem, simprocAttr, hbOps, hbO, st, bb, List.cons_append, List.nil_append]
    intro g6
    exact any_sub' (hb_12467 hk' hn hkk h0 h9 hJ g6 g8 g15) (by kernel_rfl) (by simp only [go_sem, simprocAttr, st, List.cons_append, List.nil_append]; simp)
  refine alts_step' (p := .last) 12 0 hk' (by kernel_rfl) (by kernel_rfl) (bb_mem _) (fun _ h => (by cases h)) ?_ ?_
  · simp only [go_sem, simprocAttr, hbOps, hbO, st, bb, List.cons_append, List.nil_append]
    intro g7
    exact any_sub' (hb_13467 hk' hn hkk h0 h9 hJ g7 g8 g15) (by kernel_rfl) (by simp only [go_sem, simprocAttr, st, List.cons_append, List.nil_append]; simp)
  refine alts_step' (p := .last) 14 0 hk' (by kernel_rfl) (by kernel_rfl) (bb_mem _) (fun _ h => (by cases h)) ?_ ?_
  · simp only [go_sem, simprocAttr, hbOps, hbO, st, bb, List.cons_append, List.nil_append]
    intro g9
    exact any_sub' (hb_14567 hk' hn hkk h0 h9 hJ g8 g9 g15) (by kernel_rfl) (by simp only [go_sem, simprocAttr, st, List.cons_append, List.nil_append]; simp)
  exact alts_last
theorem hb_146 (g8 : Nat) : Ok ⟨w, Non, Non, 94⟩ (st wh n gg gd dc w G2 [(28, .c (.v (.int .i64 (-1 - kk)))), (31, .c (.s 13 g8 0 2 2)), (37, .c (.v (.int .i64 (6 + kk))))] [⟨13, g8, 3, [.v (.int .i64 1), .v (.int .i64 2)]⟩]) (sem Try.prog (.inv J k') (.any hbOps (bb gg gd dc) [] 7 (lst [0, 1, 3, 4, 5, 8, 10, 11, 12, 13, 14]) .last)) := by
  refine any_step (i := 2) (p := .last) (r := (.alt 6 .last (.alt 7 .last (.alt 9 .last (.alt 15 .last .last))))) hk' (by kernel_rfl) (by kernel_rfl) (bb_mem _) (fun _ h => (by cases h)) ?_
  refine alts_step' (p := .last) 10 0 hk' (by kernel_rfl) (by kernel_rfl) (bb_mem _) (fun _ h => (by cases h)) ?_ ?_
  · simp only [go_sem, simprocAttr, hbOps, hbO, st, bb, List.cons_append, List.nil_append]
    intro g2
    exact any_sub' (hb_0146 hk' hn hkk h0 h9 hJ g2 g8) (by kernel_rfl) (by simp only [go_sem, simprocAttr, st, List.cons_append, List.nil_append]; simp)
  refine alts_step' (p := .last) 11 0 hk' (by kernel_rfl) (by kernel_rfl) (bb_mem _) (fun _ h => (by cases h)) ?_ ?_
  · simp only [go_sem, simprocAttr, hbOps, hbO, st, bb, List.cons_append, List.nil_append]
    intro g6
    exact any_sub' (hb_1246 hk' hn hkk h0 h9 hJ g6 g8) (by kernel_rfl) (by simp only [go_sem, simprocAttr, st, List.cons_append, List.nil_append]; simp)
  refine alts_step' (p := .last) 12 0 hk' (by kernel_rfl) (by kernel_rfl) (bb_mem _) (fun _ h => (by cases h)) ?_ ?_
  · simp only [go_sem, simprocAttr, hbOps, hbO, st, bb, List.cons_append, List.nil_append]
    intro g7
    exact any_sub' (hb_1346 hk' hn hkk h0 h9 hJ g7 g8) (by kernel_rfl) (by simp only [go_sem, simprocAttr, st, List.cons_append, List.nil_append]; simp)
  refine alts_step' (p := .last) 14 0 hk' (by kernel_rfl) (by kernel_rfl) (bb_mem _) (fun _ h => (by cases h)) ?_ ?_
  · simp only [go_sem, simprocAttr, hbOps, hbO, st, bb, List.cons_append, List.nil_append]
    intro g9
    exact any_sub' (hb_1456 hk' hn hkk h0 h9 hJ g8 g9) (by kernel_rfl) (by simp only [go_sem, simprocAttr, st, List.cons_append, List.nil_append]; simp)
  refine alts_step' (p := .last) 15 0 hk' (by kernel_rfl) (by kernel_rfl) (bb_mem _) (fun _ h => (by cases h)) ?_ ?_
  · simp only [go_sem, simprocAttr, hbOps, hbO, st, bb, List.cons_append, List.nil_append]
    intro g15
    exact any_sub' (hb_1467 hk' hn hkk h0 h9 hJ g8 g15) (by kernel_rfl) (by simp only [go_sem, simprocAttr, st, List.cons_append, List.nil_append]; simp)
  exact alts_last
theorem hb_14 (g8 : Nat) : Ok ⟨w, Non, Non, 94⟩ (st wh n gg gd dc w G2 [(28, .c (.v (.int .i64 (-1 - kk)))), (31, .c (.s 13 g8 0 2 2))] [⟨13, g8, 3, [.v (.int .i64 1), .v (.int .i64 2)]⟩]) (sem Try.prog (.inv J k') (.any hbOps (bb gg gd dc) [] 9 (lst [0, 1, 3, 4, 5, 8, 10, 11, 12]) .last)) := by
  refine any_step (i := 2) (p := .last) (r := (.alt 6 .last (.alt 7 .last (.alt 9 .last (.alt 13 .last .last))))) hk' (by kernel_rfl) (by kernel_rfl) (bb_mem _) (fun _ h => (by cases h)) ?_
  refine alts_step' (p := .last) 10 0 hk' (by kernel_rfl) (by kernel_rfl) (bb_mem _) (fun _ h => (by cases h)) ?_ ?_
  · simp only [go_sem, simprocAttr, hbOps, hbO, st, bb, List.cons_append, List.nil_append]
    intro g2
    exact any_sub' (hb_014 hk' hn hkk h0 h9 hJ g2 g8) (by kernel_rfl) (by simp only [go_sem, simprocAttr, st, List.cons_append, List.nil_append]; simp)
  refine alts_step' (p := .last) 11 0 hk' (by kernel_rfl) (by kernel_rfl) (bb_mem _) (fun _ h => (by cases h)) ?_ ?_
  · simp only [go_sem, simprocAttr, hbOps, hbO, st, bb, List.cons_append, List.nil_append]
    intro g6
    exact any_sub' (hb_124 hk' hn hkk h0 h9 hJ g6 g8) (by kernel_rfl) (by simp only [go_sem, simprocAttr, st, List.cons_append, List.nil_append]; simp)
  refine alts_step' (p := .last) 12 0 hk' (by kernel_rfl) (by kernel_rfl) (bb_mem _) (fun _ h => (by cases h)) ?_ ?_
  · simp only [go_sem, simprocAttr, hbOps, hbO, st, bb, List.cons_append, List.nil_append]
    intro g7
    exact any_sub' (hb_134 hk' hn hkk h0 h9 hJ g7 g8) (by kernel_rfl) (by simp only [go_sem, simprocAttr, st, List.cons_append, List.nil_append]; simp)
  refine alts_step' (p := .last) 14 0 hk' (by kernel_rfl) (by kernel_rfl) (bb_mem _) (fun _ h => (by cases h)) ?_ ?_
  · simp only [go_sem, simprocAttr, hbOps, hbO, st, bb, List.cons_append, List.nil_append]
    intro g9
    exact any_sub' (hb_145 hk' hn hkk h0 h9 hJ g8 g9) (by kernel_rfl) (by simp only [go_sem, simprocAttr, st, List.cons_append, List.nil_append]; simp)
  refine alts_step' (p := (.take 14 .last)) 9 1 hk' (by kernel_rfl) (by kernel_rfl) (bb_mem _) (fun _ h => (by cases h)) ?_ ?_
  · simp only [go_sem, simprocAttr, hbOps, hbO, st, bb, List.cons_append, List.nil_append]
    refine any_ok2 (N := 1) (call_does (fun v _ => v = .int .i64 kk) rfl rfl (by kernel_rfl) rfl (by simp only [dOk_some, dOk_none, Nat.reduceLT]) (fun G hG => pick9 hn hkk G)) hk' rfl (by first | exact .inl rfl | exact .inr ⟨_, _, rfl, rfl⟩) (by intro _ hK; obtain ⟨_, _, _, _, rfl⟩ := hK; exact ⟨rfl, fun _ h => h⟩) ?_
    rintro _ ⟨_, G7, rfl, hn7, rfl⟩
    clear hn7
    simp only [go_sem, simprocAttr, decide_true, decide_false, Bool.not_true, Bool.not_false, cond_true, cond_false, beq_self_eq_true, and_self, ne_eq, not_true_eq_false, not_false_eq_true, reduceCtorEq, Bool.true_beq, Bool.false_beq]
    refine ⟨by omega, ?_⟩
    exact any_sub' (hb_146 hk' hn hkk h0 h9 hJ g8) (by kernel_rfl) (by simp only [go_sem, simprocAttr, st, List.cons_append, List.nil_append]; simp)
  exact alts_last
theorem hb_1567 (g9 : Nat) (g15 : Nat) : Ok ⟨w, Non, Non, 94⟩ (st wh n gg gd dc w G2 [(28, .c (.v (.int .i64 (-1 - kk)))), (32, .c (.s 14 g9 0 0 0)), (38, .c (.s 15 g15 0 1 1))] [⟨14, g9, 3, []⟩, ⟨15, g15, 3, [.v (.int .i64 (6 + kk))]⟩]) (sem Try.prog (.inv J k') (.any hbOps (bb gg gd dc) [] 6 (lst [0, 1, 3, 4, 5, 9, 10, 11, 12, 13, 14, 15]) .last)) := by
  refine any_step (i := 2) (p := .last) (r := (.alt 6 .last (.alt 7 .last (.alt 8 .last .last)))) hk' (by kernel_rfl) (by kernel_rfl) (bb_mem _) (fun _ h => (by cases h)) ?_
  refine alts_step' (p := .last) 10 0 hk' (by kernel_rfl) (by kernel_rfl) (bb_mem _) (fun _ h => (by cases h)) ?_ ?_
  · simp only [go_sem, simprocAttr, hbOps, hbO, st, bb, List.cons_append, List.nil_append]
    intro g2
    exact any_sub' (hb_01567 hk' hn hkk h0 h9 hJ g2 g9 g15) (by kernel_rfl) (by simp only [go_sem, simprocAttr, st, List.cons_append, List.nil_append]; simp)
  refine alts_step' (p := .last) 11 0 hk' (by kernel_rfl) (by kernel_rfl) (bb_mem _) (fun _ h => (by cases h)) ?_ ?_
  · simp only [go_sem, simprocAttr, hbOps, hbO, st, bb, List.cons_append, List.nil_append]
    intro g6
    exact any_sub' (hb_12567 hk' hn hkk h0 h9 hJ g6 g9 g15) (by kernel_rfl) (by simp only [go_sem, simprocAttr, st, List.cons_append, List.nil_append]; simp)
  refine alts_step' (p := .last) 12 0 hk' (by kernel_rfl) (by kernel_rfl) (bb_mem _) (fun _ h => (by cases h)) ?_ ?_
  · simp only [go_sem, simprocAttr, hbOps, hbO, st, bb, List.cons_append, List.nil_append]
    intro g7
    exact any_sub' (hb_13567 hk' hn hkk h0 h9 hJ g7 g9 g15) (by kernel_rfl) (by simp only [go_sem, simprocAttr, st, List.cons_append, List.nil_append]; simp)
  refine alts_step' (p := .last) 13 0 hk' (by kernel_rfl) (by kernel_rfl) (bb_mem _) (fun _ h => (by cases h)) ?_ ?_
  · simp only [go_sem, simprocAttr, hbOps, hbO, st, bb, List.cons_append, List.nil_append]
    intro g8
    exact any_sub' (hb_14567 hk' hn hkk h0 h9 hJ g8 g9 g15) (by kernel_rfl) (by simp only [go_sem, simprocAttr, st, List.cons_append, List.nil_append]; simp)
  exact alts_last
theorem hb_156 (g9 : Nat) : Ok ⟨w, Non, Non, 94⟩ (st wh n gg gd dc w G2 [(28, .c (.v (.int .i64 (-1 - kk)))), (32, .c (.s 14 g9 0 0 0)), (37, .c (.v (.int .i64 (6 + kk))))] [⟨14, g9, 3, []⟩]) (sem Try.prog (.inv J k') (.any hbOps (bb gg gd dc) [] 7 (lst [0, 1, 3, 4, 5, 9, 10, 11, 12, 13, 14]) .last)) := by
  refine any_step (i := 2) (p := .last) (r := (.alt 6 .last (.alt 7 .last (.alt 8 .last (.alt 15 .last .last))))) hk' (by kernel_rfl) (by kernel_rfl) (bb_mem _) (fun _ h => (by cases h)) ?_
  refine alts_step' (p := .last) 10 0 hk' (by kernel_rfl) (by kernel_rfl) (bb_mem _) (fun _ h => (by cases h)) ?_ ?_
  · simp only [go_sem, simprocAttr, hbOps, hbO, st, bb, List.cons_append, List.nil_append]
    intro g2
    exact any_sub' (hb_0156 hk' hn hkk h0 h9 hJ g2 g9) (by kernel_rfl) (by simp only [go_sem, simprocAttr, st, List.cons_append, List.nil_append]; simp)
  refine alts_step' (p := .last) 11 0 hk' (by kernel_rfl) (by kernel_rfl) (bb_mem _) (fun _ h => (by cases h)) ?_ ?_
  · simp only [go_sem, simprocAttr, hbOps, hbO, st, bb, List.cons_append, List.nil_append]
    intro g6
    exact any_sub' (hb_1256 hk' hn hkk h0 h9 hJ g6 g9) (by kernel_rfl) (by simp only [go_sem, simprocAttr, st, List.cons_append, List.nil_append]; simp)
  refine alts_step' (p := .last) 12 0 hk' (by kernel_rfl) (by kernel_rfl) (bb_mem _) (fun _ h => (by cases h)) ?_ ?_
  · simp only [go_sem, simprocAttr, hbOps, hbO, st, bb, List.cons_append, List.nil_append]
    intro g7
    exact any_sub' (hb_1356 hk' hn hkk h0 h9 hJ g7 g9) (by kernel_rfl) (by simp only [go_sem, simprocAttr, st, List.cons_append, List.nil_append]; simp)
  refine alts_step' (p := .last) 13 0 hk' (by kernel_rfl) (by kernel_rfl) (bb_mem _) (fun _ h => (by cases h)) ?_ ?_
  · simp only [go_sem, simprocAttr, hbOps, hbO, st, bb, List.cons_append, List.nil_append]
    intro g8
    exact any_sub' (hb_1456 hk' hn hkk h0 h9 hJ g8 g9) (by kernel_rfl) (by simp only [go_sem, simprocAttr, st, List.cons_append, List.nil_append]; simp)
  refine alts_step' (p := .last) 15 0 hk' (by kernel_rfl) (by kernel_rfl) (bb_mem _) (fun _ h => (by cases h)) ?_ ?_
  · simp only [go_sem, simprocAttr, hbOps, hbO, st, bb, List.cons_append, List.nil_append]
    intro g15
    exact any_sub' (hb_1567 hk' hn hkk h0 h9 hJ g9 g15) (by kernel_rfl) (by simp only [go_sem, simprocAttr, st, List.cons_append, List.nil_append]; simp)
  exact alts_last
theorem hb_15 (g9 : Nat) : Ok ⟨w, Non, Non, 94⟩ (st wh n gg gd dc w G2 [(28, .c (.v (.int .i64 (-1 - kk)))), (32, .c (.s 14 g9 0 0 0))] [⟨14, g9, 3, []⟩]) (sem Try.prog (.inv J k') (.any hbOps (bb gg gd dc) [] 9 (lst [0, 1, 3, 4, 5, 9, 10, 11, 12]) .last)) := by
  refine any_step (i := 2) (p := .last) (r := (.alt 6 .last (.alt 7 .last (.alt 8 .last (.alt 13 .last .last))))) hk' (by kernel_rfl) (by kernel_rfl) (bb_mem _) (fun _ h => (by cases h)) ?_
  refine alts_step' (p := .last) 10 0 hk' (by kernel_rfl) (by kernel_rfl) (bb_mem _) (fun _ h => (by cases h)) ?_ ?_
  · simp only [go_sem, simprocAttr, hbOps, hbO, st, bb, List.cons_append, List.nil_append]
    intro g2
    exact any_sub' (hb_015 hk' hn hkk h0 h9 hJ g2 g9) (by kernel_rfl) (by simp only [go_sem, simprocAttr, st, List.cons_append, List.nil_append]; simp)
  refine alts_step' (p := .last) 11 0 hk' (by kernel_rfl) (by kernel_rfl) (bb_mem _) (fun _ h => (by cases h)) ?_ ?_
  · simp only [go_sem, simprocAttr, hbOps, hbO, st, bb, List.cons_append, List.nil_append]
    intro g6
    exact any_sub' (hb_125 hk' hn hkk h0 h9 hJ g6 g9) (by kernel_rfl) (by simp only [go_sem, simprocAttr, st, List.cons_append, List.nil_append]; simp)
  refine alts_step' (p := .last) 12 0 hk' (by kernel_rfl) (by kernel_rfl) (bb_mem _) (fun _ h => (by cases h)) ?_ ?_
  · simp only [go_sem, simprocAttr, hbOps, hbO, st, bb, List.cons_append, List.nil_append]
    intro g7
    exact any_sub' (hb_135 hk' hn hkk h0 h9 hJ g7 g9) (by kernel_rfl) (by simp only [go_sem, simprocAttr, st, List.cons_append, List.nil_append]; simp)
  refine alts_step' (p := .last) 13 0 hk' (by kernel_rfl) (by kernel_rfl) (bb_mem _) (fun _ h => (by cases h)) ?_ ?_
  · simp only [go_sem, simprocAttr, hbOps, hbO, st, bb, List.cons_append, List.nil_append]
    intro g8
    exact any_sub' (hb_145 hk' hn hkk h0 h9 hJ g8 g9) (by kernel_rfl) (by simp only [go_sem, simprocAttr, st, List.cons_append, List.nil_append]; simp)
  refine alts_step' (p := (.take 14 .last)) 9 1 hk' (by kernel_rfl) (by kernel_rfl) (bb_mem _) (fun _ h => (by cases h)) ?_ ?_
  · simp only [go_sem, simprocAttr, hbOps, hbO, st, bb, List.cons_append, List.nil_append]
    refine any_ok2 (N := 1) (call_does (fun v _ => v = .int .i64 kk) rfl rfl (by kernel_rfl) rfl (by simp only [dOk_some, dOk_none, Nat.reduceLT]) (fun G hG => pick9 hn hkk G)) hk' rfl (by first | exact .inl rfl | exact .inr ⟨_, _, rfl, rfl⟩) (by intro _ hK; obtain ⟨_, _, _, _, rfl⟩ := hK; exact ⟨rfl, fun _ h => h⟩) ?_
    rintro _ ⟨_, G7, rfl, hn7, rfl⟩
    clear hn7
    simp only [go_sem, simprocAttr, decide_true, decide_false, Bool.not_true, Bool.not_false, cond_true, cond_false, beq_self_eq_true, and_self, ne_eq, not_true_eq_false, not_false_eq_true, reduceCtorEq, Bool.true_beq, Bool.false_beq]
    refine ⟨by omega, ?_⟩
    exact any_sub' (hb_156 hk' hn hkk h0 h9 hJ g9) (by kernel_rfl) (by simp only [go_sem, simprocAttr, st, List.cons_append, List.nil_append]; simp)
  exact alts_last
theorem hb_167 (g15 : Nat) : Ok ⟨w, Non, Non, 94⟩ (st wh n gg gd dc w G2 [(28, .c (.v (.int .i64 (-1 - kk)))), (38, .c (.s 15 g15 0 1 1))] [⟨15, g15, 3, [.v (.int .i64 (6 + kk))]⟩]) (sem Try.prog (.inv J k') (.any hbOps (bb gg gd dc) [] 7 (lst [0, 1, 3, 4, 5, 10, 11, 12, 13, 14, 15]) .last)) := by
  refine any_step (i := 2) (p := .last) (r := (.alt 6 .last (.alt 7 .last (.alt 8 .last (.alt 9 .last .last))))) hk' (by kernel_rfl) (by kernel_rfl) (bb_mem _) (fun _ h => (by cases h)) ?_
  refine alts_step' (p := .last) 10 0 hk' (by kernel_rfl) (by kernel_rfl) (bb_mem _) (fun _ h => (by cases h)) ?_ ?_
  · simp only [go_sem, simprocAttr, hbOps, hbO, st, bb, List.cons_append, List.nil_append]
    intro g2
    exact any_sub' (hb_0167 hk' hn hkk h0 h9 hJ g2 g15) (by kernel_rfl) (by simp only [go_sem, simprocAttr, st, List.cons_append, List.nil_append]; simp)
  refine alts_step' (p := .last) 11 0 hk' (by kernel_rfl) (by kernel_rfl) (bb_mem _) (fun _ h => (by cases h)) ?_ ?_
  · simp only [go_sem, simprocAttr, hbOps, hbO, st, bb, List.cons_append, List.nil_append]
    intro g6
    exact any_sub' (hb_1267 hk' hn hkk h0 h9 hJ g6 g15) (by kernel_rfl) (by simp only [go_sem, simprocAttr, st, List.cons_append, List.nil_append]; simp)
  refine alts_step' (p := .last) 12 0 hk' (by kernel_rfl) (by kernel_rfl) (bb_mem _) (fun _ h => (by cases h)) ?_ ?_
  · simp only [go_sem, simprocAttr, hbOps, hbO, st, bb, List.cons_append, List.nil_append]
    intro g7
    exact any_sub' (hb_1367 hk' hn hkk h0 h9 hJ g7 g15) (by kernel_rfl) (by simp only [go_sem, simprocAttr, st, List.cons_append, List.nil_append]; simp)
  refine alts_step' (p := .last) 13 0 hk' (by kernel_rfl) (by kernel_rfl) (bb_mem _) (fun _ h => (by cases h)) ?_ ?_
  · simp only [go_sem, simprocAttr, hbOps, hbO, st, bb, List.cons_append, List.nil_append]
    intro g8
    exact any_sub' (hb_1467 hk' hn hkk h0 h9 hJ g8 g15) (by kernel_rfl) (by simp only [go_sem, simprocAttr, st, List.cons_append, List.nil_append]; simp)
  refine alts_step' (p := .last) 14 0 hk' (by kernel_rfl) (by kernel_rfl) (bb_mem _) (fun _ h => (by cases h)) ?_ ?_
  · simp only [go_sem, simprocAttr, hbOps, hbO, st, bb, List.cons_append, List.nil_append]
    intro g9
    exact any_sub' (hb_1567 hk' hn hkk h0 h9 hJ g9 g15) (by kernel_rfl) (by simp only [go_sem, simprocAttr, st, List.cons_append, List.nil_append]; simp)
  exact alts_last
theorem hb_16 : Ok ⟨w, Non, Non, 94⟩ (st wh n gg gd dc w G2 [(28, .c (.v (.int .i64 (-1 - kk)))), (37, .c (.v (.int .i64 (6 + kk))))] []) (sem Try.prog (.inv J k') (.any hbOps (bb gg gd dc) [] 8 (lst [0, 1, 3, 4, 5, 10, 11, 12, 13, 14]) .last)) := by
  refine any_step (i := 2) (p := .last) (r := (.alt 6 .last (.alt 7 .last (.alt 8 .last (.alt 9 .last (.alt 15 .last .last)))))) hk' (by kernel_rfl) (by kernel_rfl) (bb_mem _) (fun _ h => (by cases h)) ?_
  refine alts_step' (p := .last) 10 0 hk' (by kernel_rfl) (by kernel_rfl) (bb_mem _) (fun _ h => (by cases h)) ?_ ?_
  · simp only [go_sem, simprocAttr, hbOps, hbO, st, bb, List.cons_append, List.nil_append]
    intro g2
    exact any_sub' (hb_016 hk' hn hkk h0 h9 hJ g2) (by kernel_rfl) (by simp only [go_sem, simprocAttr, st, List.cons_append, List.nil_append]; simp)
  refine alts_step' (p := .last) 11 0 hk' (by kernel_rfl) (by kernel_rfl) (bb_mem _) (fun _ h => (by cases h)) ?_ ?_
  · simp only [go_sem, simprocAttr, hbOps, hbO, st, bb, List.cons_append, List.nil_append]
    intro g6
    exact any_sub' (hb_126 hk' hn hkk h0 h9 hJ g6) (by kernel_rfl) (by simp only [go_sem, simprocAttr, st, List.cons_append, List.nil_append]; simp)
  refine alts_step' (p := .last) 12 0 hk' (by kernel_rfl) (by kernel_rfl) (bb_mem _) (fun _ h => (by cases h)) ?_ ?_
  · simp only [go_sem, simprocAttr, hbOps, hbO, st, bb, List.cons_append, List.nil_append]
    intro g7
    exact any_sub' (hb_136 hk' hn hkk h0 h9 hJ g7) (by kernel_rfl) (by simp only [go_sem, simprocAttr, st, List.cons_append, List.nil_append]; simp)
  refine alts_step' (p := .last) 13 0 hk' (by kernel_rfl) (by kernel_rfl) (bb_mem _) (fun _ h => (by cases h)) ?_ ?_
  · simp only [go_sem, simprocAttr, hbOps, hbO, st, bb, List.cons_append, List.nil_append]
    intro g8
    exact any_sub' (hb_146 hk' hn hkk h0 h9 hJ g8) (by kernel_rfl) (by simp only [go_sem, simprocAttr, st, List.cons_append, List.nil_append]; simp)
  refine alts_step' (p := .last) 14 0 hk' (by kernel_rfl) (by kernel_rfl) (bb_mem _) (fun _ h => (by cases h)) ?_ ?_
  · simp only [go_sem, simprocAttr, hbOps, hbO, st, bb, List.cons_append, List.nil_append]
    intro g9
    exact any_sub' (hb_156 hk' hn hkk h0 h9 hJ g9) (by kernel_rfl) (by simp only [go_sem, simprocAttr, st, List.cons_append, List.nil_append]; simp)
  refine alts_step' (p := .last) 15 0 hk' (by kernel_rfl) (by kernel_rfl) (bb_mem _) (fun _ h => (by cases h)) ?_ ?_
  · simp only [go_sem, simprocAttr, hbOps, hbO, st, bb, List.cons_append, List.nil_append]
    intro g15
    exact any_sub' (hb_167 hk' hn hkk h0 h9 hJ g15) (by kernel_rfl) (by simp only [go_sem, simprocAttr, st, List.cons_append, List.nil_append]; simp)
  exact alts_last
theorem hb_1 : Ok ⟨w, Non, Non, 94⟩ (st wh n gg gd dc w G2 [(28, .c (.v (.int .i64 (-1 - kk))))] []) (sem Try.prog (.inv J k') (.any hbOps (bb gg gd dc) [] 10 (lst [0, 1, 3, 4, 5, 10, 11, 12]) .last)) := by
  refine any_step (i := 2) (p := .last) (r := (.alt 6 .last (.alt 7 .last (.alt 8 .last (.alt 9 .last (.alt 13 .last .last)))))) hk' (by kernel_rfl) (by kernel_rfl) (bb_mem _) (fun _ h => (by cases h)) ?_
  refine alts_step' (p := .last) 10 0 hk' (by kernel_rfl) (by kernel_rfl) (bb_mem _) (fun _ h => (by cases h)) ?_ ?_
  · simp only [go_sem, simprocAttr, hbOps, hbO, st, bb, List.cons_append, List.nil_append]
    intro g2
    exact any_sub' (hb_01 hk' hn hkk h0 h9 hJ g2) (by kernel_rfl) (by simp only [go_sem, simprocAttr, st, List.cons_append, List.nil_append]; simp)
  refine alts_step' (p := .last) 11 0 hk' (by kernel_rfl) (by kernel_rfl) (bb_mem _) (fun _ h => (by cases h)) ?_ ?_
  · simp only [go_sem, simprocAttr, hbOps, hbO, st, bb, List.cons_append, List.nil_append]
    intro g6
    exact any_sub' (hb_12 hk' hn hkk h0 h9 hJ g6) (by kernel_rfl) (by simp only [go_sem, simprocAttr, st, List.cons_append, List.nil_append]; simp)
  refine alts_step' (p := .last) 12 0 hk' (by kernel_rfl) (by kernel_rfl) (bb_mem _) (fun _ h => (by cases h)) ?_ ?_
  · simp only [go_sem, simprocAttr, hbOps, hbO, st, bb, List.cons_append, List.nil_append]
    intro g7
    exact any_sub' (hb_13 hk' hn hkk h0 h9 hJ g7) (by kernel_rfl) (by simp only [go_sem, simprocAttr, st, List.cons_append, List.nil_append]; simp)
  refine alts_step' (p := .last) 13 0 hk' (by kernel_rfl) (by kernel_rfl) (bb_mem _) (fun _ h => (by cases h)) ?_ ?_
  · simp only [go_sem, simprocAttr, hbOps, hbO, st, bb, List.cons_append, List.nil_append]
    intro g8
    exact any_sub' (hb_14 hk' hn hkk h0 h9 hJ g8) (by kernel_rfl) (by simp only [go_sem, simprocAttr, st, List.cons_append, List.nil_append]; simp)
  refine alts_step' (p := .last) 14 0 hk' (by kernel_rfl) (by kernel_rfl) (bb_mem _) (fun _ h => (by cases h)) ?_ ?_
  · simp only [go_sem, simprocAttr, hbOps, hbO, st, bb, List.cons_append, List.nil_append]
    intro g9
    exact any_sub' (hb_15 hk' hn hkk h0 h9 hJ g9) (by kernel_rfl) (by simp only [go_sem, simprocAttr, st, List.cons_append, List.nil_append]; simp)
  refine alts_step' (p := (.take 14 .last)) 9 1 hk' (by kernel_rfl) (by kernel_rfl) (bb_mem _) (fun _ h => (by cases h)) ?_ ?_
  · simp only [go_sem, simprocAttr, hbOps, hbO, st, bb, List.cons_append, List.nil_append]
    refine any_ok2 (N := 1) (call_does (fun v _ => v = .int .i64 kk) rfl rfl (by kernel_rfl) rfl (by simp only [dOk_some, dOk_none, Nat.reduceLT]) (fun G hG => pick9 hn hkk G)) hk' rfl (by first | exact .inl rfl | exact .inr ⟨_, _, rfl, rfl⟩) (by intro _ hK; obtain ⟨_, _, _, _, rfl⟩ := hK; exact ⟨rfl, fun _ h => h⟩) ?_
    rintro _ ⟨_, G7, rfl, hn7, rfl⟩
    clear hn7
    simp only [go_sem, simprocAttr, decide_true, decide_false, Bool.not_true, Bool.not_false, cond_true, cond_false, beq_self_eq_true, and_self, ne_eq, not_true_eq_false, not_false_eq_true, reduceCtorEq, Bool.true_beq, Bool.false_beq]
    refine ⟨by omega, ?_⟩
    exact any_sub' (hb_16 hk' hn hkk h0 h9 hJ ) (by kernel_rfl) (by simp only [go_sem, simprocAttr, st, List.cons_append, List.nil_append]; simp)
  exact alts_last
theorem hb_345 (g7 : Nat) (g8 : Nat) (g9 : Nat) : Ok ⟨w, Non, Non, 94⟩ (st wh n gg gd dc w G2 [(30, .c (.s 12 g7 0 2 2)), (31, .c (.s 13 g8 0 2 2)), (32, .c (.s 14 g9 0 0 0))] [⟨12, g7, 3, [.v (.int .i64 0), .v (.int .i64 0)]⟩, ⟨13, g8, 3, [.v (.int .i64 1), .v (.int .i64 2)]⟩, ⟨14, g9, 3, []⟩]) (sem Try.prog (.inv J k') (.any hbOps (bb gg gd dc) [] 9 (lst [0, 1, 3, 7, 8, 9, 10, 11, 12]) .last)) := by
  refine any_step (i := 2) (p := .last) (r := (.alt 4 .last .last)) hk' (by kernel_rfl) (by kernel_rfl) (bb_mem _) (fun _ h => (by cases h)) ?_
  refine alts_step' (p := .last) 10 0 hk' (by kernel_rfl) (by kernel_rfl) (bb_mem _) (fun _ h => (by cases h)) ?_ ?_
  · simp only [go_sem, simprocAttr, hbOps, hbO, st, bb, List.cons_append, List.nil_append]
    intro g2
    exact any_sub' (hb_0345 hk' hn hkk h0 h9 hJ g2 g7 g8 g9) (by kernel_rfl) (by simp only [go_sem, simprocAttr, st, List.cons_append, List.nil_append]; simp)
  refine alts_step' (p := (.take 5 .last)) 9 1 hk' (by kernel_rfl) (by kernel_rfl) (bb_mem _) (fun _ h => (by cases h)) ?_ ?_
  · simp only [go_sem, simprocAttr, hbOps, hbO, st, bb, List.cons_append, List.nil_append]
    refine any_ok2 (N := 1) (call_does (fun v _ => v = .int .i64 kk) rfl rfl (by kernel_rfl) rfl (by simp only [dOk_some, dOk_none, Nat.reduceLT]) (fun G hG => pick9 hn hkk G)) hk' rfl (by first | exact .inl rfl | exact .inr ⟨_, _, rfl, rfl⟩) (by intro _ hK; obtain ⟨_, _, _, _, rfl⟩ := hK; exact ⟨rfl, fun _ h => h⟩) ?_
    rintro _ ⟨_, G7, rfl, hn7, rfl⟩
    clear hn7
    simp only [go_sem, simprocAttr, decide_true, decide_false, Bool.not_true, Bool.not_false, cond_true, cond_false, beq_self_eq_true, and_self, ne_eq, not_true_eq_false, not_false_eq_true, reduceCtorEq, Bool.true_beq, Bool.false_beq]
    refine ⟨by omega, ?_⟩
    exact any_sub' (hb_1345 hk' hn hkk h0 h9 hJ g7 g8 g9) (by kernel_rfl) (by simp only [go_sem, simprocAttr, st, List.cons_append, List.nil_append]; simp)
  exact alts_last
theorem hb_34 (g7 : Nat) (g8 : Nat) : Ok ⟨w, Non, Non, 94⟩ (st wh n gg gd dc w G2 [(30, .c (.s 12 g7 0 2 2)), (31, .c (.s 13 g8 0 2 2))] [⟨12, g7, 3, [.v (.int .i64 0), .v (.int .i64 0)]⟩, ⟨13, g8, 3, [.v (.int .i64 1), .v (.int .i64 2)]⟩]) (sem Try.prog (.inv J k') (.any hbOps (bb gg gd dc) [] 10 (lst [0, 1, 3, 7, 8, 10, 11, 12]) .last)) := by
  refine any_step (i := 2) (p := .last) (r := (.alt 4 .last (.alt 9 .last .last))) hk' (by kernel_rfl) (by kernel_rfl) (bb_mem _) (fun _ h => (by cases h)) ?_
  refine alts_step' (p := .last) 10 0 hk' (by kernel_rfl) (by kernel_rfl) (bb_mem _) (fun _ h => (by cases h)) ?_ ?_
  · simp only [go_sem, simprocAttr, hbOps, hbO, st, bb, List.cons_append, List.nil_append]
    intro g2
    exact any_sub' (hb_034 hk' hn hkk h0 h9 hJ g2 g7 g8) (by kernel_rfl) (by simp only [go_sem, simprocAttr, st, List.cons_append, List.nil_append]; simp)
  refine alts_step' (p := (.take 5 .last)) 9 1 hk' (by kernel_rfl) (by kernel_rfl) (bb_mem _) (fun _ h => (by cases h)) ?_ ?_
  · simp only [go_sem, simprocAttr, hbOps, hbO, st, bb, List.cons_append, List.nil_append]
    refine any_ok2 (N := 1) (call_does (fun v _ => v = .int .i64 kk) rfl rfl (by kernel_rfl) rfl (by simp only [dOk_some, dOk_none, Nat.reduceLT]) (fun G hG => pick9 hn hkk G)) hk' rfl (by first | exact .inl rfl | exact .inr ⟨_, _, rfl, rfl⟩) (by intro _ hK; obtain ⟨_, _, _, _, rfl⟩ := hK; exact ⟨rfl, fun _ h => h⟩) ?_
    rintro _ ⟨_, G7, rfl, hn7, rfl⟩
    clear hn7
    simp only [go_sem, simprocAttr, decide_true, decide_false, Bool.not_true, Bool.not_false, cond_true, cond_false, beq_self_eq_true, and_self, ne_eq, not_true_eq_false, not_false_eq_true, reduceCtorEq, Bool.true_beq, Bool.false_beq]
    refine ⟨by omega, ?_⟩
    exact any_sub' (hb_134 hk' hn hkk h0 h9 hJ g7 g8) (by kernel_rfl) (by simp only [go_sem, simprocAttr, st, List.cons_append, List.nil_append]; simp)
  refine alts_step' (p := .last) 14 0 hk' (by kernel_rfl) (by kernel_rfl) (bb_mem _) (fun _ h => (by cases h)) ?_ ?_
  · simp only [go_sem, simprocAttr, hbOps, hbO, st, bb, List.cons_append, List.nil_append]
    intro g9
    exact any_sub' (hb_345 hk' hn hkk h0 h9 hJ g7 g8 g9) (by kernel_rfl) (by simp only [go_sem, simprocAttr, st, List.cons_append, List.nil_append]; simp)
  exact alts_last
theorem hb_35 (g7 : Nat) (g9 : Nat) : Ok ⟨w, Non, Non, 94⟩ (st wh n gg gd dc w G2 [(30, .c (.s 12 g7 0 2 2)), (32, .c (.s 14 g9 0 0 0))] [⟨12, g7, 3, [.v (.int .i64 0), .v (.int .i64 0)]⟩, ⟨14, g9, 3, []⟩]) (sem Try.prog (.inv J k') (.any hbOps (bb gg gd dc) [] 10 (lst [0, 1, 3, 7, 9, 10, 11, 12]) .last)) := by
  refine any_step (i := 2) (p := .last) (r := (.alt 4 .last (.alt 8 .last .last))) hk' (by kernel_rfl) (by kernel_rfl) (bb_mem _) (fun _ h => (by cases h)) ?_
  refine alts_step' (p := .last) 10 0 hk' (by kernel_rfl) (by kernel_rfl) (bb_mem _) (fun _ h => (by cases h)) ?_ ?_
  · simp only [go_sem, simprocAttr, hbOps, hbO, st, bb, List.cons_append, List.nil_append]
    intro g2
    exact any_sub' (hb_035 hk' hn hkk h0 h9 hJ g2 g7 g9) (by kernel_rfl) (by simp only [go_sem, simprocAttr, st, List.cons_append, List.nil_append]; simp)
  refine alts_step' (p := (.take 5 .last)) 9 1 hk' (by kernel_rfl) (by kernel_rfl) (bb_mem _) (fun _ h => (by cases h)) ?_ ?_
  · simp only [go_sem, simprocAttr, hbOps, hbO, st, bb, List.cons_append, List.nil_append]
    refine any_ok2 (N := 1) (call_does (fun v _ => v = .int .i64 kk) rfl rfl (by kernel_rfl) rfl (by simp only [dOk_some, dOk_none, Nat.reduceLT]) (fun G hG => pick9 hn hkk G)) hk' rfl (by first | exact .inl rfl | exact .inr ⟨_, _, rfl, rfl⟩) (by intro _ hK; obtain ⟨_, _, _, _, rfl⟩ := hK; exact ⟨rfl, fun _ h => h⟩) ?_
    rintro _ ⟨_, G7, rfl, hn7, rfl⟩
    clear hn7
    simp only [go_sem, simprocAttr, decide_true, decide_false, Bool.not_true, Bool.not_false, cond_true, cond_false, beq_self_eq_true, and_self, ne_eq, not_true_eq_false, not_false_eq_true, reduceCtorEq, Bool.true_beq, Bool.false_beq]
    refine ⟨by omega, ?_⟩
    exact any_sub' (hb_135 hk' hn hkk h0 h9 hJ g7 g9) (by kernel_rfl) (by simp only [go_sem, simprocAttr, st, List.cons_append, List.nil_append]; simp)
  refine alts_step' (p := .last) 13 0 hk' (by kernel_rfl) (by kernel_rfl) (bb_mem _) (fun _ h => (by cases h)) ?_ ?_
  · simp only [go_sem, simprocAttr, hbOps, hbO, st, bb, List.cons_append, List.nil_append]
    intro g8
    exact any_sub' (hb_345 hk' hn hkk h0 h9 hJ g7 g8 g9) (by kernel_rfl) (by simp only [go_sem, simprocAttr, st, List.cons_append, List.nil_append]; simp)
  exact alts_last
theorem hb_3 (g7 : Nat) : Ok ⟨w, Non, Non, 94⟩ (st wh n gg gd dc w G2 [(30, .c (.s 12 g7 0 2 2))] [⟨12, g7, 3, [.v (.int .i64 0), .v (.int .i64 0)]⟩]) (sem Try.prog (.inv J k') (.any hbOps (bb gg gd dc) [] 11 (lst [0, 1, 3, 7, 10, 11, 12]) .last)) := by
  refine any_step (i := 2) (p := .last) (r := (.alt 4 .last (.alt 8 .last (.alt 9 .last .last)))) hk' (by kernel_rfl) (by kernel_rfl) (bb_mem _) (fun _ h => (by cases h)) ?_
  refine alts_step' (p := .last) 10 0 hk' (by kernel_rfl) (by kernel_rfl) (bb_mem _) (fun _ h => (by cases h)) ?_ ?_
  · simp only [go_sem, simprocAttr, hbOps, hbO, st, bb, List.cons_append, List.nil_append]
    intro g2
    exact any_sub' (hb_03 hk' hn hkk h0 h9 hJ g2 g7) (by kernel_rfl) (by simp only [go_sem, simprocAttr, st, List.cons_append, List.nil_append]; simp)
  refine alts_step' (p := (.take 5 .last)) 9 1 hk' (by kernel_rfl) (by kernel_rfl) (bb_mem _) (fun _ h => (by cases h)) ?_ ?_
  · simp only [go_sem, simprocAttr, hbOps, hbO, st, bb, List.cons_append, List.nil_append]
    refine any_ok2 (N := 1) (call_does (fun v _ => v = .int .i64 kk) rfl rfl (by kernel_rfl) rfl (by simp only [dOk_some, dOk_none, Nat.reduceLT]) (fun G hG => pick9 hn hkk G)) hk' rfl (by first | exact .inl rfl | exact .inr ⟨_, _, rfl, rfl⟩) (by intro _ hK; obtain ⟨_, _, _, _, rfl⟩ := hK; exact ⟨rfl, fun _ h => h⟩) ?_
    rintro _ ⟨_, G7, rfl, hn7, rfl⟩
    clear hn7
    simp only [go_sem, simprocAttr, decide_true, decide_false, Bool.not_true, Bool.not_false, cond_true, cond_false, beq_self_eq_true, and_self, ne_eq, not_true_eq_false, not_false_eq_true, reduceCtorEq, Bool.true_beq, Bool.false_beq]
    refine ⟨by omega, ?_⟩
    exact any_sub' (hb_13 hk' hn hkk h0 h9 hJ g7) (by kernel_rfl) (by simp only [go_sem, simprocAttr, st, List.cons_append, List.nil_append]; simp)
  refine alts_step' (p := .last) 13 0 hk' (by kernel_rfl) (by kernel_rfl) (bb_mem _) (fun _ h => (by cases h)) ?_ ?_
  · simp only [go_sem, simprocAttr, hbOps, hbO, st, bb, List.cons_append, List.nil_append]
    intro g8
    exact any_sub' (hb_34 hk' hn hkk h0 h9 hJ g7 g8) (by kernel_rfl) (by simp only [go_sem, simprocAttr, st, List.cons_append, List.nil_append]; simp)
  refine alts_step' (p := .last) 14 0 hk' (by kernel_rfl) (by kernel_rfl) (bb_mem _) (fun _ h => (by cases h)) ?_ ?_
  · simp only [go_sem, simprocAttr, hbOps, hbO, st, bb, List.cons_append, List.nil_append]
    intro g9
    exact any_sub' (hb_35 hk' hn hkk h0 h9 hJ g7 g9) (by kernel_rfl) (by simp only [go_sem, simprocAttr, st, List.cons_append, List.nil_append]; simp)
  exact alts_last
theorem hb_45 (g8 : Nat) (g9 : Nat) : Ok ⟨w, Non, Non, 94⟩ (st wh n gg gd dc w G2 [(31, .c (.s 13 g8 0 2 2)), (32, .c (.s 14 g9 0 0 0))] [⟨13, g8, 3, [.v (.int .i64 1), .v (.int .i64 2)]⟩, ⟨14, g9, 3, []⟩]) (sem Try.prog (.inv J k') (.any hbOps (bb gg gd dc) [] 10 (lst [0, 1, 3, 8, 9, 10, 11, 12]) .last)) := by
  refine any_step (i := 2) (p := .last) (r := (.alt 4 .last (.alt 7 .last .last))) hk' (by kernel_rfl) (by kernel_rfl) (bb_mem _) (fun _ h => (by cases h)) ?_
  refine alts_step' (p := .last) 10 0 hk' (by kernel_rfl) (by kernel_rfl) (bb_mem _) (fun _ h => (by cases h)) ?_ ?_
  · simp only [go_sem, simprocAttr, hbOps, hbO, st, bb, List.cons_append, List.nil_append]
    intro g2
    exact any_sub' (hb_045 hk' hn hkk h0 h9 hJ g2 g8 g9) (by kernel_rfl) (by simp only [go_sem, simprocAttr, st, List.cons_append, List.nil_append]; simp)
  refine alts_step' (p := (.take 5 .last)) 9 1 hk' (by kernel_rfl) (by kernel_rfl) (bb_mem _) (fun _ h => (by cases h)) ?_ ?_
  · simp only [go_sem, simprocAttr, hbOps, hbO, st, bb, List.cons_append, List.nil_append]
    refine any_ok2 (N := 1) (call_does (fun v _ => v = .int .i64 kk) rfl rfl (by kernel_rfl) rfl (by simp only [dOk_some, dOk_none, Nat.reduceLT]) (fun G hG => pick9 hn hkk G)) hk' rfl (by first | exact .inl rfl | exact .inr ⟨_, _, rfl, rfl⟩) (by intro _ hK; obtain ⟨_, _, _, _, rfl⟩ := hK; exact ⟨rfl, fun _ h => h⟩) ?_
    rintro _ ⟨_, G7, rfl, hn7, rfl⟩
    clear hn7
    simp only [go_sem, simprocAttr, decide_true, decide_false, Bool.not_true, Bool.not_false, cond_true, cond_false, beq_self_eq_true, and_self, ne_eq, not_true_eq_false, not_false_eq_true, reduceCtorEq, Bool.true_beq, Bool.false_beq]
    refine ⟨by omega, ?_⟩
    exact any_sub' (hb_145 hk' hn hkk h0 h9 hJ g8 g9) (by kernel_rfl) (by simp only [go_sem, simprocAttr, st, List.cons_append, List.nil_append]; simp)
  refine alts_step' (p := .last) 12 0 hk' (by kernel_rfl) (by kernel_rfl) (bb_mem _) (fun _ h => (by cases h)) ?_ ?_
  · simp only [go_sem, simprocAttr, hbOps, hbO, st, bb, List.cons_append, List.nil_append]
    intro g7
    exact any_sub' (hb_345 hk' hn hkk h0 h9 hJ g7 g8 g9) (by kernel_rfl) (by simp only [go_sem, simprocAttr, st, List.cons_append, List.nil_append]; simp)
  exact alts_last
theorem hb_4 (g8 : Nat) : Ok ⟨w, Non, Non, 94⟩ (st wh n gg gd dc w G2 [(31, .c (.s 13 g8 0 2 2))] [⟨13, g8, 3, [.v (.int .i64 1), .v (.int .i64 2)]⟩]) (sem Try.prog (.inv J k') (.any hbOps (bb gg gd dc) [] 11 (lst [0, 1, 3, 8, 10, 11, 12]) .last)) := by
  refine any_step (i := 2) (p := .last) (r := (.alt 4 .last (.alt 7 .last (.alt 9 .last .last)))) hk' (by kernel_rfl) (by kernel_rfl) (bb_mem _) (fun _ h => (by cases h)) ?_
  refine alts_step' (p := .last) 10 0 hk' (by kernel_rfl) (by kernel_rfl) (bb_mem _) (fun _ h => (by cases h)) ?_ ?_
  · simp only [go_sem, simprocAttr, hbOps, hbO, st, bb, List.cons_append, List.nil_append]
    intro g2
    exact any_sub' (hb_04 hk' hn hkk h0 h9 hJ g2 g8) (by kernel_rfl) (by simp only [go_sem, simprocAttr, st, List.cons_append, List.nil_append]; simp)
  refine alts_step' (p := (.take 5 .last)) 9 1 hk' (by kernel_rfl) (by kernel_rfl) (bb_mem _) (fun _ h => (by cases h)) ?_ ?_
  · simp only [go_sem, simprocAttr, hbOps, hbO, st, bb, List.cons_append, List.nil_append]
    refine any_ok2 (N := 1) (call_does (fun v _ => v = .int .i64 kk) rfl rfl (by kernel_rfl) rfl (by simp only [dOk_some, dOk_none, Nat.reduceLT]) (fun G hG => pick9 hn hkk G)) hk' rfl (by first | exact .inl rfl | exact .inr ⟨_, _, rfl, rfl⟩) (by intro _ hK; obtain ⟨_, _, _, _, rfl⟩ := hK; exact ⟨rfl, fun _ h => h⟩) ?_
    rintro _ ⟨_, G7, rfl, hn7, rfl⟩
    clear hn7
    simp only [go_sem, simprocAttr, decide_true, decide_false, Bool.not_true, Bool.not_false, cond_true, cond_false, beq_self_eq_true, and_self, ne_eq, not_true_eq_false, not_false_eq_true, reduceCtorEq, Bool.true_beq, Bool.false_beq]
    refine ⟨by omega, ?_⟩
    exact any_sub' (hb_14 hk' hn hkk h0 h9 hJ g8) (by kernel_rfl) (by simp only [go_sem, simprocAttr, st, List.cons_append, List.nil_append]; simp)
  refine alts_step' (p := .last) 12 0 hk' (by kernel_rfl) (by kernel_rfl) (bb_mem _) (fun _ h => (by cases h)) ?_ ?_
  · simp only [go_sem, simprocAttr, hbOps, hbO, st, bb, List.cons_append, List.nil_append]
    intro g7
    exact any_sub' (hb_34 hk' hn hkk h0 h9 hJ g7 g8) (by kernel_rfl) (by simp only [go_sem, simprocAttr, st, List.cons_append, List.nil_append]; simp)
  refine alts_step' (p := .last) 14 0 hk' (by kernel_rfl) (by kernel_rfl) (bb_mem _) (fun _ h => (by cases h)) ?_ ?_
  · simp only [go_sem, simprocAttr, hbOps, hbO, st, bb, List.cons_append, List.nil_append]
    intro g9
    exact any_sub' (hb_45 hk' hn hkk h0 h9 hJ g8 g9) (by kernel_rfl) (by simp only [go_sem, simprocAttr, st, List.cons_append, List.nil_append]; simp)
  exact alts_last
theorem hb_5 (g9 : Nat) : Ok ⟨w, Non, Non, 94⟩ (st wh n gg gd dc w G2 [(32, .c (.s 14 g9 0 0 0))] [⟨14, g9, 3, []⟩]) (sem Try.prog (.inv J k') (.any hbOps (bb gg gd dc) [] 11 (lst [0, 1, 3, 9, 10, 11, 12]) .last)) := by
  refine any_step (i := 2) (p := .last) (r := (.alt 4 .last (.alt 7 .last (.alt 8 .last .last)))) hk' (by kernel_rfl) (by kernel_rfl) (bb_mem _) (fun _ h => (by cases h)) ?_
  refine alts_step' (p := .last) 10 0 hk' (by kernel_rfl) (by kernel_rfl) (bb_mem _) (fun _ h => (by cases h)) ?_ ?_
  · simp only [go_sem, simprocAttr, hbOps, hbO, st, bb, List.cons_append, List.nil_append]
    intro g2
    exact any_sub' (hb_05 hk' hn hkk h0 h9 hJ g2 g9) (by kernel_rfl) (by simp only [go_sem, simprocAttr, st, List.cons_append, List.nil_append]; simp)
  refine alts_step' (p := (.take 5 .last)) 9 1 hk' (by kernel_rfl) (by kernel_rfl) (bb_mem _) (fun _ h => (by cases h)) ?_ ?_
  · simp only [go_sem, simprocAttr, hbOps, hbO, st, bb, List.cons_append, List.nil_append]
    refine any_ok2 (N := 1) (call_does (fun v _ => v = .int .i64 kk) rfl rfl (by kernel_rfl) rfl (by simp only [dOk_some, dOk_none, Nat.reduceLT]) (fun G hG => pick9 hn hkk G)) hk' rfl (by first | exact .inl rfl | exact .inr ⟨_, _, rfl, rfl⟩) (by intro _ hK; obtain ⟨_, _, _, _, rfl⟩ := hK; exact ⟨rfl, fun _ h => h⟩) ?_
    rintro _ ⟨_, G7, rfl, hn7, rfl⟩
    clear hn7
    simp only [go_sem, simprocAttr, decide_true, decide_false, Bool.not_true, Bool.not_false, cond_true, cond_false, beq_self_eq_true, and_self, ne_eq, not_true_eq_false, not_false_eq_true, reduceCtorEq, Bool.true_beq, Bool.false_beq]
    refine ⟨by omega, ?_⟩
    exact any_sub' (hb_15 hk' hn hkk h0 h9 hJ g9) (by kernel_rfl) (by simp only [go_sem, simprocAttr, st, List.cons_append, List.nil_append]; simp)
  refine alts_step' (p := .last) 12 0 hk' (by kernel_rfl) (by kernel_rfl) (bb_mem _) (fun _ h => (by cases h)) ?_ ?_
  · simp only [go_sem, simprocAttr, hbOps, hbO, st, bb, List.cons_append, List.nil_append]
    intro g7
    exact any_sub' (hb_35 hk' hn hkk h0 h9 hJ g7 g9) (by kernel_rfl) (by simp only [go_sem, simprocAttr, st, List.cons_append, List.nil_append]; simp)
  refine alts_step' (p := .last) 13 0 hk' (by kernel_rfl) (by kernel_rfl) (bb_mem _) (fun _ h => (by cases h)) ?_ ?_
  · simp only [go_sem, simprocAttr, hbOps, hbO, st, bb, List.cons_append, List.nil_append]
    intro g8
    exact any_sub' (hb_45 hk' hn hkk h0 h9 hJ g8 g9) (by kernel_rfl) (by simp only [go_sem, simprocAttr, st, List.cons_append, List.nil_append]; simp)
  exact alts_last
theorem hb_ : Ok ⟨w, Non, Non, 94⟩ (st wh n gg gd dc w G2 [] []) (sem Try.prog (.inv J k') (.any hbOps (bb gg gd dc) [] 12 (lst [0, 1, 3, 10, 11, 12]) .last)) := by
  refine any_step (i := 2) (p := .last) (r := (.alt 4 .last (.alt 7 .last (.alt 8 .last (.alt 9 .last .last))))) hk' (by kernel_rfl) (by kernel_rfl) (bb_mem _) (fun _ h => (by cases h)) ?_
  refine alts_step' (p := .last) 10 0 hk' (by kernel_rfl) (by kernel_rfl) (bb_mem _) (fun _ h => (by cases h)) ?_ ?_
  · simp only [go_sem, simprocAttr, hbOps, hbO, st, bb, List.cons_append, List.nil_append]
    intro g2
    exact any_sub' (hb_0 hk' hn hkk h0 h9 hJ g2) (by kernel_rfl) (by simp only [go_sem, simprocAttr, st, List.cons_append, List.nil_append]; simp)
  refine alts_step' (p := (.take 5 .last)) 9 1 hk' (by kernel_rfl) (by kernel_rfl) (bb_mem _) (fun _ h => (by cases h)) ?_ ?_
  · simp only [go_sem, simprocAttr, hbOps, hbO, st, bb, List.cons_append, List.nil_append]
    refine any_ok2 (N := 1) (call_does (fun v _ => v = .int .i64 kk) rfl rfl (by kernel_rfl) rfl (by simp only [dOk_some, dOk_none, Nat.reduceLT]) (fun G hG => pick9 hn hkk G)) hk' rfl (by first | exact .inl rfl | exact .inr ⟨_, _, rfl, rfl⟩) (by intro _ hK; obtain ⟨_, _, _, _, rfl⟩ := hK; exact ⟨rfl, fun _ h => h⟩) ?_
    rintro _ ⟨_, G7, rfl, hn7, rfl⟩
    clear hn7
    simp only [go_sem, simprocAttr, decide_true, decide_false, Bool.not_true, Bool.not_false, cond_true, cond_false, beq_self_eq_true, and_self, ne_eq, not_true_eq_false, not_false_eq_true, reduceCtorEq, Bool.true_beq, Bool.false_beq]
    refine ⟨by omega, ?_⟩
    exact any_sub' (hb_1 hk' hn hkk h0 h9 hJ ) (by kernel_rfl) (by simp only [go_sem, simprocAttr, st, List.cons_append, List.nil_append]; simp)
  refine alts_step' (p := .last) 12 0 hk' (by kernel_rfl) (by kernel_rfl) (bb_mem _) (fun _ h => (by cases h)) ?_ ?_
  · simp only [go_sem, simprocAttr, hbOps, hbO, st, bb, List.cons_append, List.nil_append]
    intro g7
    exact any_sub' (hb_3 hk' hn hkk h0 h9 hJ g7) (by kernel_rfl) (by simp only [go_sem, simprocAttr, st, List.cons_append, List.nil_append]; simp)
  refine alts_step' (p := .last) 13 0 hk' (by kernel_rfl) (by kernel_rfl) (bb_mem _) (fun _ h => (by cases h)) ?_ ?_
  · simp only [go_sem, simprocAttr, hbOps, hbO, st, bb, List.cons_append, List.nil_append]
    intro g8
    exact any_sub' (hb_4 hk' hn hkk h0 h9 hJ g8) (by kernel_rfl) (by simp only [go_sem, simprocAttr, st, List.cons_append, List.nil_append]; simp)
  refine alts_step' (p := .last) 14 0 hk' (by kernel_rfl) (by kernel_rfl) (bb_mem _) (fun _ h => (by cases h)) ?_ ?_
  · simp only [go_sem, simprocAttr, hbOps, hbO, st, bb, List.cons_append, List.nil_append]
    intro g9
    exact any_sub' (hb_5 hk' hn hkk h0 h9 hJ g9) (by kernel_rfl) (by simp only [go_sem, simprocAttr, st, List.cons_append, List.nil_append]; simp)
  exact alts_last
end
end Go.Proofs.Ytomfladifefomaa
