/- Changes of a state that is the caller's own: pass, begin. Conditions: as each law states them. -/
import Derived.Test.YtohdfcnjcpjdcaaGreatS16w
namespace Go.Proofs.YtohdfcnjcpjdcaaGreat
open Go.RowKit
set_option linter.unusedSimpArgs false
theorem OwnSt.Ok.mono {G G' : GW} {s : Sta} {o : OwnSt} (h : o.Ok G s) (hl : G.Le G') : o.Ok G' s := ⟨h.vers, h.upls, fun p hp => (h.vok p hp).mono hl, fun x hx => (h.uok x hx).mono hl⟩
/-- the state's block and rows -/
def OwnSt.hands (g : Nat) (s : Sta) (o : OwnSt) : Hands := ⟨[⟨g, 30, o.cells s⟩], o.rows s⟩
attribute [go_sem] OwnSt.hands OwnSt.cells
/-- what a change returns: what is wrong, or nothing and another state -/
def ChgT (r : Int × Sta) (v : Value) (css : List (List Value)) (R : List Rw) (G : GW) : Prop := v = .int .i64 r.1 ∧ (r.1 = 0 → ∃ o : OwnSt, css = [o.cells r.2] ∧ R = o.rows r.2 ∧ o.Ok G r.2)
def passS (s : Sta) (n : Int) : Int × Sta := if (decide (n < 0) || decide (1073741824 - s.clock < n)) = true then (2, s) else (0, { s with clock := s.clock + n })
set_option maxRecDepth 100000 in
set_option maxHeartbeats 8000000 in
theorem pass_does {g : Nat} {s : Sta} {o : OwnSt} {n : Int} {G0 : GW} (hW : G0.Wf) (hh : HandsOk G0.w (o.hands g s)) (hM : ∀ k, (o.hands g s).A k → G0.M k) (ho : o.Ok G0 s) (hc0 : 0 ≤ s.clock) (hc1 : s.clock ≤ 1073741824) (hn : i64 n) :
  Calls Tryz.prog 106 #[.pointer (some ⟨g, 0, none⟩), .int .i64 n] G0.w (RetH G0 (o.hands g s) (ChgT (passS s n))) := by
 have hml := max_le
 refine enterH (n := 24) 3000 ([.c (.p 0 g 0), .c (.v (.int .i64 n))]) ([⟨0, g, 30, [.v (.int .i64 s.next), .v (.int .i64 s.clock), .v o.bv, .v o.vv, .v o.uv, .v o.qv, .v o.gv]⟩]) rfl hW hh hM Tryz.func106 rfl Tryz.ntmps106 (by simp) ?_
 simp only [go_sem, simprocAttr]
 refine ⟨fun _ => by omega, Wb_mk (fun h1 => ?_) (fun h1 => ?_)⟩
 ·refine fin_retH (G := G0) Tryz.results106 ?_
  simp only [go_sem, simprocAttr]
  intro aa w' _ _
  unfold passS
  rw [if_pos h1]
  exact ⟨rfl, fun q => by simp at q⟩
 ·have h2 := h1
  simp only [Bool.or_eq_false_iff, decide_eq_false_iff_not] at h2
  refine ⟨by omega, ?_⟩
  refine fin_retH (G := G0) Tryz.results106 ?_
  simp only [go_sem, simprocAttr]
  intro aa w' _ hle
  unfold passS
  rw [if_neg (by rw [h1]; simp)]
  exact ⟨rfl, fun _ => ⟨o, rfl, rfl, ⟨ho.vers, ho.upls, (ho.mono (hle G0 (by simp))).vok, (ho.mono (hle G0 (by simp))).uok⟩⟩⟩
/-! ### begin -/
def beginS (s : Sta) (id : Int) (name key : ByteArray) : Int × Sta := if (!decide (id = s.next) || decide (s.next = 1048576)) = true then (2, s) else if (s.upls.length : Int) = 4 then (8, s) else
 (0, { s with next := s.next + 1, upls := s.upls ++ [⟨id, name, key, []⟩] })
/-- a record's value -/
def recV (r : Rec) (vs ps ss : Value) : List Value := [.int .i64 r.kind, .int .i64 r.id, .int .i64 r.n, .string r.name, .string r.key, .string r.rule.pre, .int .i64 r.rule.freeze, .int .i64 r.rule.drop,
 .int .i64 r.ver.id, .string r.ver.bucket, .string r.ver.key, .bool r.ver.null, .bool r.ver.marker, .int .i64 r.ver.size, .int .i64 r.ver.time, .int .i64 r.ver.tier, vs, .int .i64 r.ver.vol, .int .i64 r.ver.at_, .int .i64 r.ver.till,
 .int .i64 r.ask.ver, .int .i64 r.ask.days, .int .i64 r.ask.cls, .int .i64 r.part.n, .int .i64 r.part.size, ps, ss, .int .i64 r.vol, .int .i64 r.at_]
theorem row_form {w : World} {r : Rw} (h : RowIs w r) (hk : r.k ≠ 0) : ∃ A c, r.v = .slice A r.n c ∧ r.n ≤ c ∧ c ≤ maxLen := by
 rcases h with ⟨A, e, h1, _⟩ | h | ⟨q, _⟩
 ·exact ⟨A, 0, by rw [e, h1], by omega, Nat.zero_le _⟩
 ·rcases h.2 with ⟨e1, e2⟩ | ⟨g, cap, cur, e, _, _, h1, h2, _⟩
  ·exact ⟨none, 0, by rw [e1, e2], by omega, Nat.zero_le _⟩
  ·exact ⟨_, cap, e, h1, h2⟩
 ·exact absurd q hk
set_option maxRecDepth 100000 in
set_option maxHeartbeats 8000000 in
theorem begin_does {g : Nat} {s : Sta} {o : OwnSt} {r : Rec} {vs ps ss : Value} {G0 : GW} (hW : G0.Wf) (hh : HandsOk G0.w (o.hands g s)) (hM : ∀ k, (o.hands g s).A k → G0.M k) (ho : o.Ok G0 s) (hn0 : 0 ≤ s.next) (hn1 : s.next ≤ 1048576) (hu : s.upls.length ≤ 100) :
  Calls Tryz.prog 104 #[.pointer (some ⟨g, 0, none⟩), .agg (recV r vs ps ss).toArray] G0.w (RetH G0 (o.hands g s) (ChgT (beginS s r.id r.name r.key))) := by
 have hml := max_le
 obtain ⟨bv, qv, gv, vv, uv, vx, ux⟩ := o
 obtain ⟨Au, cu, q1, _⟩ := row_form (hh.rows (uplRow uv ux) (by simp [OwnSt.hands, OwnSt.rows])) (by show (4 : Nat) ≠ 0; decide)
 obtain rfl : uv = .slice Au ux.length cu := q1
 have hul : s.upls.length = ux.length := by have : s.upls = ux.map (·.u) := ho.upls; rw [this, List.length_map]
 refine enterH (n := 50) 3000 ([.c (.p 0 g 0), .c (.v (.agg (recV r vs ps ss).toArray))]) ([⟨0, g, 30, [.v (.int .i64 s.next), .v (.int .i64 s.clock), .v bv, .v vv, .v (.slice Au ux.length cu), .v qv, .v gv]⟩]) rfl hW hh hM Tryz.func104 rfl Tryz.ntmps104 (by simp) ?_
 simp only [go_sem, simprocAttr, recV]
 intro g1
 refine draw_ok (N := 3000) (.take 0 (.take 1 (.take 2 (.take 3 (.take 4 (.take 5 (.take 6 (.take 7 (.take 8 (.take 9 (.take 10 (.take 11 (.take 12 (.take 13 (.take 14 .done))))))))))))))) [] (QOk_body _ _ _) follows_mixed (by kernel_rfl) (by kernel_rfl) ?_
 simp only [go_sem, simprocAttr]
 refine Wb_mk (fun h1 => ?_) (fun h1 => ?_)
 ·refine fin_retH (G := G0) Tryz.results104 ?_
  simp only [go_sem, simprocAttr]
  intro aa w' _ _
  unfold beginS
  rw [if_pos h1]
  exact ⟨rfl, fun q => by simp at q⟩
 ·refine Wb_mk (fun h2 => ?_) (fun h2 => ?_)
  ·refine fin_retH (G := G0) Tryz.results104 ?_
   simp only [go_sem, simprocAttr]
   intro aa w' _ _
   unfold beginS
   rw [if_neg (by rw [h1]; simp), if_pos (by rw [hul]; simpa using h2)]
   exact ⟨rfl, fun q => by simp at q⟩
  ·refine ⟨by omega, ?_⟩
   refine row_ok 70 3 ?_
   refine draw_ok (N := 3000) (.take 0 (.take 1 (.take 2 (.take 3 (.take 5 (.take 6 (.take 7 (.take 8 (.take 9 (.take 10 (.take 11 (.alt 4 (.alt 12 (.alt 13 (.take 14 (.take 15 (.alt 16 .done .last))) .last) .last) (.alt 12 (.alt 4 (.alt 13 (.take 14 (.take 15 (.alt 16 .done .last))) .last) .last) .last))))))))))))) [0] (QOk_body _ _ _) follows_mixed (by kernel_rfl) (by kernel_rfl) ?_
   simp only [go_sem, simprocAttr, OwnSt.rows]
   refine ⟨?_, fun g2 => ?_⟩
   ·intro g2
    refine any_ok2 (N := 3000) (append_does (R1 := ⟨.slice none 0 0, 70, 3, 0, []⟩ :: (ux.map UX.row).reverse) (news := uplX ⟨⟨r.id, r.name, r.key, []⟩, .slice none 0 0, []⟩) rfl tySlice26 tyApp89 rfl rfl rfl rfl (dk rfl) (uplX_one _ _ _ _ _) (by unfold maxLen; omega) (by omega) (fun G hG => tsl_blk hG (b := ⟨2, g2, 89, [.v (.int .i64 r.id), .v (.string r.name), .v (.string r.key), .v (.slice none 0 0)]⟩) (by simp) rfl (by unfold maxLen; omega))) (QOk_body _ _ _) rfl (by first | exact .inl rfl | exact .inr ⟨_, _, rfl, rfl⟩) (by intro _ hK; first | (obtain ⟨_, _, _, _, rfl⟩ := hK; exact ⟨rfl, fun _ h => h⟩) | (obtain ⟨_, _, rfl⟩ := hK; exact ⟨rfl, fun _ h => h⟩) | (obtain ⟨_, _, _, _, _, _, rfl⟩ := hK; exact ⟨rfl, fun _ h => List.mem_cons_of_mem _ h⟩) | (obtain ⟨_, _, _, _, _, _, _, rfl⟩ := hK; exact ⟨rfl, fun _ h => List.mem_cons_of_mem _ h⟩) | (obtain rfl := hK; exact ⟨rfl, fun _ h => h⟩)) ?_
    rintro _ ⟨A', c', rfl⟩
    simp only [go_sem, simprocAttr]
    refine fin_retH (G := G0) Tryz.results104 ?_
    simp only [go_sem, simprocAttr]
    intro aa w' _ hle
    unfold beginS
    rw [if_neg (by rw [h1]; simp), if_neg (by rw [hul]; simpa using h2)]
    have h0 := ho.mono (hle G0 (by simp))
    refine ⟨rfl, fun _ => ⟨⟨bv, qv, gv, vv, .slice A' (ux.length + 1) c', vx, ux ++ [⟨⟨r.id, r.name, r.key, []⟩, .slice none 0 0, []⟩]⟩, rfl, ?_, ⟨ho.vers, by rw [List.map_append]; exact congrArg (· ++ _) ho.upls, h0.vok, fun x hx => ?_⟩⟩⟩
    ·simp only [OwnSt.rows, List.map_append, List.reverse_append, uplRow, List.length_append, List.flatMap_append]
     rfl
    ·rcases List.mem_append.1 hx with hx | hx
     ·exact h0.uok x hx
     ·rw [List.mem_singleton.1 hx]
      exact ⟨rfl, fun p hp => by cases hp⟩
   ·refine any_ok2 (N := 3000) (append_does (R1 := ⟨.slice none 0 0, 70, 3, 0, []⟩ :: (ux.map UX.row).reverse) (news := uplX ⟨⟨r.id, r.name, r.key, []⟩, .slice none 0 0, []⟩) rfl tySlice26 tyApp89 rfl rfl rfl rfl (dk rfl) (uplX_one _ _ _ _ _) (by unfold maxLen; omega) (by omega) (fun G hG => tsl_blk hG (b := ⟨2, g2, 89, [.v (.int .i64 r.id), .v (.string r.name), .v (.string r.key), .v (.slice none 0 0)]⟩) (by simp) rfl (by unfold maxLen; omega))) (QOk_body _ _ _) rfl (by first | exact .inl rfl | exact .inr ⟨_, _, rfl, rfl⟩) (by intro _ hK; first | (obtain ⟨_, _, _, _, rfl⟩ := hK; exact ⟨rfl, fun _ h => h⟩) | (obtain ⟨_, _, rfl⟩ := hK; exact ⟨rfl, fun _ h => h⟩) | (obtain ⟨_, _, _, _, _, _, rfl⟩ := hK; exact ⟨rfl, fun _ h => List.mem_cons_of_mem _ h⟩) | (obtain ⟨_, _, _, _, _, _, _, rfl⟩ := hK; exact ⟨rfl, fun _ h => List.mem_cons_of_mem _ h⟩) | (obtain rfl := hK; exact ⟨rfl, fun _ h => h⟩)) ?_
    rintro _ ⟨A', c', rfl⟩
    simp only [go_sem, simprocAttr]
    refine fin_retH (G := G0) Tryz.results104 ?_
    simp only [go_sem, simprocAttr]
    intro aa w' _ hle
    unfold beginS
    rw [if_neg (by rw [h1]; simp), if_neg (by rw [hul]; simpa using h2)]
    have h0 := ho.mono (hle G0 (by simp))
    refine ⟨rfl, fun _ => ⟨⟨bv, qv, gv, vv, .slice A' (ux.length + 1) c', vx, ux ++ [⟨⟨r.id, r.name, r.key, []⟩, .slice none 0 0, []⟩]⟩, rfl, ?_, ⟨ho.vers, by rw [List.map_append]; exact congrArg (· ++ _) ho.upls, h0.vok, fun x hx => ?_⟩⟩⟩
    ·simp only [OwnSt.rows, List.map_append, List.reverse_append, uplRow, List.length_append, List.flatMap_append]
     rfl
    ·rcases List.mem_append.1 hx with hx | hx
     ·exact h0.uok x hx
     ·rw [List.mem_singleton.1 hx]
      exact ⟨rfl, fun p hp => by cases hp⟩
end Go.Proofs.YtohdfcnjcpjdcaaGreat
