/- CheckRecord: may a record be written? Conditions: as each law states them. -/
import Derived.Test.YtohdfcnjcpjdcaaDoorQ5q
namespace Go.Proofs.YtohdfcnjcpjdcaaDoor
open Go.RowKit
set_option linter.unusedSimpArgs false
def threeB (r : Rec) : Bool := fitsB 16777215 [r.id, r.ver.id, r.ask.ver]
def twoB (r : Rec) : Bool := fitsB 65535 [r.at_, r.ver.size, r.ver.at_, r.ask.days, r.part.size]
def oneB (r : Rec) : Bool := fitsB 255 [r.vol, r.ver.tier, r.ver.vol, r.ask.cls, r.part.n]
def fourB (r : Rec) : Bool := (fitsB 4294967295 [r.n, r.rule.freeze + 1, r.rule.drop + 1, r.ver.time, r.ver.till] && decide (-1 ≤ r.rule.freeze)) && decide (-1 ≤ r.rule.drop)
def kindB (r : Rec) : Bool := decide (r.kind < 1) || decide (14 < r.kind)
def rangeB (r : Rec) : Bool := ((!oneB r || !twoB r) || !threeB r) || !fourB r
/-- what CheckRecord answers -/
def chk (r : Rec) : Int := if kindB r = true then 3 else if rangeB r = true then 2 else if ((!namesB r.secs [r.name, r.key, r.rule.pre, r.ver.bucket, r.ver.key] || !namesB r.ver.secs []) || !namesB r.part.secs []) = true then 1 else if bareB (kd r.kind) r = false then 4 else 0
set_option maxRecDepth 100000 in
set_option maxHeartbeats 64000000 in
theorem chkRec_does {r : Rec} {vs ps ss : Value} {G0 : GW} (hW : G0.Wf) (h : RxG G0 r vs ps ss) (hK : KindsG G0) (hf : i64 (r.rule.freeze + 1)) (hd : i64 (r.rule.drop + 1)) :
    Calls Tryd.prog 7 #[.agg (recV r vs ps ss).toArray] G0.w (Ret G0 fun y _ => y = .int .i64 (chk r)) := by
  obtain ⟨A, c, rfl, hc1, hc2⟩ := Sq.form h.v
  obtain ⟨B, d, rfl, hd1, hd2⟩ := Sq.form h.p
  obtain ⟨C, e, rfl, he1, he2⟩ := Sq.form h.s
  have hml := max_le
  obtain ⟨hf1, hf2⟩ := hf
  obtain ⟨hd3, hd4⟩ := hd
  refine enterS (G := G0) (n := 129) 3000 hW Tryd.func7 rfl Tryd.ntmps7 (by simp) ?_
  simp only [go_sem, simprocAttr, recV]
  intro g
  refine Wb_mk (fun hkb => ?_) (fun hkb => ?_)
  · refine fin_ret (G := G0) Tryd.results7 ?_
    simp only [go_sem, simprocAttr]
    intro aa w' _ _
    unfold chk
    have hkb' : kindB r = true := hkb
    rw [if_pos hkb']
    rfl
  refine draw_ok (N := 3000) (.take 0 (.take 1 (.take 2 (.take 3 (.alt 4 (.alt 5 (.alt 6 (.alt 7 .done .last) .last) .last) (.alt 5 (.alt 4 (.alt 6 (.alt 7 .done .last) .last) .last) .last)))))) [] (QOk_body _ _ _) follows_mixed (by kernel_rfl) (by kernel_rfl) ?_
  simp only [go_sem, simprocAttr]
  refine ⟨?_, ?_⟩
  · intro g1 g2
    intro g3
    refine plain_ok (N := 3000) (call_does (fun y _ => y = .bool (fitsB 16777215 [r.id, r.ver.id, r.ask.ver])) rfl rfl (by kernel_rfl) rfl (dk rfl) (fun G hG => Ret.anyM (M' := (G.sub [g3]).M) (fits_does (l := [r.id, r.ver.id, r.ask.ver]) (G0 := G.sub [g3]) (hG.wf.sub [g3]) (IntsG.of (l := [r.id, r.ver.id, r.ask.ver]) (hG.slG (b := ⟨3, g3, 3, [.v (.int .i64 r.id), .v (.int .i64 r.ver.id), .v (.int .i64 r.ask.ver)]⟩) (ks := [g3]) (by simp) (by simp) rfl (by show (3 : Nat) ≤ maxLen; unfold maxLen; omega)))))) (QOk_body _ _ _) (by first | exact .inl rfl | exact .inr ⟨_, _, rfl, rfl⟩) ?_
    rintro _ ⟨_, G3, rfl, hn3, rfl⟩
    clear hn3
    simp only [go_sem, simprocAttr]
    intro g4
    refine plain_ok (N := 3000) (call_does (fun y _ => y = .bool (fitsB 65535 [r.at_, r.ver.size, r.ver.at_, r.ask.days, r.part.size])) rfl rfl (by kernel_rfl) rfl (dk rfl) (fun G hG => Ret.anyM (M' := (G.sub [g4]).M) (fits_does (l := [r.at_, r.ver.size, r.ver.at_, r.ask.days, r.part.size]) (G0 := G.sub [g4]) (hG.wf.sub [g4]) (IntsG.of (l := [r.at_, r.ver.size, r.ver.at_, r.ask.days, r.part.size]) (hG.slG (b := ⟨4, g4, 3, [.v (.int .i64 r.at_), .v (.int .i64 r.ver.size), .v (.int .i64 r.ver.at_), .v (.int .i64 r.ask.days), .v (.int .i64 r.part.size)]⟩) (ks := [g4]) (by simp) (by simp) rfl (by show (5 : Nat) ≤ maxLen; unfold maxLen; omega)))))) (QOk_body _ _ _) (by first | exact .inl rfl | exact .inr ⟨_, _, rfl, rfl⟩) ?_
    rintro _ ⟨_, G4, rfl, hn4, rfl⟩
    clear hn4
    simp only [go_sem, simprocAttr]
    intro g5
    refine plain_ok (N := 3000) (call_does (fun y _ => y = .bool (fitsB 255 [r.vol, r.ver.tier, r.ver.vol, r.ask.cls, r.part.n])) rfl rfl (by kernel_rfl) rfl (dk rfl) (fun G hG => Ret.anyM (M' := (G.sub [g5]).M) (fits_does (l := [r.vol, r.ver.tier, r.ver.vol, r.ask.cls, r.part.n]) (G0 := G.sub [g5]) (hG.wf.sub [g5]) (IntsG.of (l := [r.vol, r.ver.tier, r.ver.vol, r.ask.cls, r.part.n]) (hG.slG (b := ⟨5, g5, 3, [.v (.int .i64 r.vol), .v (.int .i64 r.ver.tier), .v (.int .i64 r.ver.vol), .v (.int .i64 r.ask.cls), .v (.int .i64 r.part.n)]⟩) (ks := [g5]) (by simp) (by simp) rfl (by show (5 : Nat) ≤ maxLen; unfold maxLen; omega)))))) (QOk_body _ _ _) (by first | exact .inl rfl | exact .inr ⟨_, _, rfl, rfl⟩) ?_
    rintro _ ⟨_, G5, rfl, hn5, rfl⟩
    clear hn5
    simp only [go_sem, simprocAttr]
    refine ⟨⟨by omega, by omega⟩, ?_⟩
    refine ⟨⟨by omega, by omega⟩, ?_⟩
    intro g6
    refine plain_ok (N := 3000) (call_does (fun y _ => y = .bool (fitsB 4294967295 [r.n, r.rule.freeze + 1, r.rule.drop + 1, r.ver.time, r.ver.till])) rfl rfl (by kernel_rfl) rfl (dk rfl) (fun G hG => Ret.anyM (M' := (G.sub [g6]).M) (fits_does (l := [r.n, r.rule.freeze + 1, r.rule.drop + 1, r.ver.time, r.ver.till]) (G0 := G.sub [g6]) (hG.wf.sub [g6]) (IntsG.of (l := [r.n, r.rule.freeze + 1, r.rule.drop + 1, r.ver.time, r.ver.till]) (hG.slG (b := ⟨6, g6, 3, [.v (.int .i64 r.n), .v (.int .i64 (r.rule.freeze + 1)), .v (.int .i64 (r.rule.drop + 1)), .v (.int .i64 r.ver.time), .v (.int .i64 r.ver.till)]⟩) (ks := [g6]) (by simp) (by simp) rfl (by show (5 : Nat) ≤ maxLen; unfold maxLen; omega)))))) (QOk_body _ _ _) (by first | exact .inl rfl | exact .inr ⟨_, _, rfl, rfl⟩) ?_
    rintro _ ⟨_, G6, rfl, hn6, rfl⟩
    clear hn6
    simp only [go_sem, simprocAttr]
    refine Wb_mk (fun hrb => ?_) (fun hrb => ?_)
    · refine fin_ret (G := G0) Tryd.results7 ?_
      simp only [go_sem, simprocAttr]
      intro aa w' _ _
      unfold chk
      have hkb' : ¬ kindB r = true := by rw [show kindB r = false from hkb]; decide
      have hrb' : rangeB r = true := hrb
      rw [if_neg hkb', if_pos hrb']
      rfl
    intro g7
    refine plain_ok (N := 3000) (call_does (fun y _ => y = .bool (namesB r.secs [r.name, r.key, r.rule.pre, r.ver.bucket, r.ver.key])) rfl rfl (by kernel_rfl) rfl (dk rfl) (fun G hG => Ret.anyM (M' := (G.sub [g7]).M) (names_does (l := [r.name, r.key, r.rule.pre, r.ver.bucket, r.ver.key]) (G0 := G.sub [g7]) (hG.wf.sub [g7]) (h.s.mono ((hG.le G0 (by simp)).trans (GW.le_sub _ _))) (StrsG.of (l := [r.name, r.key, r.rule.pre, r.ver.bucket, r.ver.key]) (hG.slG (b := ⟨7, g7, 9, [.v (.string r.name), .v (.string r.key), .v (.string r.rule.pre), .v (.string r.ver.bucket), .v (.string r.ver.key)]⟩) (ks := [g7]) (by simp) (by simp) rfl (by show (5 : Nat) ≤ maxLen; unfold maxLen; omega)))))) (QOk_body _ _ _) (by first | exact .inl rfl | exact .inr ⟨_, _, rfl, rfl⟩) ?_
    rintro _ ⟨_, G7, rfl, hn7, rfl⟩
    clear hn7
    have hkb' : ¬ kindB r = true := by rw [show kindB r = false from hkb]; decide
    have hrb' : ¬ rangeB r = true := by rw [show rangeB r = false from hrb]; decide
    have nil_ : ∀ G : GW, StrsG G (.slice none 0 0) [] := fun G => StrsG.of (l := []) (Sl.nil _ _ _)
    cases hn1 : namesB r.secs [r.name, r.key, r.rule.pre, r.ver.bucket, r.ver.key] with
    | false =>
      simp only [go_sem, simprocAttr, Bool.not_false]
      refine fin_ret (G := G0) Tryd.results7 ?_
      simp only [go_sem, simprocAttr]
      intro aa w' _ _
      unfold chk
      rw [if_neg hkb', if_neg hrb', if_pos (by rw [hn1]; rfl)]
      rfl
    | true =>
      simp only [go_sem, simprocAttr, Bool.not_true]
      refine plain_ok (N := 3000) (call_does (fun y _ => y = .bool (namesB r.ver.secs [])) rfl rfl (by kernel_rfl) rfl (dk rfl) (fun G hG => names_does (l := []) hG.wf (h.v.mono (hG.le G0 (by simp))) (nil_ _))) (QOk_body _ _ _) (by first | exact .inl rfl | exact .inr ⟨_, _, rfl, rfl⟩) ?_
      rintro _ ⟨_, G8, rfl, hn8, rfl⟩
      clear hn8
      cases hn2 : namesB r.ver.secs [] with
      | false =>
        simp only [go_sem, simprocAttr, Bool.not_false]
        refine fin_ret (G := G0) Tryd.results7 ?_
        simp only [go_sem, simprocAttr]
        intro aa w' _ _
        unfold chk
        rw [if_neg hkb', if_neg hrb', if_pos (by rw [hn1, hn2]; rfl)]
        rfl
      | true =>
        simp only [go_sem, simprocAttr, Bool.not_true]
        refine plain_ok (N := 3000) (call_does (fun y _ => y = .bool (namesB r.part.secs [])) rfl rfl (by kernel_rfl) rfl (dk rfl) (fun G hG => names_does (l := []) hG.wf (h.p.mono (hG.le G0 (by simp))) (nil_ _))) (QOk_body _ _ _) (by first | exact .inl rfl | exact .inr ⟨_, _, rfl, rfl⟩) ?_
        rintro _ ⟨_, G9, rfl, hn9, rfl⟩
        clear hn9
        cases hn3 : namesB r.part.secs [] with
        | false =>
          simp only [go_sem, simprocAttr, Bool.not_false]
          refine fin_ret (G := G0) Tryd.results7 ?_
          simp only [go_sem, simprocAttr]
          intro aa w' _ _
          unfold chk
          rw [if_neg hkb', if_neg hrb', if_pos (by rw [hn1, hn2, hn3]; rfl)]
          rfl
        | true =>
          have hkd : 1 ≤ r.kind ∧ r.kind ≤ 14 := by
            unfold kindB at hkb'
            simp only [Bool.or_eq_true, decide_eq_true_eq] at hkb'
            omega
          have hns : ¬ ((!namesB r.secs [r.name, r.key, r.rule.pre, r.ver.bucket, r.ver.key] || !namesB r.ver.secs []) || !namesB r.part.secs []) = true := by rw [hn1, hn2, hn3]; decide
          simp only [go_sem, simprocAttr, Bool.not_true]
          refine plain_ok (N := 3000) (call_does (fun y _ => y = .bool (bareB (kd r.kind) r)) rfl rfl (by kernel_rfl) rfl (dk rfl) (fun G hG => bare_does hG.wf (h.mono (hG.le G0 (by simp))) (BlkG.mono hK (hG.le G0 (by simp))) hkd)) (QOk_body _ _ _) (by first | exact .inl rfl | exact .inr ⟨_, _, rfl, rfl⟩) ?_
          rintro _ ⟨_, G10, rfl, hn10, rfl⟩
          clear hn10
          cases hbb : bareB (kd r.kind) r with
          | false =>
            simp only [go_sem, simprocAttr, Bool.not_false]
            refine fin_ret (G := G0) Tryd.results7 ?_
            simp only [go_sem, simprocAttr]
            intro aa w' _ _
            unfold chk
            rw [if_neg hkb', if_neg hrb', if_neg hns, if_pos hbb]
            rfl
          | true =>
            simp only [go_sem, simprocAttr, Bool.not_true]
            refine fin_ret (G := G0) Tryd.results7 ?_
            simp only [go_sem, simprocAttr]
            intro aa w' _ _
            unfold chk
            rw [if_neg hkb', if_neg hrb', if_neg hns, if_neg (by rw [hbb]; decide)]
            rfl
  · intro g1 g2
    intro g3
    refine plain_ok (N := 3000) (call_does (fun y _ => y = .bool (fitsB 16777215 [r.id, r.ver.id, r.ask.ver])) rfl rfl (by kernel_rfl) rfl (dk rfl) (fun G hG => Ret.anyM (M' := (G.sub [g3]).M) (fits_does (l := [r.id, r.ver.id, r.ask.ver]) (G0 := G.sub [g3]) (hG.wf.sub [g3]) (IntsG.of (l := [r.id, r.ver.id, r.ask.ver]) (hG.slG (b := ⟨3, g3, 3, [.v (.int .i64 r.id), .v (.int .i64 r.ver.id), .v (.int .i64 r.ask.ver)]⟩) (ks := [g3]) (by simp) (by simp) rfl (by show (3 : Nat) ≤ maxLen; unfold maxLen; omega)))))) (QOk_body _ _ _) (by first | exact .inl rfl | exact .inr ⟨_, _, rfl, rfl⟩) ?_
    rintro _ ⟨_, G3, rfl, hn3, rfl⟩
    clear hn3
    simp only [go_sem, simprocAttr]
    intro g4
    refine plain_ok (N := 3000) (call_does (fun y _ => y = .bool (fitsB 65535 [r.at_, r.ver.size, r.ver.at_, r.ask.days, r.part.size])) rfl rfl (by kernel_rfl) rfl (dk rfl) (fun G hG => Ret.anyM (M' := (G.sub [g4]).M) (fits_does (l := [r.at_, r.ver.size, r.ver.at_, r.ask.days, r.part.size]) (G0 := G.sub [g4]) (hG.wf.sub [g4]) (IntsG.of (l := [r.at_, r.ver.size, r.ver.at_, r.ask.days, r.part.size]) (hG.slG (b := ⟨4, g4, 3, [.v (.int .i64 r.at_), .v (.int .i64 r.ver.size), .v (.int .i64 r.ver.at_), .v (.int .i64 r.ask.days), .v (.int .i64 r.part.size)]⟩) (ks := [g4]) (by simp) (by simp) rfl (by show (5 : Nat) ≤ maxLen; unfold maxLen; omega)))))) (QOk_body _ _ _) (by first | exact .inl rfl | exact .inr ⟨_, _, rfl, rfl⟩) ?_
    rintro _ ⟨_, G4, rfl, hn4, rfl⟩
    clear hn4
    simp only [go_sem, simprocAttr]
    intro g5
    refine plain_ok (N := 3000) (call_does (fun y _ => y = .bool (fitsB 255 [r.vol, r.ver.tier, r.ver.vol, r.ask.cls, r.part.n])) rfl rfl (by kernel_rfl) rfl (dk rfl) (fun G hG => Ret.anyM (M' := (G.sub [g5]).M) (fits_does (l := [r.vol, r.ver.tier, r.ver.vol, r.ask.cls, r.part.n]) (G0 := G.sub [g5]) (hG.wf.sub [g5]) (IntsG.of (l := [r.vol, r.ver.tier, r.ver.vol, r.ask.cls, r.part.n]) (hG.slG (b := ⟨5, g5, 3, [.v (.int .i64 r.vol), .v (.int .i64 r.ver.tier), .v (.int .i64 r.ver.vol), .v (.int .i64 r.ask.cls), .v (.int .i64 r.part.n)]⟩) (ks := [g5]) (by simp) (by simp) rfl (by show (5 : Nat) ≤ maxLen; unfold maxLen; omega)))))) (QOk_body _ _ _) (by first | exact .inl rfl | exact .inr ⟨_, _, rfl, rfl⟩) ?_
    rintro _ ⟨_, G5, rfl, hn5, rfl⟩
    clear hn5
    simp only [go_sem, simprocAttr]
    refine ⟨⟨by omega, by omega⟩, ?_⟩
    refine ⟨⟨by omega, by omega⟩, ?_⟩
    intro g6
    refine plain_ok (N := 3000) (call_does (fun y _ => y = .bool (fitsB 4294967295 [r.n, r.rule.freeze + 1, r.rule.drop + 1, r.ver.time, r.ver.till])) rfl rfl (by kernel_rfl) rfl (dk rfl) (fun G hG => Ret.anyM (M' := (G.sub [g6]).M) (fits_does (l := [r.n, r.rule.freeze + 1, r.rule.drop + 1, r.ver.time, r.ver.till]) (G0 := G.sub [g6]) (hG.wf.sub [g6]) (IntsG.of (l := [r.n, r.rule.freeze + 1, r.rule.drop + 1, r.ver.time, r.ver.till]) (hG.slG (b := ⟨6, g6, 3, [.v (.int .i64 r.n), .v (.int .i64 (r.rule.freeze + 1)), .v (.int .i64 (r.rule.drop + 1)), .v (.int .i64 r.ver.time), .v (.int .i64 r.ver.till)]⟩) (ks := [g6]) (by simp) (by simp) rfl (by show (5 : Nat) ≤ maxLen; unfold maxLen; omega)))))) (QOk_body _ _ _) (by first | exact .inl rfl | exact .inr ⟨_, _, rfl, rfl⟩) ?_
    rintro _ ⟨_, G6, rfl, hn6, rfl⟩
    clear hn6
    simp only [go_sem, simprocAttr]
    refine Wb_mk (fun hrb => ?_) (fun hrb => ?_)
    · refine fin_ret (G := G0) Tryd.results7 ?_
      simp only [go_sem, simprocAttr]
      intro aa w' _ _
      unfold chk
      have hkb' : ¬ kindB r = true := by rw [show kindB r = false from hkb]; decide
      have hrb' : rangeB r = true := hrb
      rw [if_neg hkb', if_pos hrb']
      rfl
    intro g7
    refine plain_ok (N := 3000) (call_does (fun y _ => y = .bool (namesB r.secs [r.name, r.key, r.rule.pre, r.ver.bucket, r.ver.key])) rfl rfl (by kernel_rfl) rfl (dk rfl) (fun G hG => Ret.anyM (M' := (G.sub [g7]).M) (names_does (l := [r.name, r.key, r.rule.pre, r.ver.bucket, r.ver.key]) (G0 := G.sub [g7]) (hG.wf.sub [g7]) (h.s.mono ((hG.le G0 (by simp)).trans (GW.le_sub _ _))) (StrsG.of (l := [r.name, r.key, r.rule.pre, r.ver.bucket, r.ver.key]) (hG.slG (b := ⟨7, g7, 9, [.v (.string r.name), .v (.string r.key), .v (.string r.rule.pre), .v (.string r.ver.bucket), .v (.string r.ver.key)]⟩) (ks := [g7]) (by simp) (by simp) rfl (by show (5 : Nat) ≤ maxLen; unfold maxLen; omega)))))) (QOk_body _ _ _) (by first | exact .inl rfl | exact .inr ⟨_, _, rfl, rfl⟩) ?_
    rintro _ ⟨_, G7, rfl, hn7, rfl⟩
    clear hn7
    have hkb' : ¬ kindB r = true := by rw [show kindB r = false from hkb]; decide
    have hrb' : ¬ rangeB r = true := by rw [show rangeB r = false from hrb]; decide
    have nil_ : ∀ G : GW, StrsG G (.slice none 0 0) [] := fun G => StrsG.of (l := []) (Sl.nil _ _ _)
    cases hn1 : namesB r.secs [r.name, r.key, r.rule.pre, r.ver.bucket, r.ver.key] with
    | false =>
      simp only [go_sem, simprocAttr, Bool.not_false]
      refine fin_ret (G := G0) Tryd.results7 ?_
      simp only [go_sem, simprocAttr]
      intro aa w' _ _
      unfold chk
      rw [if_neg hkb', if_neg hrb', if_pos (by rw [hn1]; rfl)]
      rfl
    | true =>
      simp only [go_sem, simprocAttr, Bool.not_true]
      refine plain_ok (N := 3000) (call_does (fun y _ => y = .bool (namesB r.ver.secs [])) rfl rfl (by kernel_rfl) rfl (dk rfl) (fun G hG => names_does (l := []) hG.wf (h.v.mono (hG.le G0 (by simp))) (nil_ _))) (QOk_body _ _ _) (by first | exact .inl rfl | exact .inr ⟨_, _, rfl, rfl⟩) ?_
      rintro _ ⟨_, G8, rfl, hn8, rfl⟩
      clear hn8
      cases hn2 : namesB r.ver.secs [] with
      | false =>
        simp only [go_sem, simprocAttr, Bool.not_false]
        refine fin_ret (G := G0) Tryd.results7 ?_
        simp only [go_sem, simprocAttr]
        intro aa w' _ _
        unfold chk
        rw [if_neg hkb', if_neg hrb', if_pos (by rw [hn1, hn2]; rfl)]
        rfl
      | true =>
        simp only [go_sem, simprocAttr, Bool.not_true]
        refine plain_ok (N := 3000) (call_does (fun y _ => y = .bool (namesB r.part.secs [])) rfl rfl (by kernel_rfl) rfl (dk rfl) (fun G hG => names_does (l := []) hG.wf (h.p.mono (hG.le G0 (by simp))) (nil_ _))) (QOk_body _ _ _) (by first | exact .inl rfl | exact .inr ⟨_, _, rfl, rfl⟩) ?_
        rintro _ ⟨_, G9, rfl, hn9, rfl⟩
        clear hn9
        cases hn3 : namesB r.part.secs [] with
        | false =>
          simp only [go_sem, simprocAttr, Bool.not_false]
          refine fin_ret (G := G0) Tryd.results7 ?_
          simp only [go_sem, simprocAttr]
          intro aa w' _ _
          unfold chk
          rw [if_neg hkb', if_neg hrb', if_pos (by rw [hn1, hn2, hn3]; rfl)]
          rfl
        | true =>
          have hkd : 1 ≤ r.kind ∧ r.kind ≤ 14 := by
            unfold kindB at hkb'
            simp only [Bool.or_eq_true, decide_eq_true_eq] at hkb'
            omega
          have hns : ¬ ((!namesB r.secs [r.name, r.key, r.rule.pre, r.ver.bucket, r.ver.key] || !namesB r.ver.secs []) || !namesB r.part.secs []) = true := by rw [hn1, hn2, hn3]; decide
          simp only [go_sem, simprocAttr, Bool.not_true]
          refine plain_ok (N := 3000) (call_does (fun y _ => y = .bool (bareB (kd r.kind) r)) rfl rfl (by kernel_rfl) rfl (dk rfl) (fun G hG => bare_does hG.wf (h.mono (hG.le G0 (by simp))) (BlkG.mono hK (hG.le G0 (by simp))) hkd)) (QOk_body _ _ _) (by first | exact .inl rfl | exact .inr ⟨_, _, rfl, rfl⟩) ?_
          rintro _ ⟨_, G10, rfl, hn10, rfl⟩
          clear hn10
          cases hbb : bareB (kd r.kind) r with
          | false =>
            simp only [go_sem, simprocAttr, Bool.not_false]
            refine fin_ret (G := G0) Tryd.results7 ?_
            simp only [go_sem, simprocAttr]
            intro aa w' _ _
            unfold chk
            rw [if_neg hkb', if_neg hrb', if_neg hns, if_pos hbb]
            rfl
          | true =>
            simp only [go_sem, simprocAttr, Bool.not_true]
            refine fin_ret (G := G0) Tryd.results7 ?_
            simp only [go_sem, simprocAttr]
            intro aa w' _ _
            unfold chk
            rw [if_neg hkb', if_neg hrb', if_neg hns, if_neg (by rw [hbb]; decide)]
            rfl
end Go.Proofs.YtohdfcnjcpjdcaaDoor
