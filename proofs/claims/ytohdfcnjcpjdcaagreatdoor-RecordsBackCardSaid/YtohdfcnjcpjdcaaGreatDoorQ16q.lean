/- Two readings of one record are told the same. Conditions: as each law states them. -/
import Derived.Test.YtohdfcnjcpjdcaaGreatDoorQ15q
import Derived.Test.YtohdfcnjcpjdcaaGreatDoorW20q
namespace Go.Proofs.YtohdfcnjcpjdcaaGreatDoor
open Go.RowKit
set_option linter.unusedSimpArgs false
set_option maxRecDepth 100000 in
set_option maxHeartbeats 16000000 in
theorem sameRec_does {r : Rec} {vs ps ss vs' ps' ss' : Value} {G0 : GW} (hW : G0.Wf) (h : RxG G0 r vs ps ss) (h' : RxG G0 r vs' ps' ss') :
  Calls Tryz.prog 9 #[.agg (recV r vs ps ss).toArray, .agg (recV r vs' ps' ss').toArray] G0.w (Ret G0 fun y _ => y = .bool true) := by
 obtain ⟨A, c, rfl, _, _⟩ := Sq.form h.v
 obtain ⟨B, d, rfl, _, _⟩ := Sq.form h.p
 obtain ⟨C, e, rfl, _, _⟩ := Sq.form h.s
 obtain ⟨A', c', rfl, _, _⟩ := Sq.form h'.v
 obtain ⟨B', d', rfl, _, _⟩ := Sq.form h'.p
 obtain ⟨C', e', rfl, _, _⟩ := Sq.form h'.s
 have hml := max_le
 have hru : ruleB r.rule r.rule = true := (ruleB_iff _ _).2 rfl
 have hak : askB r.ask r.ask = true := (askB_iff _ _).2 rfl
 refine enterS (G := G0) (n := 87) 3000 hW Tryz.func9 rfl Tryz.ntmps9 (by simp) ?_
 simp only [go_sem, simprocAttr, recV]
 intro g1 g2
 simp only [go_sem, simprocAttr, List.append_eq, List.cons_append, List.nil_append, beq_self_eq_true]
 refine wgXq_do rfl rfl rfl ?_
 refine pk (cmpq_does (vx := .a [.v (.string r.rule.pre), .v (.int .i64 r.rule.freeze), .v (.int .i64 r.rule.drop)]) (vy := .a [.v (.string r.rule.pre), .v (.int .i64 r.rule.freeze), .v (.int .i64 r.rule.drop)]) (r := ruleB r.rule r.rule) rfl rfl rfl (fun w => rulq_guard _ _ r.rule r.rule w) (fun w => rulq_eql r.rule r.rule w) (dk rfl)) ?_
 rintro _ rfl
 rw [hru]
 simp only [go_sem, simprocAttr, List.append_eq, List.cons_append, List.nil_append, beq_self_eq_true]
 refine wgXq_do rfl rfl rfl ?_
 refine pk (cmpq_does (vx := .a [.v (.int .i64 r.ask.ver), .v (.int .i64 r.ask.days), .v (.int .i64 r.ask.cls)]) (vy := .a [.v (.int .i64 r.ask.ver), .v (.int .i64 r.ask.days), .v (.int .i64 r.ask.cls)]) (r := askB r.ask r.ask) rfl rfl rfl (fun w => askq_guard _ _ r.ask r.ask w) (fun w => askq_eql r.ask r.ask w) (dk rfl)) ?_
 rintro _ rfl
 rw [hak]
 simp only [go_sem, simprocAttr, List.append_eq, List.cons_append, List.nil_append, beq_self_eq_true]
 refine pk (call_does (fun y _ => y = .bool true) rfl rfl (by kernel_rfl) rfl (dk rfl) (fun G hG => sameVersion_does (x := r.ver) hG.wf (h.v.mono (hG.le G0 (by simp))) (h'.v.mono (hG.le G0 (by simp))))) ?_
 rintro _ ⟨_, G1, rfl, hn1, rfl⟩
 clear hn1
 simp only [go_sem, simprocAttr, List.append_eq, List.cons_append, List.nil_append, beq_self_eq_true]
 refine pk (call_does (fun y _ => y = .bool true) rfl rfl (by kernel_rfl) rfl (dk rfl) (fun G hG => samePart_does (x := r.part) hG.wf (h.p.mono (hG.le G0 (by simp))) (h'.p.mono (hG.le G0 (by simp))))) ?_
 rintro _ ⟨_, G2, rfl, hn2, rfl⟩
 clear hn2
 simp only [go_sem, simprocAttr, List.append_eq, List.cons_append, List.nil_append, beq_self_eq_true]
 refine pk (call_does (fun y _ => y = .bool true) rfl rfl (by kernel_rfl) rfl (dk rfl) (fun G hG => sameInts_does hG.wf (h.s.mono (hG.le G0 (by simp))) (h'.s.mono (hG.le G0 (by simp))))) ?_
 rintro _ ⟨_, G3, rfl, hn3, rfl⟩
 clear hn3
 simp only [go_sem, simprocAttr]
 refine fin_ret (G := G0) Tryz.results9 ?_
 simp only [go_sem, simprocAttr]
 intro aa w' _ hle
 rfl
end Go.Proofs.YtohdfcnjcpjdcaaGreatDoor
