/- The driver of the laws of states, in plain words: raw things, records, states. Conditions: none. -/
import Derived.Test.YtohdfcnjcpjdcaaGreatS23w
import Derived.Test.YtohdfcnjcpjdcaaGreatS30w
import Derived.Test.YtohdfcnjcpjdcaaGreatLAw
namespace Go.Proofs.YtohdfcnjcpjdcaaGreat
open Go.RowKit
structure Raw where
 kind : Int
 a : Int
 b : Int
 c : Int
 d : Int
 text : ByteArray
def RawG (_ : GW) (x : Raw) (cs : List Value) : Prop := cs = [.int .i64 x.kind, .int .i64 x.a, .int .i64 x.b, .int .i64 x.c, .int .i64 x.d, .string x.text] ∧ i64 x.kind ∧ i64 x.a ∧ i64 x.b ∧ i64 x.c ∧ i64 x.d ∧ x.text.size ≤ maxLen
theorem rawG_mono : MonoR RawG := fun _ _ _ _ _ h => h
def RawsG (G : GW) (v : Value) (l : List Raw) : Prop := ScR RawG 6 G v l
/-! ### sectors that are free -/
def takenV (u : List Int) : List Ver → List Int
 | [] => u
 | v :: r => takenV (takeU u v.secs v.size).2 r
def takenP (u : List Int) : List Prt → List Int
 | [] => u
 | p :: r => takenP (takeU u p.secs p.size).2 r
def takenU (u : List Int) : List Upl → List Int
 | [] => u
 | x :: r => takenU (takenP u x.parts) r
def takenS (s : Sta) : List Int := takenU (takenV [] s.vers) s.upls
def frees (u : List Int) (n : Nat) : List Int := ((List.range n).map Int.ofNat).filter fun i => !decide (i ∈ u)
def freeS (s : Sta) (many : Int) : List Int × Int := if okSt s = true then (if (decide (many < 0) || decide (200 < many)) = true then ([], 2) else (frees (takenS s) many.toNat, 0)) else ([], 9)
def sectorsS (s : Sta) (size : Int) : List Int := (freeS s 200).1.take (secsOf size).toNat
/-! ### records -/
def nameS (n : Int) : ByteArray := if pick n 2 = 0 then ⟨#[97]⟩ else ⟨#[98]⟩
def keyS (n : Int) : ByteArray := if pick n 5 = 0 then ⟨#[120]⟩ else if pick n 5 = 1 then ⟨#[121, 47, 49]⟩ else if pick n 5 = 2 then ⟨#[121, 47, 50]⟩ else if pick n 5 = 3 then ⟨#[122, 47, 97, 47, 98]⟩ else ⟨#[121]⟩
def prefS (n : Int) : ByteArray := if pick n 3 = 0 then ⟨#[]⟩ else if pick n 3 = 1 then ⟨#[121]⟩ else ⟨#[122, 47]⟩
def idO (n : Int) : Option Ver → Int
 | some v => v.id
 | none => 1 + pick n 9
def idS (s : Sta) (n : Int) : Int := idO n s.vers[(pick n s.vers.length).toNat]?
def upidO : Option Upl → Int
 | some v => v.id
 | none => 1
def upidS (s : Sta) (n : Int) : Int := upidO s.upls[(pick n s.upls.length).toNat]?
def noV : Ver := ⟨0, ⟨#[]⟩, ⟨#[]⟩, false, false, 0, 0, 0, [], 0, 0, 0⟩
def rec0 (k : Int) : Rec := ⟨k, 0, 0, ⟨#[]⟩, ⟨#[]⟩, ⟨⟨#[]⟩, 0, 0⟩, noV, ⟨0, 0, 0⟩, ⟨0, 0, []⟩, [], 0, 0⟩
def newV (s : Sta) (r : Raw) : Ver := if pick r.d 5 = 0 then { noV with id := s.next, bucket := nameS r.a, key := keyS r.b, null := decide (pick r.d 3 = 0), time := pick r.c (s.clock + 1), marker := true }
 else { noV with id := s.next, bucket := nameS r.a, key := keyS r.b, null := decide (pick r.d 3 = 0), time := pick r.c (s.clock + 1), size := pick r.c 200, tier := 1, secs := sectorsS s (pick r.c 200) }
def thawL (s : Sta) (i : Int) (acc : List Int) : List Ver → List Int
 | [] => acc
 | v :: r => thawL s i (if v.id = i then sectorsS s v.size else acc) r
def recK (s : Sta) (r : Raw) (k : Int) : Rec :=
 if k = 1 then { rec0 k with name := nameS r.a }
 else if k = 2 then { rec0 k with name := nameS r.a, n := 1 + pick r.b 2 }
 else if k = 3 then { rec0 k with name := nameS r.a, rule := ⟨prefS r.b, pick r.c 12 - 1, pick r.d 30 - 1⟩ }
 else if k = 4 then { rec0 k with ver := newV s r }
 else if k = 5 ∨ k = 9 then { rec0 k with id := idS s r.a }
 else if k = 6 then { rec0 k with id := idS s r.a, vol := pick r.b 3, at_ := pick r.c 1000 }
 else if k = 7 then { rec0 k with ask := ⟨idS s r.a, 1 + pick r.b 9, pick r.c 3⟩ }
 else if k = 8 then { rec0 k with id := idS s r.a, n := s.clock + pick r.b 9, secs := thawL s (idS s r.a) [] s.vers }
 else if k = 10 then { rec0 k with id := s.next, name := nameS r.a, key := keyS r.b }
 else if k = 11 then { rec0 k with part := ⟨1 + pick r.b 5, pick r.c 200, sectorsS s (pick r.c 200)⟩, id := upidS s r.a }
 else if k = 12 then { rec0 k with id := upidS s r.a }
 else if k = 13 then { rec0 k with n := pick r.a 12 }
 else { rec0 k with vol := pick r.a 4 }
def recS (s : Sta) (r : Raw) : Rec := recK s r (1 + pick r.kind 14)
/-! ### states -/
def startS : Sta := ⟨1, 0, [], [], [], [], []⟩
def stepA (p : Sta × List Rec) (x : Rec) (a : Sta × Int) : Sta × List Rec := if a.2 = 0 then (a.1, p.2 ++ [x]) else p
def stepS (p : Sta × List Rec) (r : Raw) : Sta × List Rec := stepA p (recS p.1 r) (applyS p.1 (recS p.1 r))
def rawA (a : Int) : Raw := ⟨0, a, 0, 0, 0, ⟨#[]⟩⟩
def rawsOf (l : List Raw) (most : Nat) : List Raw := rawA 0 :: rawA 1 :: l.take most
def stateS (l : List Raw) (most : Nat) : Sta × List Rec := (rawsOf l most).foldl stepS (startS, [])
end Go.Proofs.YtohdfcnjcpjdcaaGreat
/- picked, name, key, id, upload. Conditions: as each law states them. -/
namespace Go.Proofs.YtohdfcnjcpjdcaaGreat
open Go.RowKit
set_option linter.unusedSimpArgs false
section
variable {P : Program} {E : Env} {σ : St} {o : Oper}
/-- an element of a literal's row of the call's own -/
theorem lit_elem_does {t e kc : Nat} {x i : Operand} {g n c m id : Nat} {kk : IntKind} {j : Int} (ho : o.op = .indexAddr t x i) (ht : tSlice P t = some e) (hk : tSize P e = some kc)
  (hx : ev σ x = some (.c (.s id g 0 n c))) (hi : ev σ i = some (.c (.v (.int kk j)))) (hd : dOk E o.dst) (hj : j = (m : Int)) (hm : m < n) :
  Does P E σ o (fun σ' => σ' = σ.put o.dst (.c (.p id g (m * kc)))) := by
 intro a w Q next hr hn
 have hx' : a.eval x = .slice (some ⟨g, 0, none⟩) n c := ev_den hr.see hx
 have hi' : a.eval i = .int kk j := ev_den hr.see hi
 obtain ⟨inf, hinf, hsz⟩ := tSize_spec hk
 have hrun : (execOp a.eval o).run P w = .ok (.value (.pointer (some ⟨g, m * kc, none⟩))) w := by
  unfold execOp
  subst hj
  have hc1 : 0 ≤ (m : Int) ∧ (m : Int) < (n : Int) := ⟨by omega, by omega⟩
  simp only [ho, hx', hi', Instr.indexAt, Sem.run_bind, asIntOf, Sem.run_pure, Result.andThen_ok, run_underlying (tSlice_spec ht), hc1, and_self, if_true, sizeOf, typeInfo, run_program, hinf, hsz, Int.toNat_natCast, Addr.add_mid, Nat.zero_add]
 exact wp_of_value hrun (hn _ _ _ rfl (hr.put o.dst (.c (.p id g (m * kc))) (dOk_lt hd)))
end
theorem pickN (n m : Int) (hm : 0 < m) : ∃ k : Nat, pick n m = (k : Int) ∧ (k : Int) < m := by
 obtain ⟨h1, h2⟩ := pick_bd n m hm
 exact ⟨(pick n m).toNat, by omega, by omega⟩
set_option maxRecDepth 100000 in
set_option maxHeartbeats 4000000 in
theorem picked_does {n m : Int} {G0 : GW} (hW : G0.Wf) (hn : i64 n) (hm : 1 ≤ m) (hm2 : m ≤ 9223372036854775807) :
  Calls Tryz.prog 15 #[.int .i64 n, .int .i64 m] G0.w (Ret G0 fun v _ => v = .int .i64 (pick n m)) := by
 obtain ⟨n1, n2⟩ := hn
 refine enterS (G := G0) (n := 13) 3000 hW Tryz.func15 rfl Tryz.ntmps15 (by simp) ?_
 simp only [go_sem, simprocAttr]
 refine Wb_mk (fun h => ?_) (fun h => ?_)
 ·have h' := of_decide_eq_true h
  refine ⟨by omega, by omega, by omega, ?_⟩
  refine fin_ret (G := G0) Tryz.results15 ?_
  simp only [go_sem, simprocAttr]
  intro aa w' _ _
  unfold pick
  rw [if_pos h', ← Int.zero_sub]
  rfl
 ·have h' := of_decide_eq_false h
  refine ⟨by omega, ?_⟩
  refine fin_ret (G := G0) Tryz.results15 ?_
  simp only [go_sem, simprocAttr]
  intro aa w' _ _
  unfold pick
  rw [if_neg h']
  rfl
set_option maxRecDepth 100000 in
set_option maxHeartbeats 8000000 in
theorem name_does {n : Int} {G0 : GW} (hW : G0.Wf) (hn : i64 n) :
  Calls Tryz.prog 18 #[.int .i64 n] G0.w (Ret G0 fun v _ => v = .string (nameS n)) := by
 obtain ⟨k, hk, hlt⟩ := pickN n 2 (by omega)
 have hlt' : k < 2 := by omega
 refine enterS (G := G0) (n := 8) 3000 hW Tryz.func18 rfl Tryz.ntmps18 (by simp) ?_
 simp only [go_sem, simprocAttr]
 intro g1
 refine pk (call_does (fun v _ => v = .int .i64 (k : Int)) rfl rfl (by kernel_rfl) rfl (dk rfl) (fun G hG => by rw [← hk]; exact picked_does hG.wf hn (by omega) (by omega))) ?_
 rintro _ ⟨_, G1, rfl, hn1, rfl⟩
 clear hn1
 simp only [go_sem, simprocAttr]
 refine pk (lit_elem_does (m := k) rfl tySlice61 tySize9 rfl rfl (dk rfl) rfl hlt') ?_
 rintro _ rfl
 obtain rfl | rfl : k = 0 ∨ k = 1 := by omega
 ·simp only [go_sem, simprocAttr, Nat.mul_one, Nat.zero_mul, Nat.one_mul]
  refine fin_ret (G := G0) Tryz.results18 ?_
  simp only [go_sem, simprocAttr]
  intro aa w' _ _
  unfold nameS
  rw [hk]
  rfl
 ·simp only [go_sem, simprocAttr, Nat.mul_one, Nat.zero_mul, Nat.one_mul]
  refine fin_ret (G := G0) Tryz.results18 ?_
  simp only [go_sem, simprocAttr]
  intro aa w' _ _
  unfold nameS
  rw [hk]
  rfl
set_option maxRecDepth 100000 in
set_option maxHeartbeats 8000000 in
theorem key_does {n : Int} {G0 : GW} (hW : G0.Wf) (hn : i64 n) :
  Calls Tryz.prog 22 #[.int .i64 n] G0.w (Ret G0 fun v _ => v = .string (keyS n)) := by
 obtain ⟨k, hk, hlt⟩ := pickN n 5 (by omega)
 have hlt' : k < 5 := by omega
 refine enterS (G := G0) (n := 8) 3000 hW Tryz.func22 rfl Tryz.ntmps22 (by simp) ?_
 simp only [go_sem, simprocAttr]
 intro g1
 refine pk (call_does (fun v _ => v = .int .i64 (k : Int)) rfl rfl (by kernel_rfl) rfl (dk rfl) (fun G hG => by rw [← hk]; exact picked_does hG.wf hn (by omega) (by omega))) ?_
 rintro _ ⟨_, G1, rfl, hn1, rfl⟩
 clear hn1
 simp only [go_sem, simprocAttr]
 refine pk (lit_elem_does (m := k) rfl tySlice61 tySize9 rfl rfl (dk rfl) rfl hlt') ?_
 rintro _ rfl
 obtain rfl | rfl | rfl | rfl | rfl : k = 0 ∨ k = 1 ∨ k = 2 ∨ k = 3 ∨ k = 4 := by omega
 ·simp only [go_sem, simprocAttr, Nat.mul_one, Nat.zero_mul, Nat.one_mul]
  refine fin_ret (G := G0) Tryz.results22 ?_
  simp only [go_sem, simprocAttr]
  intro aa w' _ _
  unfold keyS
  rw [hk]
  rfl
 ·simp only [go_sem, simprocAttr, Nat.mul_one, Nat.zero_mul, Nat.one_mul]
  refine fin_ret (G := G0) Tryz.results22 ?_
  simp only [go_sem, simprocAttr]
  intro aa w' _ _
  unfold keyS
  rw [hk]
  rfl
 ·simp only [go_sem, simprocAttr, Nat.mul_one, Nat.zero_mul, Nat.one_mul]
  refine fin_ret (G := G0) Tryz.results22 ?_
  simp only [go_sem, simprocAttr]
  intro aa w' _ _
  unfold keyS
  rw [hk]
  rfl
 ·simp only [go_sem, simprocAttr, Nat.mul_one, Nat.zero_mul, Nat.one_mul]
  refine fin_ret (G := G0) Tryz.results22 ?_
  simp only [go_sem, simprocAttr]
  intro aa w' _ _
  unfold keyS
  rw [hk]
  rfl
 ·simp only [go_sem, simprocAttr, Nat.mul_one, Nat.zero_mul, Nat.one_mul]
  refine fin_ret (G := G0) Tryz.results22 ?_
  simp only [go_sem, simprocAttr]
  intro aa w' _ _
  unfold keyS
  rw [hk]
  rfl
set_option maxRecDepth 100000 in
set_option maxHeartbeats 8000000 in
theorem id_does {s : Sta} {sv : Value} {n : Int} {G0 : GW} (hW : G0.Wf) (hs : StaG G0 sv s) (hn : i64 n) :
  Calls Tryz.prog 67 #[sv, .int .i64 n] G0.w (Ret G0 fun v _ => v = .int .i64 (idS s n)) := by
 obtain ⟨A1, c1, A2, c2, A3, c3, A4, c4, A5, c5, rfl, hP⟩ := hs.form
 have hml := max_le
 obtain ⟨_, _, eq0, hc1, hc2⟩ := Sq.form hP.vers
 cases eq0
 by_cases h0 : s.vers.length = 0
 ·have q0 : decide (0 < (s.vers.length : Int)) = false := decide_eq_false (by omega)
  have hnil : s.vers = [] := List.eq_nil_of_length_eq_zero h0
  have e : idS s n = 1 + pick n 9 := by unfold idS; rw [hnil]; rfl
  rw [e]
  refine enterS (G := G0) (n := 22) 3000 hW Tryz.func67 rfl Tryz.ntmps67 (by simp) ?_
  simp only [go_sem, simprocAttr, q0]
  intro g1
  refine pk (call_does (fun v _ => v = .int .i64 (pick n 9)) rfl rfl (by kernel_rfl) rfl (dk rfl) (fun G hG => picked_does hG.wf hn (by omega) (by omega))) ?_
  rintro _ ⟨_, G1, rfl, hn1, rfl⟩
  clear hn1
  have := pick_bd n 9 (by omega)
  simp only [go_sem, simprocAttr]
  refine ⟨by omega, ?_⟩
  refine fin_ret (G := G0) Tryz.results67 ?_
  simp only [go_sem, simprocAttr]
  intro aa w' _ _
  rfl
 ·have q0 : decide (0 < (s.vers.length : Int)) = true := decide_eq_true (by omega)
  obtain ⟨k, hk, hlt⟩ := pickN n s.vers.length (by omega)
  obtain ⟨x, hx⟩ : ∃ x, s.vers[k]? = some x := ⟨_, List.getElem?_eq_getElem (by omega)⟩
  have e : idS s n = x.id := by unfold idS; rw [hk, Int.toNat_natCast, hx]; rfl
  rw [e]
  refine enterS (G := G0) (n := 22) 3000 hW Tryz.func67 rfl Tryz.ntmps67 (by simp) ?_
  simp only [go_sem, simprocAttr, q0]
  intro g1
  refine preview_ok (R := VerG) (kc := 12) hx (fun G hG => (Sq.mono hP.vers verG_mono (hG G0 (by simp))).sc) fun g2 o2 cs2 G5 hA hcl2 hcs2 hle2 => ?_
  subst hA
  obtain ⟨svx, rfl, hsv, hb1, hb2⟩ := hcs2
  simp only [go_sem, simprocAttr, verV]
  refine draw_ok (N := 3000) (.take 0 (.take 1 (.take 2 (.take 3 (.take 4 (.take 5 (.alt 6 (.take 7 (.take 8 (.take 9 (.take 10 .done)))) .last))))))) [] (QOk_body _ _ _) follows_mixed (by kernel_rfl) (by kernel_rfl) ?_
  simp only [go_sem, simprocAttr]
  refine anyc_ok (N := 3000) (call_does (fun v _ => v = .int .i64 (k : Int)) rfl rfl (by kernel_rfl) rfl (dk rfl) (fun G hG => by rw [← hk]; exact picked_does hG.wf hn (by omega) (by omega))) (QOk_body _ _ _) rfl (by first | exact .inl rfl | exact .inr ⟨_, _, rfl, rfl⟩) ?_
  rintro _ ⟨_, G1, rfl, hn1, rfl⟩
  clear hn1
  simp only [go_sem, simprocAttr]
  refine take_elem 1 (m := k) rfl tySlice25 tySize38 rfl rfl (dk rfl) rfl (by omega) ?_
  simp only [go_sem, simprocAttr, verV]
  refine fin_ret (G := G0) Tryz.results67 ?_
  simp only [go_sem, simprocAttr]
  intro aa w' _ _
  rfl
set_option maxRecDepth 100000 in
set_option maxHeartbeats 8000000 in
theorem upid_does {s : Sta} {sv : Value} {n : Int} {G0 : GW} (hW : G0.Wf) (hs : StaG G0 sv s) (hn : i64 n) :
  Calls Tryz.prog 68 #[sv, .int .i64 n] G0.w (Ret G0 fun v _ => v = .int .i64 (upidS s n)) := by
 obtain ⟨A1, c1, A2, c2, A3, c3, A4, c4, A5, c5, rfl, hP⟩ := hs.form
 have hml := max_le
 obtain ⟨_, _, eq0, hc1, hc2⟩ := Sq.form hP.upls
 cases eq0
 by_cases h0 : s.upls.length = 0
 ·have q0 : decide (0 < (s.upls.length : Int)) = false := decide_eq_false (by omega)
  have hnil : s.upls = [] := List.eq_nil_of_length_eq_zero h0
  have e : upidS s n = 1 := by unfold upidS; rw [hnil]; rfl
  rw [e]
  refine enterS (G := G0) (n := 19) 3000 hW Tryz.func68 rfl Tryz.ntmps68 (by simp) ?_
  simp only [go_sem, simprocAttr, q0]
  intro g1
  refine fin_ret (G := G0) Tryz.results68 ?_
  simp only [go_sem, simprocAttr]
  intro aa w' _ _
  rfl
 ·have q0 : decide (0 < (s.upls.length : Int)) = true := decide_eq_true (by omega)
  obtain ⟨k, hk, hlt⟩ := pickN n s.upls.length (by omega)
  obtain ⟨x, hx⟩ : ∃ x, s.upls[k]? = some x := ⟨_, List.getElem?_eq_getElem (by omega)⟩
  have e : upidS s n = x.id := by unfold upidS; rw [hk, Int.toNat_natCast, hx]; rfl
  rw [e]
  refine enterS (G := G0) (n := 19) 3000 hW Tryz.func68 rfl Tryz.ntmps68 (by simp) ?_
  simp only [go_sem, simprocAttr, q0]
  intro g1
  refine preview_ok (R := UplG) (kc := 4) hx (fun G hG => (Sq.mono hP.upls uplG_mono (hG G0 (by simp))).sc) fun g2 o2 cs2 G5 hA hcl2 hcs2 hle2 => ?_
  subst hA
  obtain ⟨pv, rfl, hpv, hb1, hb2⟩ := hcs2
  simp only [go_sem, simprocAttr, List.map_cons]
  refine draw_ok (N := 3000) (.take 0 (.take 1 (.take 2 (.take 3 (.take 4 (.take 5 (.alt 6 (.take 7 (.take 8 (.take 9 (.take 10 .done)))) .last))))))) [] (QOk_body _ _ _) follows_mixed (by kernel_rfl) (by kernel_rfl) ?_
  simp only [go_sem, simprocAttr]
  refine anyc_ok (N := 3000) (call_does (fun v _ => v = .int .i64 (k : Int)) rfl rfl (by kernel_rfl) rfl (dk rfl) (fun G hG => by rw [← hk]; exact picked_does hG.wf hn (by omega) (by omega))) (QOk_body _ _ _) rfl (by first | exact .inl rfl | exact .inr ⟨_, _, rfl, rfl⟩) ?_
  rintro _ ⟨_, G1, rfl, hn1, rfl⟩
  clear hn1
  simp only [go_sem, simprocAttr]
  refine take_elem 1 (m := k) rfl tySlice26 tySize89 rfl rfl (dk rfl) rfl (by omega) ?_
  simp only [go_sem, simprocAttr, List.map_cons]
  refine fin_ret (G := G0) Tryz.results68 ?_
  simp only [go_sem, simprocAttr]
  intro aa w' _ _
  rfl
end Go.Proofs.YtohdfcnjcpjdcaaGreat
/- Free, sectors. Conditions: as each law states them. -/
namespace Go.Proofs.YtohdfcnjcpjdcaaGreat
open Go.RowKit
set_option linter.unusedSimpArgs false
theorem Good.size {s : Sta} (h : Good s) {v : Ver} (hv : v ∈ s.vers) : 0 ≤ v.size ∧ v.size ≤ 600 := by
 rcases (h.snd v hv).2 with ⟨_, m⟩ | ⟨_, a, b, _⟩
 ·unfold markB at m
  simp only [Bool.and_eq_true, decide_eq_true_eq] at m
  omega
 ·exact ⟨a, b⟩
theorem Good.psize {s : Sta} (h : Good s) {x : Upl} (hx : x ∈ s.upls) {p : Prt} (hp : p ∈ x.parts) : 0 ≤ p.size ∧ p.size ≤ 600 := by
 have := ((h.prt x hx).1 p hp).1
 unfold prtOut at this
 simp only [Bool.or_eq_false_iff, decide_eq_false_iff_not] at this
 omega
theorem frees_succ (u : List Int) (n : Nat) : frees u (n + 1) = frees u n ++ if (n : Int) ∈ u then [] else [(n : Int)] := by
 unfold frees
 rw [List.range_succ, List.map_append, List.filter_append]
 congr 1
 by_cases h : (n : Int) ∈ u
 ·rw [if_pos h]
  have : (!decide ((n : Int) ∈ u)) = false := by rw [decide_eq_true h]; rfl
  simp [List.filter_cons, h]
 ·rw [if_neg h]
  simp [List.filter_cons, h]
theorem frees_len (u : List Int) (n : Nat) : (frees u n).length ≤ n := by
 unfold frees
 exact Nat.le_trans (List.length_filter_le _ _) (by simp)
set_option maxRecDepth 100000 in
set_option maxHeartbeats 32000000 in
theorem free_does {s : Sta} {sv : Value} {many : Int} {G0 : GW} (hW : G0.Wf) (hs : StaG G0 sv s) :
  Calls Tryz.prog 93 #[sv, .int .i64 many] G0.w (Ret G0 fun v G => ∃ fv, v = .tuple #[fv, .int .i64 (freeS s many).2] ∧ IntsG G fv (freeS s many).1) := by
 obtain ⟨A1, c1, A2, c2, A3, c3, A4, c4, A5, c5, rfl, hP⟩ := hs.form
 have hml := max_le
 refine enterS (G := G0) (n := 78) 3000 hW Tryz.func93 rfl Tryz.ntmps93 (by simp) ?_
 simp only [go_sem, simprocAttr]
 intro g1
 refine pk (call_does (fun v _ => v = .int .i64 (errSt s)) rfl rfl (by kernel_rfl) rfl (dk rfl) (fun G hG => check_does hG.wf (hP.mono (hG.le G0 (by simp))).g)) ?_
 rintro _ ⟨_, G1, rfl, hn1, rfl⟩
 clear hn1
 simp only [go_sem, simprocAttr]
 refine Wb_mk (fun he => ?_) (fun he => ?_)
 ·have he' : ¬ errSt s = 0 := of_decide_eq_false (nt he)
  have hno : ¬ okSt s = true := fun q => he' (by unfold errSt; rw [if_pos q])
  refine fin_ret (G := G0) Tryz.results93 ?_
  simp only [go_sem, simprocAttr]
  intro aa w' _ _
  have : freeS s many = ([], 9) := by unfold freeS; rw [if_neg hno]
  rw [this, show errSt s = 9 from by unfold errSt; rw [if_neg hno]]
  exact ⟨_, rfl, Sq.nil⟩
 have he' : errSt s = 0 := of_decide_eq_true (nf he)
 have hok : okSt s = true := by
  cases q : okSt s with
  | true => rfl
  | false => unfold errSt at he'; rw [q] at he'; cases he'
 have hS := okSt_iff.1 hok
 have hgd := okSt_good.1 hok
 have b2 := hS.vers_len
 have b3 := hS.upls_len
 refine Wb_mk (fun hr => ?_) (fun hr => ?_)
 ·refine fin_ret (G := G0) Tryz.results93 ?_
  simp only [go_sem, simprocAttr]
  intro aa w' _ _
  have : freeS s many = ([], 2) := by unfold freeS; rw [if_pos hok, if_pos hr]
  rw [this]
  exact ⟨_, rfl, Sq.nil⟩
 have hF : freeS s many = (frees (takenS s) many.toNat, 0) := by unfold freeS; rw [if_pos hok, if_neg (by rw [hr]; simp)]
 rw [hF]
 simp only [Bool.or_eq_false_iff, decide_eq_false_iff_not] at hr
 obtain ⟨m, hm⟩ : ∃ m : Nat, many = (m : Int) := ⟨many.toNat, by omega⟩
 subst hm
 have hm200 : m ≤ 200 := by omega
 rw [Int.toNat_natCast]
 refine pk (makeMap_does rfl (dk rfl)) ?_
 rintro _ ⟨g, G3, rfl⟩
 simp only [go_sem, simprocAttr]
 refine loop_ok (N := 3000) (ι := Nat × List Int) (fun i => match i with | (i, u) => ⟨[(1, .c (.v (.int .i64 (m : Int)))), (2, .c (.p 0 g1 0)), (7, .c (.v (.map (some g)))), (29, .c (.v (.slice A2 s.vers.length c2))), (30, .c (.v (.int .i64 (s.vers.length : Int)))), (31, .c (.v (.int .i64 (i : Int))))],
   [⟨0, g1, 30, [.v (.int .i64 s.next), .v (.int .i64 s.clock), .v (.slice A1 s.bkts.length c1), .v (.slice A2 s.vers.length c2), .v (.slice A3 s.upls.length c3), .v (.slice A4 s.queue.length c4), .v (.slice A5 s.gone.length c5)]⟩], [usedR g u], [], [G0], 1⟩)
  (fun i => match i with | (i, u) => i ≤ s.vers.length ∧ takenV [] s.vers = takenV u (s.vers.drop i) ∧ UsedOk u)
  (fun i => s.vers.length - i.1) (QOk_body _ _ _) (0, []) ⟨by omega, by simp, List.nodup_nil, fun x hx => by cases hx⟩ (by simp only [go_sem, simprocAttr]; simp [usedR, setA]) ?_
 rintro ⟨i, u⟩ ⟨hi, hT, hu1, hu2⟩
 simp only
 by_cases hlt : i < s.vers.length
 ·have q : decide ((i : Int) < (s.vers.length : Int)) = true := decide_eq_true (by omega)
  obtain ⟨v, hv⟩ : ∃ v, s.vers[i]? = some v := ⟨_, List.getElem?_eq_getElem hlt⟩
  obtain ⟨z1, z2⟩ := hgd.size (List.mem_of_getElem? hv)
  rw [drop_at hv] at hT
  simp only [go_sem, simprocAttr, q]
  refine pk (elem_does (R := VerG) (l := s.vers) (m := i) rfl tySlice25 tySize38 rfl rfl (dk rfl) rfl hv (fun G hG => Sq.mono hP.vers verG_mono (hG.le G0 (by simp)))) ?_
  rintro _ ⟨g4, o', cs, G2, hcl, ⟨svx, rfl, hsv, hk1, hk2⟩, rfl⟩
  obtain ⟨Aw, cw, rfl, _⟩ := Sq.form hsv
  simp only [go_sem, simprocAttr, verV]
  intro g5
  refine pk (callH_does ([]) ([]) ([usedR g u]) ([]) (fun r _ R _ => r = .bool (takeU u v.secs v.size).1 ∧ R = [usedR g (takeU u v.secs v.size).2]) upV rfl rfl (by kernel_rfl) rfl (dk rfl) rfl rfl (by simp [ids, Diff]) (by simp) (fun G hG hh hM => take_does hG.wf hh hM (hsv.mono (hG.le G2 (by simp))) hu1 hu2 z1 (by omega)) (fun v css R G _ _ => upV_den css)) ?_
  rintro _ ⟨_, css, _, G5, ⟨rfl, rfl⟩, hcs, hle, rfl⟩
  clear hcs hle
  simp only [go_sem, simprocAttr]
  refine ⟨by omega, ?_⟩
  refine again_ok (i + 1, (takeU u v.secs v.size).2) ⟨hlt, hT, takeU_ok v.secs u v.size ⟨hu1, hu2⟩⟩ (by show s.vers.length - (i + 1) < s.vers.length - i; omega) (by simp only [go_sem, simprocAttr]; simp)
 have hil : i = s.vers.length := by omega
 subst hil
 have q : decide ((s.vers.length : Int) < (s.vers.length : Int)) = false := decide_eq_false (by omega)
 rw [List.drop_length] at hT
 have hT1 : takenV [] s.vers = u := hT
 clear hT
 have hS1 : takenS s = takenU u s.upls := by unfold takenS; rw [hT1]
 clear hT1
 simp only [go_sem, simprocAttr, q]
 refine loop_ok (N := 3000) (ι := Nat × List Int) (fun i => match i with | (i, u) => ⟨[(1, .c (.v (.int .i64 (m : Int)))), (7, .c (.v (.map (some g)))), (43, .c (.v (.slice A3 s.upls.length c3))), (44, .c (.v (.int .i64 (s.upls.length : Int)))), (45, .c (.v (.int .i64 (i : Int))))],
   [], [usedR g u], [], [G0], 1⟩)
  (fun i => match i with | (i, u) => i ≤ s.upls.length ∧ takenS s = takenU u (s.upls.drop i) ∧ UsedOk u)
  (fun i => s.upls.length - i.1) (QOk_body _ _ _) (0, u) ⟨by omega, by simpa using hS1, hu1, hu2⟩ (by simp only [go_sem, simprocAttr]; simp) ?_
 clear hS1 hu1 hu2 u q hi hlt
 rintro ⟨i, u⟩ ⟨hi, hT, hu1, hu2⟩
 simp only
 by_cases hlt : i < s.upls.length
 ·have q : decide ((i : Int) < (s.upls.length : Int)) = true := decide_eq_true (by omega)
  obtain ⟨x, hx⟩ : ∃ x, s.upls[i]? = some x := ⟨_, List.getElem?_eq_getElem hlt⟩
  have hxm := List.mem_of_getElem? hx
  have hpl := hS.parts_len x hxm
  rw [drop_at hx] at hT
  simp only [go_sem, simprocAttr, q]
  refine pk (elem_does (R := UplG) (l := s.upls) (m := i) rfl tySlice26 tySize89 rfl rfl (dk rfl) rfl hx (fun G hG => Sq.mono hP.upls uplG_mono (hG.le G0 (by simp)))) ?_
  rintro _ ⟨g4, o', cs, G2, hcl, ⟨pv, rfl, hpv, hk1, hk2⟩, rfl⟩
  obtain ⟨Ap, cp, rfl, _⟩ := Sq.form hpv
  simp only [go_sem, simprocAttr]
  intro g5
  refine loop_ok (N := 3000) (ι := Nat × List Int) (fun i' => match i' with | (k, u) => ⟨[(1, .c (.v (.int .i64 (m : Int)))), (7, .c (.v (.map (some g)))), (43, .c (.v (.slice A3 s.upls.length c3))), (44, .c (.v (.int .i64 (s.upls.length : Int)))), (45, .c (.v (.int .i64 (i : Int)))), (50, .c (.v (.slice Ap x.parts.length cp))), (51, .c (.v (.int .i64 (x.parts.length : Int)))), (52, .c (.v (.int .i64 (k : Int))))],
    [], [usedR g u], [], [G2, G0], 3⟩)
   (fun i' => match i' with | (k, u) => k ≤ x.parts.length ∧ takenS s = takenU (takenP u (x.parts.drop k)) (s.upls.drop (i + 1)) ∧ UsedOk u)
   (fun i' => x.parts.length - i'.1) (QOk_body _ _ _) (0, u) ⟨by omega, by rw [List.drop_zero]; exact hT, hu1, hu2⟩ (by simp only [go_sem, simprocAttr]; simp) ?_
  clear hu1 hu2 hT u
  rintro ⟨k, u⟩ ⟨hk, hT, hu1, hu2⟩
  simp only
  by_cases hltk : k < x.parts.length
  ·have q2 : decide ((k : Int) < (x.parts.length : Int)) = true := decide_eq_true (by omega)
   obtain ⟨p, hp⟩ : ∃ p, x.parts[k]? = some p := ⟨_, List.getElem?_eq_getElem hltk⟩
   obtain ⟨z1, z2⟩ := hgd.psize hxm (List.mem_of_getElem? hp)
   rw [drop_at hp] at hT
   simp only [go_sem, simprocAttr, q2]
   refine pk (elem_does (R := PrtG) (l := x.parts) (m := k) rfl tySlice87 tySize70 rfl rfl (dk rfl) rfl hp (fun G hG => Sq.mono hpv prtG_mono (hG.le G2 (by simp)))) ?_
   rintro _ ⟨g6, o6, cs6, G6, hcl6, ⟨svx, rfl, hsv⟩, rfl⟩
   obtain ⟨Aw, cw, rfl, _⟩ := Sq.form hsv
   simp only [go_sem, simprocAttr]
   intro g7
   refine pk (callH_does ([]) ([]) ([usedR g u]) ([]) (fun r _ R _ => r = .bool (takeU u p.secs p.size).1 ∧ R = [usedR g (takeU u p.secs p.size).2]) upV rfl rfl (by kernel_rfl) rfl (dk rfl) rfl rfl (by simp [ids, Diff]) (by simp) (fun G hG hh hM => take_does hG.wf hh hM (hsv.mono (hG.le G6 (by simp))) hu1 hu2 z1 (by omega)) (fun v css R G _ _ => upV_den css)) ?_
   rintro _ ⟨_, css, _, G8, ⟨rfl, rfl⟩, hcs, hle, rfl⟩
   clear hcs hle
   simp only [go_sem, simprocAttr]
   refine ⟨by omega, ?_⟩
   refine again_ok (k + 1, (takeU u p.secs p.size).2) ⟨hltk, hT, takeU_ok p.secs u p.size ⟨hu1, hu2⟩⟩ (by show x.parts.length - (k + 1) < x.parts.length - k; omega) (by simp only [go_sem, simprocAttr]; simp)
  ·have hkl : k = x.parts.length := by omega
   subst hkl
   have q2 : decide ((x.parts.length : Int) < (x.parts.length : Int)) = false := decide_eq_false (by omega)
   rw [List.drop_length] at hT
   simp only [go_sem, simprocAttr, q2]
   refine ⟨by omega, ?_⟩
   refine again_ok (i + 1, u) ⟨hlt, hT, hu1, hu2⟩ (by show s.upls.length - (i + 1) < s.upls.length - i; omega) (by simp only [go_sem, simprocAttr]; simp)
 have hil : i = s.upls.length := by omega
 subst hil
 have q : decide ((s.upls.length : Int) < (s.upls.length : Int)) = false := decide_eq_false (by omega)
 rw [List.drop_length] at hT
 have hT1 : takenS s = u := hT
 clear hT
 rw [hT1]
 simp only [go_sem, simprocAttr, q]
 refine row_ok 3 1 ?_
 refine loop_ok (N := 3000) (ι := Nat × Option Addr × Nat) (fun i => match i with | (i, A, c) => ⟨[(7, .c (.v (.map (some g)))), (14, .c (.v (.slice A (frees u i).length c))), (64, .c (.v (.int .i64 (m : Int)))), (65, .c (.v (.int .i64 (i : Int))))],
   [], [intRow (.slice A (frees u i).length c) (frees u i), usedR g u], [], [G0], 1⟩)
  (fun i => match i with | (i, A, c) => i ≤ m)
  (fun i => m - i.1) (QOk_body _ _ _) (0, none, 0) (by show 0 ≤ m; omega) (by simp only [go_sem, simprocAttr]; simp [intRow, frees]) ?_
 rintro ⟨i, A, c⟩ hi
 simp only at hi ⊢
 have hfl := frees_len u i
 by_cases hlt : i < m
 ·have q : decide ((i : Int) < (m : Int)) = true := decide_eq_true (by omega)
  have hxi : i64 (i : Int) := ⟨by omega, by omega⟩
  simp only [go_sem, simprocAttr, q]
  by_cases hin : (i : Int) ∈ u
  ·have hfs : frees u (i + 1) = frees u i := by rw [frees_succ, if_pos hin, List.append_nil]
   refine pk (lookup_does (kt := 3) (et := 4) (tr := 126) (n := u.length) (al := setA u) (v := .bool true) rfl Tryz.underlying126 intKeyed zeroBool (List.mem_cons_of_mem _ (List.mem_singleton.2 rfl)) rfl rfl rfl (int_key _ hxi) (setA_keys hu1 hu2) (dk rfl) (.inl (List.mem_map.2 ⟨_, hin, rfl⟩))) ?_
   rintro _ rfl
   simp only [go_sem, simprocAttr]
   refine ⟨by omega, ?_⟩
   refine again_ok (i + 1, A, c) (by show i + 1 ≤ m; omega) (by show m - (i + 1) < m - i; omega) (by rw [hfs]; simp only [go_sem, simprocAttr]; simp)
  ·have hfs : frees u (i + 1) = frees u i ++ [(i : Int)] := by rw [frees_succ, if_neg hin]
   have hfn : (frees u (i + 1)).length = (frees u i).length + 1 := by rw [hfs, List.length_append]; rfl
   refine pk (lookup_does (kt := 3) (et := 4) (tr := 126) (n := u.length) (al := setA u) (v := .bool false) rfl Tryz.underlying126 intKeyed zeroBool (List.mem_cons_of_mem _ (List.mem_singleton.2 rfl)) rfl rfl rfl (int_key _ hxi) (setA_keys hu1 hu2) (dk rfl) (.inr ⟨fun e he hk => hin (by obtain ⟨y, hy, rfl⟩ := List.mem_map.1 he; cases hk; exact hy), rfl⟩)) ?_
   rintro _ rfl
   simp only [go_sem, simprocAttr]
   intro g4
   refine pk (append_does (R1 := []) (R2 := [usedR g u]) (n := (frees u i).length) (v := .slice A (frees u i).length c) (xs := (frees u i).flatMap intC) (news := [.int .i64 (i : Int)]) rfl tySlice28 tyApp3 rfl rfl rfl rfl (dk rfl) (fun u hu => by rw [List.mem_singleton.1 hu]; rfl) (by unfold maxLen; omega) (by omega) (fun G hG => tsl_blk hG (b := ⟨1, g4, 3, [.v (.int .i64 (i : Int))]⟩) (by simp) rfl (by unfold maxLen; omega))) ?_
   rintro _ ⟨A', c', rfl⟩
   simp only [go_sem, simprocAttr]
   refine ⟨by omega, ?_⟩
   refine again_ok (i + 1, A', c') (by show i + 1 ≤ m; omega) (by show m - (i + 1) < m - i; omega) (by rw [hfn, hfs]; simp only [go_sem, simprocAttr]; simp [intRow, intC])
 ·have him : i = m := by omega
  subst him
  have q : decide ((i : Int) < (i : Int)) = false := decide_eq_false (by omega)
  simp only [go_sem, simprocAttr, q]
  refine read_ok (R1 := []) rfl (fun G8 hle8 hsl8 => ?_) (fun _ _ q => q) (by show (1 : Nat) ≠ 0; decide)
  have hO : IntsG G8 (.slice A (frees u i).length c) (frees u i) := ints_of hsl8
  refine fin_ret (G := G0) Tryz.results93 ?_
  simp only [go_sem, simprocAttr]
  intro aa w' _ hle
  exact ⟨_, rfl, hO.mono (hle G8 (by simp))⟩
theorem secsOf_nonneg {n : Int} (h : 0 ≤ n) : 0 ≤ secsOf n := by
 unfold secsOf
 rw [Int.tdiv_eq_ediv_of_nonneg (by omega)]
 omega
set_option maxRecDepth 100000 in
set_option maxHeartbeats 8000000 in
theorem sectorsOf_does {s : Sta} {sv : Value} {size : Int} {G0 : GW} (hW : G0.Wf) (hs : StaG G0 sv s) (h0 : 0 ≤ size) (h1 : size ≤ 1000000) :
  Calls Tryz.prog 66 #[sv, .int .i64 size] G0.w (Ret G0 fun v G => IntsG G v (sectorsS s size)) := by
 obtain ⟨A1, c1, A2, c2, A3, c3, A4, c4, A5, c5, rfl, hP⟩ := hs.form
 have hml := max_le
 refine enterS (G := G0) (n := 19) 3000 hW Tryz.func66 rfl Tryz.ntmps66 (by simp) ?_
 simp only [go_sem, simprocAttr]
 intro g1
 refine pk (call_does (fun v G => ∃ fv, v = .tuple #[fv, .int .i64 (freeS s 200).2] ∧ IntsG G fv (freeS s 200).1) rfl rfl (by kernel_rfl) rfl (dk rfl) (fun G hG => free_does hG.wf (hP.mono (hG.le G0 (by simp))).g)) ?_
 rintro _ ⟨_, G1, ⟨fv, rfl, hfv⟩, hn1, rfl⟩
 clear hn1
 obtain ⟨A, c, rfl, hc1, hc2⟩ := Sq.form hfv
 obtain ⟨l, hl⟩ : ∃ l, l = (freeS s 200).1 := ⟨_, rfl⟩
 have hsec : sectorsS s size = l.take (min (secsOf size) (l.length : Int)).toNat := by
  unfold sectorsS
  rw [← hl]
  by_cases q : secsOf size ≤ (l.length : Int)
  ·rw [Int.min_eq_left q]
  ·rw [Int.min_eq_right (by omega), Int.toNat_natCast, List.take_length, List.take_of_length_le (by omega)]
 rw [hsec]
 rw [← hl] at hfv hc1 ⊢
 clear hsec hl
 have hnn := secsOf_nonneg h0
 simp only [go_sem, simprocAttr]
 refine pk (call_does (fun v _ => v = .int .i64 (secsOf size)) rfl rfl (by kernel_rfl) rfl (dk rfl) (fun G hG => sectors_does hG.wf (by omega) (by omega))) ?_
 rintro _ ⟨_, G2, rfl, hn2, rfl⟩
 clear hn2
 simp only [go_sem, simprocAttr]
 obtain ⟨k, hk⟩ : ∃ k : Nat, min (secsOf size) (l.length : Int) = (k : Int) := ⟨(min (secsOf size) (l.length : Int)).toNat, by omega⟩
 have hkl : k ≤ l.length := by omega
 rw [hk, Int.toNat_natCast]
 refine pk (cutq_does (R := IntG) (l := l) (m := k) rfl rfl tySlice28 tySize3 rfl ⟨_, _, rfl, by omega⟩ (dk rfl) hkl hc1) ?_
 rintro _ ⟨A', hA, rfl⟩
 simp only [go_sem, simprocAttr]
 refine fin_ret (G := G0) Tryz.results66 ?_
 simp only [go_sem, simprocAttr]
 intro aa w' _ hle
 have h9 := hA _ (hfv.mono (hle G1 (by simp)))
 have e9 : (l.take k).length = k := by rw [List.length_take]; omega
 show IntsG _ (.slice A' k c) _
 exact h9
end Go.Proofs.YtohdfcnjcpjdcaaGreat
/- Record. Conditions: as each law states them. -/
namespace Go.Proofs.YtohdfcnjcpjdcaaGreat
open Go.RowKit
set_option linter.unusedSimpArgs false
section
variable {P : Program} {E : Env} {σ : St} {o : Oper}
/-- an element of a literal's row of the call's own, in a region that draws -/
theorem take_lit {rec_ : Cmd → St → Prop} {dr : Dr} {q : Nat} {p : Plan} {t e kc : Nat} {x i : Operand} {g n c m id : Nat} {kk : IntKind} {j : Int} (ho : o.op = .indexAddr t x i) (ht : tSlice P t = some e) (hk : tSize P e = some kc)
  (hx : ev σ x = some (.c (.s id g 0 n c))) (hi : ev σ i = some (.c (.v (.int kk j)))) (hd : dOk E o.dst) (hj : j = (m : Int)) (hm : m < n)
  (h : rec_ (dr.next q p) (σ.put o.dst (.c (.p id g (m * kc))))) : TakeStop P E rec_ dr q p o σ := by
 refine ⟨.c (.p id g (m * kc)), hd, fun a w hr => ?_, h⟩
 have hx' : a.eval x = .slice (some ⟨g, 0, none⟩) n c := ev_den hr hx
 have hi' : a.eval i = .int kk j := ev_den hr hi
 obtain ⟨inf, hinf, hsz⟩ := tSize_spec hk
 show (execOp a.eval o).run P w = .ok (.value (.pointer (some ⟨g, m * kc, none⟩))) w
 unfold execOp
 subst hj
 have hc1 : 0 ≤ (m : Int) ∧ (m : Int) < (n : Int) := ⟨by omega, by omega⟩
 simp only [ho, hx', hi', Instr.indexAt, Sem.run_bind, asIntOf, Sem.run_pure, Result.andThen_ok, run_underlying (tSlice_spec ht), hc1, and_self, if_true, sizeOf, typeInfo, run_program, hinf, hsz, Int.toNat_natCast, Addr.add_mid, Nat.zero_add]
end
theorem nameS_size (n : Int) : (nameS n).size ≤ maxLen := by unfold nameS; split <;> (show 1 ≤ maxLen; unfold maxLen; omega)
theorem keyS_size (n : Int) : (keyS n).size ≤ maxLen := by
 have h : (keyS n).size ≤ 5 := by
  unfold keyS
  repeat' split
  all_goals decide
 unfold maxLen
 omega
theorem prefS_size (n : Int) : (prefS n).size ≤ maxLen := by
 have h : (prefS n).size ≤ 5 := by
  unfold prefS
  repeat' split
  all_goals decide
 unfold maxLen
 omega
theorem freeS_len (s : Sta) : (freeS s 200).1.length ≤ 200 := by
 unfold freeS
 split
 ·split
  ·exact Nat.zero_le _
  ·exact frees_len _ _
 ·exact Nat.zero_le _
theorem sectorsS_len (s : Sta) (n : Int) : (sectorsS s n).length ≤ 1000 := by
 have := freeS_len s
 unfold sectorsS
 rw [List.length_take]
 omega
theorem thawL_cons (s : Sta) (i : Int) (acc : List Int) (v : Ver) (r : List Ver) : thawL s i acc (v :: r) = thawL s i (if v.id = i then sectorsS s v.size else acc) r := rfl
theorem thawL_len (s : Sta) (i : Int) : ∀ (l : List Ver) (acc : List Int), acc.length ≤ 1000 → (thawL s i acc l).length ≤ 1000
 | [], acc, h => h
 | v :: r, acc, h => by
  unfold thawL
  refine thawL_len s i r _ ?_
  split
  ·exact sectorsS_len _ _
  ·exact h
theorem rec0_ok (k : Int) : RecOk (rec0 k) := ⟨Nat.zero_le _, Nat.zero_le _, Nat.zero_le _, Nat.zero_le _, Nat.zero_le _, Nat.zero_le _, Nat.zero_le _, Nat.zero_le _, by show i64 0; exact ⟨by decide, by decide⟩⟩
theorem newV_ok (s : Sta) (r : Raw) : (newV s r).bucket.size ≤ maxLen ∧ (newV s r).key.size ≤ maxLen ∧ (newV s r).secs.length ≤ 1000 := by
 unfold newV
 by_cases h : pick r.d 5 = 0
 ·rw [if_pos h]
  exact ⟨nameS_size _, keyS_size _, Nat.zero_le _⟩
 ·rw [if_neg h]
  exact ⟨nameS_size _, keyS_size _, sectorsS_len _ _⟩
theorem recS_ok {s : Sta} (h : OkS s) (r : Raw) : RecOk (recS s r) := by
 have z := rec0_ok (1 + pick r.kind 14)
 have n1 := nameS_size r.a
 have c1 := h.c1
 have c2 := h.c2
 show RecOk (recK s r (1 + pick r.kind 14))
 unfold recK
 generalize 1 + pick r.kind 14 = k at z ⊢
 by_cases q : k = 1
 ·rw [if_pos q]
  exact ⟨n1, z.key, z.pre, z.vb, z.vk, z.vl, z.pl, z.sl, z.n⟩
 rw [if_neg q]
 clear q
 by_cases q : k = 2
 ·rw [if_pos q]
  have := pick_bd r.b 2 (by omega)
  exact ⟨n1, z.key, z.pre, z.vb, z.vk, z.vl, z.pl, z.sl, by show i64 (1 + pick r.b 2); constructor <;> omega⟩
 rw [if_neg q]
 clear q
 by_cases q : k = 3
 ·rw [if_pos q]
  exact ⟨n1, z.key, prefS_size _, z.vb, z.vk, z.vl, z.pl, z.sl, z.n⟩
 rw [if_neg q]
 clear q
 by_cases q : k = 4
 ·rw [if_pos q]
  obtain ⟨a, b, c⟩ := newV_ok s r
  exact ⟨z.name, z.key, z.pre, a, b, c, z.pl, z.sl, z.n⟩
 rw [if_neg q]
 clear q
 by_cases q : k = 5 ∨ k = 9
 ·rw [if_pos q]
  exact ⟨z.name, z.key, z.pre, z.vb, z.vk, z.vl, z.pl, z.sl, z.n⟩
 rw [if_neg q]
 clear q
 by_cases q : k = 6
 ·rw [if_pos q]
  exact ⟨z.name, z.key, z.pre, z.vb, z.vk, z.vl, z.pl, z.sl, z.n⟩
 rw [if_neg q]
 clear q
 by_cases q : k = 7
 ·rw [if_pos q]
  exact ⟨z.name, z.key, z.pre, z.vb, z.vk, z.vl, z.pl, z.sl, z.n⟩
 rw [if_neg q]
 clear q
 by_cases q : k = 8
 ·rw [if_pos q]
  have := pick_bd r.b 9 (by omega)
  exact ⟨z.name, z.key, z.pre, z.vb, z.vk, z.vl, z.pl, thawL_len _ _ _ _ (Nat.zero_le _), by show i64 (s.clock + pick r.b 9); constructor <;> omega⟩
 rw [if_neg q]
 clear q
 by_cases q : k = 10
 ·rw [if_pos q]
  exact ⟨n1, keyS_size _, z.pre, z.vb, z.vk, z.vl, z.pl, z.sl, z.n⟩
 rw [if_neg q]
 clear q
 by_cases q : k = 11
 ·rw [if_pos q]
  exact ⟨z.name, z.key, z.pre, z.vb, z.vk, z.vl, sectorsS_len _ _, z.sl, z.n⟩
 rw [if_neg q]
 clear q
 by_cases q : k = 12
 ·rw [if_pos q]
  exact ⟨z.name, z.key, z.pre, z.vb, z.vk, z.vl, z.pl, z.sl, z.n⟩
 rw [if_neg q]
 clear q
 by_cases q : k = 13
 ·rw [if_pos q]
  have := pick_bd r.a 12 (by omega)
  exact ⟨z.name, z.key, z.pre, z.vb, z.vk, z.vl, z.pl, z.sl, by show i64 (pick r.a 12); constructor <;> omega⟩
 rw [if_neg q]
 clear q
 exact ⟨z.name, z.key, z.pre, z.vb, z.vk, z.vl, z.pl, z.sl, z.n⟩
def rawV (r : Raw) : Value := .agg #[.int .i64 r.kind, .int .i64 r.a, .int .i64 r.b, .int .i64 r.c, .int .i64 r.d, .string r.text]
structure RawOk (r : Raw) : Prop where
 kind : i64 r.kind
 a : i64 r.a
 b : i64 r.b
 c : i64 r.c
 d : i64 r.d
set_option maxRecDepth 100000 in
set_option maxHeartbeats 32000000 in
theorem record_does {s : Sta} {sv : Value} {r : Raw} {G0 : GW} (hW : G0.Wf) (hs : StaG G0 sv s) (hr : RawOk r) (hok : okSt s = true) :
  Calls Tryz.prog 24 #[sv, rawV r] G0.w (Ret G0 fun v G => RecG G v (recS s r)) := by
 have hS := okSt_iff.1 hok
 have hgd := okSt_good.1 hok
 have hRK := recS_ok hS r
 have b2 := hS.vers_len
 have d1 := hS.n1
 have d2 := hS.n2
 have d3 := hS.c1
 have d4 := hS.c2
 obtain ⟨A1, c1, A2, c2, A3, c3, A4, c4, A5, c5, rfl, hP⟩ := hs.form
 have hml := max_le
 have hb14 := pick_bd r.kind 14 (by omega)
 have hT0 : recS s r = recK s r (1 + pick r.kind 14) := rfl
 rw [hT0] at hRK ⊢
 clear hT0
 refine enterS (G := G0) (n := 218) 3000 hW Tryz.func24 rfl Tryz.ntmps24 (by simp) ?_
 unfold rawV
 simp only [go_sem, simprocAttr]
 intro g1 g2 g3
 refine pk (call_does (fun v _ => v = .int .i64 (pick r.kind 14)) rfl rfl (by kernel_rfl) rfl (dk rfl) (fun G hG => picked_does hG.wf hr.kind (by omega) (by omega))) ?_
 rintro _ ⟨_, G1, rfl, hn1, rfl⟩
 clear hn1
 simp only [go_sem, simprocAttr]
 refine ⟨by omega, ?_⟩
 intro g4
 obtain ⟨k, hk⟩ : ∃ k, k = 1 + pick r.kind 14 := ⟨_, rfl⟩
 rw [← hk] at hRK ⊢
 have hk1 : 1 ≤ k := by omega
 have hk2 : k ≤ 14 := by omega
 clear hk
 refine Wb_mk (fun q1' => ?_) (fun q1' => ?_)
 ·have q1 := of_decide_eq_true q1'
  refine pk (call_does (fun v _ => v = .string (nameS r.a)) rfl rfl (by kernel_rfl) rfl (dk rfl) (fun G hG => name_does hG.wf hr.a)) ?_
  rintro _ ⟨_, H1, rfl, hn1, rfl⟩
  clear hn1
  simp only [go_sem, simprocAttr]
  refine fin_ret (G := G0) Tryz.results24 ?_
  simp only [go_sem, simprocAttr]
  intro aa w' _ hle
  have hT : recK s r k = { rec0 k with name := nameS r.a } := by unfold recK; rw [if_pos q1]
  rw [hT] at hRK ⊢
  exact ⟨_, _, _, rfl, Sq.nil, Sq.nil, Sq.nil, hRK⟩
 have q1 := of_decide_eq_false q1'
 refine Wb_mk (fun q2' => ?_) (fun q2' => ?_)
 ·have q2 := of_decide_eq_true q2'
  refine pk (call_does (fun v _ => v = .string (nameS r.a)) rfl rfl (by kernel_rfl) rfl (dk rfl) (fun G hG => name_does hG.wf hr.a)) ?_
  rintro _ ⟨_, H2, rfl, hn2, rfl⟩
  clear hn2
  simp only [go_sem, simprocAttr]
  refine pk (call_does (fun v _ => v = .int .i64 (pick r.b 2)) rfl rfl (by kernel_rfl) rfl (dk rfl) (fun G hG => picked_does hG.wf hr.b (by omega) (by omega))) ?_
  rintro _ ⟨_, H3, rfl, hn3, rfl⟩
  clear hn3
  have hp3 := pick_bd r.b 2 (by omega)
  simp only [go_sem, simprocAttr]
  refine ⟨by omega, ?_⟩
  refine fin_ret (G := G0) Tryz.results24 ?_
  simp only [go_sem, simprocAttr]
  intro aa w' _ hle
  have hT : recK s r k = { rec0 k with name := nameS r.a, n := 1 + pick r.b 2 } := by unfold recK; rw [if_neg q1, if_pos q2]
  rw [hT] at hRK ⊢
  exact ⟨_, _, _, rfl, Sq.nil, Sq.nil, Sq.nil, hRK⟩
 have q2 := of_decide_eq_false q2'
 refine Wb_mk (fun q3' => ?_) (fun q3' => ?_)
 ·have q3 := of_decide_eq_true q3'
  refine pk (call_does (fun v _ => v = .string (nameS r.a)) rfl rfl (by kernel_rfl) rfl (dk rfl) (fun G hG => name_does hG.wf hr.a)) ?_
  rintro _ ⟨_, H4, rfl, hn4, rfl⟩
  clear hn4
  simp only [go_sem, simprocAttr]
  obtain ⟨m, hm, hmlt⟩ := pickN r.b 3 (by omega)
  have hmlt' : m < 3 := by omega
  obtain rfl | rfl | rfl : m = 0 ∨ m = 1 ∨ m = 2 := by omega
  ·skip
   have hpf : prefS r.b = ⟨#[]⟩ := by unfold prefS; rw [hm]; rfl
   refine draw_ok (N := 3000) (.take 1 (.take 2 (.take 6 (.take 7 (.take 10 (.take 11 (.alt 0 (.alt 3 (.take 4 (.alt 5 (.alt 8 (.take 9 (.alt 12 (.take 13 (.take 14 (.take 15 (.alt 16 .done .last)))) .last)) .last) (.alt 8 (.take 9 (.alt 5 (.alt 12 (.take 13 (.take 14 (.take 15 (.alt 16 .done .last)))) .last) (.alt 12 (.take 13 (.alt 5 (.take 14 (.take 15 (.alt 16 .done .last))) .last)) .last))) .last))) .last) (.alt 3 (.alt 0 (.take 4 (.alt 5 (.alt 8 (.take 9 (.alt 12 (.take 13 (.take 14 (.take 15 (.alt 16 .done .last)))) .last)) .last) (.alt 8 (.take 9 (.alt 5 (.alt 12 (.take 13 (.take 14 (.take 15 (.alt 16 .done .last)))) .last) (.alt 12 (.take 13 (.alt 5 (.take 14 (.take 15 (.alt 16 .done .last))) .last)) .last))) .last))) (.alt 8 (.take 9 (.alt 0 (.take 4 (.alt 5 (.alt 12 (.take 13 (.take 14 (.take 15 (.alt 16 .done .last)))) .last) (.alt 12 (.take 13 (.alt 5 (.take 14 (.take 15 (.alt 16 .done .last))) .last)) .last))) (.alt 12 (.take 13 (.alt 0 (.take 4 (.alt 5 (.take 14 (.take 15 (.alt 16 .done .last))) .last)) .last)) .last))) .last)) .last)))))))) [3] (QOk_body _ _ _) follows_mixed (by kernel_rfl) (by kernel_rfl) ?_
   simp only [go_sem, simprocAttr]
   refine ⟨fun g5 => ?_, ?_⟩
   ·refine anyc_ok (N := 3000) (call_does (fun v _ => v = .int .i64 ((0 : Nat) : Int)) rfl rfl (by kernel_rfl) rfl (dk rfl) (fun G hG => by rw [← hm]; exact picked_does hG.wf hr.b (by omega) (by omega))) (QOk_body _ _ _) rfl (by first | exact .inl rfl | exact .inr ⟨_, _, rfl, rfl⟩) ?_
    rintro _ ⟨_, H90, rfl, hn90, rfl⟩
    clear hn90
    simp only [go_sem, simprocAttr]
    refine take_lit (m := 0) rfl tySlice61 tySize9 rfl rfl (dk rfl) rfl hmlt' ?_
    simp only [go_sem, simprocAttr, Nat.mul_one, Nat.zero_mul, Nat.one_mul]
    refine ⟨?_, ?_⟩
    ·refine anyc_ok (N := 3000) (call_does (fun v _ => v = .int .i64 (pick r.c 12)) rfl rfl (by kernel_rfl) rfl (dk rfl) (fun G hG => picked_does hG.wf hr.c (by omega) (by omega))) (QOk_body _ _ _) rfl (by first | exact .inl rfl | exact .inr ⟨_, _, rfl, rfl⟩) ?_
     rintro _ ⟨_, H91, rfl, hn91, rfl⟩
     clear hn91
     have hp91 := pick_bd r.c 12 (by omega)
     simp only [go_sem, simprocAttr]
     refine ⟨by omega, ?_⟩
     refine anyc_ok (N := 3000) (call_does (fun v _ => v = .int .i64 (pick r.d 30)) rfl rfl (by kernel_rfl) rfl (dk rfl) (fun G hG => picked_does hG.wf hr.d (by omega) (by omega))) (QOk_body _ _ _) rfl (by first | exact .inl rfl | exact .inr ⟨_, _, rfl, rfl⟩) ?_
     rintro _ ⟨_, H92, rfl, hn92, rfl⟩
     clear hn92
     have hp92 := pick_bd r.d 30 (by omega)
     simp only [go_sem, simprocAttr]
     refine ⟨by omega, ?_⟩
     refine fin_ret (G := G0) Tryz.results24 ?_
     simp only [go_sem, simprocAttr]
     intro aa w' _ hle
     have hT : recK s r k = { rec0 k with name := nameS r.a, rule := ⟨prefS r.b, pick r.c 12 - 1, pick r.d 30 - 1⟩ } := by unfold recK; rw [if_neg q1, if_neg q2, if_pos q3]
     rw [hT, hpf] at hRK ⊢
     exact ⟨_, _, _, rfl, Sq.nil, Sq.nil, Sq.nil, hRK⟩
    ·refine anyc_ok (N := 3000) (call_does (fun v _ => v = .int .i64 (pick r.c 12)) rfl rfl (by kernel_rfl) rfl (dk rfl) (fun G hG => picked_does hG.wf hr.c (by omega) (by omega))) (QOk_body _ _ _) rfl (by first | exact .inl rfl | exact .inr ⟨_, _, rfl, rfl⟩) ?_
     rintro _ ⟨_, H91, rfl, hn91, rfl⟩
     clear hn91
     have hp91 := pick_bd r.c 12 (by omega)
     simp only [go_sem, simprocAttr]
     refine ⟨by omega, ?_⟩
     refine ⟨?_, ?_⟩
     ·refine anyc_ok (N := 3000) (call_does (fun v _ => v = .int .i64 (pick r.d 30)) rfl rfl (by kernel_rfl) rfl (dk rfl) (fun G hG => picked_does hG.wf hr.d (by omega) (by omega))) (QOk_body _ _ _) rfl (by first | exact .inl rfl | exact .inr ⟨_, _, rfl, rfl⟩) ?_
      rintro _ ⟨_, H92, rfl, hn92, rfl⟩
      clear hn92
      have hp92 := pick_bd r.d 30 (by omega)
      simp only [go_sem, simprocAttr]
      refine ⟨by omega, ?_⟩
      refine fin_ret (G := G0) Tryz.results24 ?_
      simp only [go_sem, simprocAttr]
      intro aa w' _ hle
      have hT : recK s r k = { rec0 k with name := nameS r.a, rule := ⟨prefS r.b, pick r.c 12 - 1, pick r.d 30 - 1⟩ } := by unfold recK; rw [if_neg q1, if_neg q2, if_pos q3]
      rw [hT, hpf] at hRK ⊢
      exact ⟨_, _, _, rfl, Sq.nil, Sq.nil, Sq.nil, hRK⟩
     ·refine anyc_ok (N := 3000) (call_does (fun v _ => v = .int .i64 (pick r.d 30)) rfl rfl (by kernel_rfl) rfl (dk rfl) (fun G hG => picked_does hG.wf hr.d (by omega) (by omega))) (QOk_body _ _ _) rfl (by first | exact .inl rfl | exact .inr ⟨_, _, rfl, rfl⟩) ?_
      rintro _ ⟨_, H92, rfl, hn92, rfl⟩
      clear hn92
      have hp92 := pick_bd r.d 30 (by omega)
      simp only [go_sem, simprocAttr]
      refine ⟨by omega, ?_⟩
      refine fin_ret (G := G0) Tryz.results24 ?_
      simp only [go_sem, simprocAttr]
      intro aa w' _ hle
      have hT : recK s r k = { rec0 k with name := nameS r.a, rule := ⟨prefS r.b, pick r.c 12 - 1, pick r.d 30 - 1⟩ } := by unfold recK; rw [if_neg q1, if_neg q2, if_pos q3]
      rw [hT, hpf] at hRK ⊢
      exact ⟨_, _, _, rfl, Sq.nil, Sq.nil, Sq.nil, hRK⟩
   ·refine anyc_ok (N := 3000) (call_does (fun v _ => v = .int .i64 ((0 : Nat) : Int)) rfl rfl (by kernel_rfl) rfl (dk rfl) (fun G hG => by rw [← hm]; exact picked_does hG.wf hr.b (by omega) (by omega))) (QOk_body _ _ _) rfl (by first | exact .inl rfl | exact .inr ⟨_, _, rfl, rfl⟩) ?_
    rintro _ ⟨_, H90, rfl, hn90, rfl⟩
    clear hn90
    simp only [go_sem, simprocAttr]
    refine ⟨fun g5 => ?_, ?_⟩
    ·refine take_lit (m := 0) rfl tySlice61 tySize9 rfl rfl (dk rfl) rfl hmlt' ?_
     simp only [go_sem, simprocAttr, Nat.mul_one, Nat.zero_mul, Nat.one_mul]
     refine ⟨?_, ?_⟩
     ·refine anyc_ok (N := 3000) (call_does (fun v _ => v = .int .i64 (pick r.c 12)) rfl rfl (by kernel_rfl) rfl (dk rfl) (fun G hG => picked_does hG.wf hr.c (by omega) (by omega))) (QOk_body _ _ _) rfl (by first | exact .inl rfl | exact .inr ⟨_, _, rfl, rfl⟩) ?_
      rintro _ ⟨_, H91, rfl, hn91, rfl⟩
      clear hn91
      have hp91 := pick_bd r.c 12 (by omega)
      simp only [go_sem, simprocAttr]
      refine ⟨by omega, ?_⟩
      refine anyc_ok (N := 3000) (call_does (fun v _ => v = .int .i64 (pick r.d 30)) rfl rfl (by kernel_rfl) rfl (dk rfl) (fun G hG => picked_does hG.wf hr.d (by omega) (by omega))) (QOk_body _ _ _) rfl (by first | exact .inl rfl | exact .inr ⟨_, _, rfl, rfl⟩) ?_
      rintro _ ⟨_, H92, rfl, hn92, rfl⟩
      clear hn92
      have hp92 := pick_bd r.d 30 (by omega)
      simp only [go_sem, simprocAttr]
      refine ⟨by omega, ?_⟩
      refine fin_ret (G := G0) Tryz.results24 ?_
      simp only [go_sem, simprocAttr]
      intro aa w' _ hle
      have hT : recK s r k = { rec0 k with name := nameS r.a, rule := ⟨prefS r.b, pick r.c 12 - 1, pick r.d 30 - 1⟩ } := by unfold recK; rw [if_neg q1, if_neg q2, if_pos q3]
      rw [hT, hpf] at hRK ⊢
      exact ⟨_, _, _, rfl, Sq.nil, Sq.nil, Sq.nil, hRK⟩
     ·refine anyc_ok (N := 3000) (call_does (fun v _ => v = .int .i64 (pick r.c 12)) rfl rfl (by kernel_rfl) rfl (dk rfl) (fun G hG => picked_does hG.wf hr.c (by omega) (by omega))) (QOk_body _ _ _) rfl (by first | exact .inl rfl | exact .inr ⟨_, _, rfl, rfl⟩) ?_
      rintro _ ⟨_, H91, rfl, hn91, rfl⟩
      clear hn91
      have hp91 := pick_bd r.c 12 (by omega)
      simp only [go_sem, simprocAttr]
      refine ⟨by omega, ?_⟩
      refine ⟨?_, ?_⟩
      ·refine anyc_ok (N := 3000) (call_does (fun v _ => v = .int .i64 (pick r.d 30)) rfl rfl (by kernel_rfl) rfl (dk rfl) (fun G hG => picked_does hG.wf hr.d (by omega) (by omega))) (QOk_body _ _ _) rfl (by first | exact .inl rfl | exact .inr ⟨_, _, rfl, rfl⟩) ?_
       rintro _ ⟨_, H92, rfl, hn92, rfl⟩
       clear hn92
       have hp92 := pick_bd r.d 30 (by omega)
       simp only [go_sem, simprocAttr]
       refine ⟨by omega, ?_⟩
       refine fin_ret (G := G0) Tryz.results24 ?_
       simp only [go_sem, simprocAttr]
       intro aa w' _ hle
       have hT : recK s r k = { rec0 k with name := nameS r.a, rule := ⟨prefS r.b, pick r.c 12 - 1, pick r.d 30 - 1⟩ } := by unfold recK; rw [if_neg q1, if_neg q2, if_pos q3]
       rw [hT, hpf] at hRK ⊢
       exact ⟨_, _, _, rfl, Sq.nil, Sq.nil, Sq.nil, hRK⟩
      ·refine anyc_ok (N := 3000) (call_does (fun v _ => v = .int .i64 (pick r.d 30)) rfl rfl (by kernel_rfl) rfl (dk rfl) (fun G hG => picked_does hG.wf hr.d (by omega) (by omega))) (QOk_body _ _ _) rfl (by first | exact .inl rfl | exact .inr ⟨_, _, rfl, rfl⟩) ?_
       rintro _ ⟨_, H92, rfl, hn92, rfl⟩
       clear hn92
       have hp92 := pick_bd r.d 30 (by omega)
       simp only [go_sem, simprocAttr]
       refine ⟨by omega, ?_⟩
       refine fin_ret (G := G0) Tryz.results24 ?_
       simp only [go_sem, simprocAttr]
       intro aa w' _ hle
       have hT : recK s r k = { rec0 k with name := nameS r.a, rule := ⟨prefS r.b, pick r.c 12 - 1, pick r.d 30 - 1⟩ } := by unfold recK; rw [if_neg q1, if_neg q2, if_pos q3]
       rw [hT, hpf] at hRK ⊢
       exact ⟨_, _, _, rfl, Sq.nil, Sq.nil, Sq.nil, hRK⟩
    ·refine anyc_ok (N := 3000) (call_does (fun v _ => v = .int .i64 (pick r.c 12)) rfl rfl (by kernel_rfl) rfl (dk rfl) (fun G hG => picked_does hG.wf hr.c (by omega) (by omega))) (QOk_body _ _ _) rfl (by first | exact .inl rfl | exact .inr ⟨_, _, rfl, rfl⟩) ?_
     rintro _ ⟨_, H91, rfl, hn91, rfl⟩
     clear hn91
     have hp91 := pick_bd r.c 12 (by omega)
     simp only [go_sem, simprocAttr]
     refine ⟨by omega, ?_⟩
     refine ⟨fun g5 => ?_, ?_⟩
     ·refine take_lit (m := 0) rfl tySlice61 tySize9 rfl rfl (dk rfl) rfl hmlt' ?_
      simp only [go_sem, simprocAttr, Nat.mul_one, Nat.zero_mul, Nat.one_mul]
      refine ⟨?_, ?_⟩
      ·refine anyc_ok (N := 3000) (call_does (fun v _ => v = .int .i64 (pick r.d 30)) rfl rfl (by kernel_rfl) rfl (dk rfl) (fun G hG => picked_does hG.wf hr.d (by omega) (by omega))) (QOk_body _ _ _) rfl (by first | exact .inl rfl | exact .inr ⟨_, _, rfl, rfl⟩) ?_
       rintro _ ⟨_, H92, rfl, hn92, rfl⟩
       clear hn92
       have hp92 := pick_bd r.d 30 (by omega)
       simp only [go_sem, simprocAttr]
       refine ⟨by omega, ?_⟩
       refine fin_ret (G := G0) Tryz.results24 ?_
       simp only [go_sem, simprocAttr]
       intro aa w' _ hle
       have hT : recK s r k = { rec0 k with name := nameS r.a, rule := ⟨prefS r.b, pick r.c 12 - 1, pick r.d 30 - 1⟩ } := by unfold recK; rw [if_neg q1, if_neg q2, if_pos q3]
       rw [hT, hpf] at hRK ⊢
       exact ⟨_, _, _, rfl, Sq.nil, Sq.nil, Sq.nil, hRK⟩
      ·refine anyc_ok (N := 3000) (call_does (fun v _ => v = .int .i64 (pick r.d 30)) rfl rfl (by kernel_rfl) rfl (dk rfl) (fun G hG => picked_does hG.wf hr.d (by omega) (by omega))) (QOk_body _ _ _) rfl (by first | exact .inl rfl | exact .inr ⟨_, _, rfl, rfl⟩) ?_
       rintro _ ⟨_, H92, rfl, hn92, rfl⟩
       clear hn92
       have hp92 := pick_bd r.d 30 (by omega)
       simp only [go_sem, simprocAttr]
       refine ⟨by omega, ?_⟩
       refine fin_ret (G := G0) Tryz.results24 ?_
       simp only [go_sem, simprocAttr]
       intro aa w' _ hle
       have hT : recK s r k = { rec0 k with name := nameS r.a, rule := ⟨prefS r.b, pick r.c 12 - 1, pick r.d 30 - 1⟩ } := by unfold recK; rw [if_neg q1, if_neg q2, if_pos q3]
       rw [hT, hpf] at hRK ⊢
       exact ⟨_, _, _, rfl, Sq.nil, Sq.nil, Sq.nil, hRK⟩
     ·refine anyc_ok (N := 3000) (call_does (fun v _ => v = .int .i64 (pick r.d 30)) rfl rfl (by kernel_rfl) rfl (dk rfl) (fun G hG => picked_does hG.wf hr.d (by omega) (by omega))) (QOk_body _ _ _) rfl (by first | exact .inl rfl | exact .inr ⟨_, _, rfl, rfl⟩) ?_
      rintro _ ⟨_, H92, rfl, hn92, rfl⟩
      clear hn92
      have hp92 := pick_bd r.d 30 (by omega)
      simp only [go_sem, simprocAttr]
      refine ⟨by omega, ?_⟩
      intro g5
      refine take_lit (m := 0) rfl tySlice61 tySize9 rfl rfl (dk rfl) rfl hmlt' ?_
      simp only [go_sem, simprocAttr, Nat.mul_one, Nat.zero_mul, Nat.one_mul]
      refine fin_ret (G := G0) Tryz.results24 ?_
      simp only [go_sem, simprocAttr]
      intro aa w' _ hle
      have hT : recK s r k = { rec0 k with name := nameS r.a, rule := ⟨prefS r.b, pick r.c 12 - 1, pick r.d 30 - 1⟩ } := by unfold recK; rw [if_neg q1, if_neg q2, if_pos q3]
      rw [hT, hpf] at hRK ⊢
      exact ⟨_, _, _, rfl, Sq.nil, Sq.nil, Sq.nil, hRK⟩
  ·skip
   have hpf : prefS r.b = ⟨#[121]⟩ := by unfold prefS; rw [hm]; rfl
   refine draw_ok (N := 3000) (.take 1 (.take 2 (.take 6 (.take 7 (.take 10 (.take 11 (.alt 0 (.alt 3 (.take 4 (.alt 5 (.alt 8 (.take 9 (.alt 12 (.take 13 (.take 14 (.take 15 (.alt 16 .done .last)))) .last)) .last) (.alt 8 (.take 9 (.alt 5 (.alt 12 (.take 13 (.take 14 (.take 15 (.alt 16 .done .last)))) .last) (.alt 12 (.take 13 (.alt 5 (.take 14 (.take 15 (.alt 16 .done .last))) .last)) .last))) .last))) .last) (.alt 3 (.alt 0 (.take 4 (.alt 5 (.alt 8 (.take 9 (.alt 12 (.take 13 (.take 14 (.take 15 (.alt 16 .done .last)))) .last)) .last) (.alt 8 (.take 9 (.alt 5 (.alt 12 (.take 13 (.take 14 (.take 15 (.alt 16 .done .last)))) .last) (.alt 12 (.take 13 (.alt 5 (.take 14 (.take 15 (.alt 16 .done .last))) .last)) .last))) .last))) (.alt 8 (.take 9 (.alt 0 (.take 4 (.alt 5 (.alt 12 (.take 13 (.take 14 (.take 15 (.alt 16 .done .last)))) .last) (.alt 12 (.take 13 (.alt 5 (.take 14 (.take 15 (.alt 16 .done .last))) .last)) .last))) (.alt 12 (.take 13 (.alt 0 (.take 4 (.alt 5 (.take 14 (.take 15 (.alt 16 .done .last))) .last)) .last)) .last))) .last)) .last)))))))) [3] (QOk_body _ _ _) follows_mixed (by kernel_rfl) (by kernel_rfl) ?_
   simp only [go_sem, simprocAttr]
   refine ⟨fun g5 => ?_, ?_⟩
   ·refine anyc_ok (N := 3000) (call_does (fun v _ => v = .int .i64 ((1 : Nat) : Int)) rfl rfl (by kernel_rfl) rfl (dk rfl) (fun G hG => by rw [← hm]; exact picked_does hG.wf hr.b (by omega) (by omega))) (QOk_body _ _ _) rfl (by first | exact .inl rfl | exact .inr ⟨_, _, rfl, rfl⟩) ?_
    rintro _ ⟨_, H90, rfl, hn90, rfl⟩
    clear hn90
    simp only [go_sem, simprocAttr]
    refine take_lit (m := 1) rfl tySlice61 tySize9 rfl rfl (dk rfl) rfl hmlt' ?_
    simp only [go_sem, simprocAttr, Nat.mul_one, Nat.zero_mul, Nat.one_mul]
    refine ⟨?_, ?_⟩
    ·refine anyc_ok (N := 3000) (call_does (fun v _ => v = .int .i64 (pick r.c 12)) rfl rfl (by kernel_rfl) rfl (dk rfl) (fun G hG => picked_does hG.wf hr.c (by omega) (by omega))) (QOk_body _ _ _) rfl (by first | exact .inl rfl | exact .inr ⟨_, _, rfl, rfl⟩) ?_
     rintro _ ⟨_, H91, rfl, hn91, rfl⟩
     clear hn91
     have hp91 := pick_bd r.c 12 (by omega)
     simp only [go_sem, simprocAttr]
     refine ⟨by omega, ?_⟩
     refine anyc_ok (N := 3000) (call_does (fun v _ => v = .int .i64 (pick r.d 30)) rfl rfl (by kernel_rfl) rfl (dk rfl) (fun G hG => picked_does hG.wf hr.d (by omega) (by omega))) (QOk_body _ _ _) rfl (by first | exact .inl rfl | exact .inr ⟨_, _, rfl, rfl⟩) ?_
     rintro _ ⟨_, H92, rfl, hn92, rfl⟩
     clear hn92
     have hp92 := pick_bd r.d 30 (by omega)
     simp only [go_sem, simprocAttr]
     refine ⟨by omega, ?_⟩
     refine fin_ret (G := G0) Tryz.results24 ?_
     simp only [go_sem, simprocAttr]
     intro aa w' _ hle
     have hT : recK s r k = { rec0 k with name := nameS r.a, rule := ⟨prefS r.b, pick r.c 12 - 1, pick r.d 30 - 1⟩ } := by unfold recK; rw [if_neg q1, if_neg q2, if_pos q3]
     rw [hT, hpf] at hRK ⊢
     exact ⟨_, _, _, rfl, Sq.nil, Sq.nil, Sq.nil, hRK⟩
    ·refine anyc_ok (N := 3000) (call_does (fun v _ => v = .int .i64 (pick r.c 12)) rfl rfl (by kernel_rfl) rfl (dk rfl) (fun G hG => picked_does hG.wf hr.c (by omega) (by omega))) (QOk_body _ _ _) rfl (by first | exact .inl rfl | exact .inr ⟨_, _, rfl, rfl⟩) ?_
     rintro _ ⟨_, H91, rfl, hn91, rfl⟩
     clear hn91
     have hp91 := pick_bd r.c 12 (by omega)
     simp only [go_sem, simprocAttr]
     refine ⟨by omega, ?_⟩
     refine ⟨?_, ?_⟩
     ·refine anyc_ok (N := 3000) (call_does (fun v _ => v = .int .i64 (pick r.d 30)) rfl rfl (by kernel_rfl) rfl (dk rfl) (fun G hG => picked_does hG.wf hr.d (by omega) (by omega))) (QOk_body _ _ _) rfl (by first | exact .inl rfl | exact .inr ⟨_, _, rfl, rfl⟩) ?_
      rintro _ ⟨_, H92, rfl, hn92, rfl⟩
      clear hn92
      have hp92 := pick_bd r.d 30 (by omega)
      simp only [go_sem, simprocAttr]
      refine ⟨by omega, ?_⟩
      refine fin_ret (G := G0) Tryz.results24 ?_
      simp only [go_sem, simprocAttr]
      intro aa w' _ hle
      have hT : recK s r k = { rec0 k with name := nameS r.a, rule := ⟨prefS r.b, pick r.c 12 - 1, pick r.d 30 - 1⟩ } := by unfold recK; rw [if_neg q1, if_neg q2, if_pos q3]
      rw [hT, hpf] at hRK ⊢
      exact ⟨_, _, _, rfl, Sq.nil, Sq.nil, Sq.nil, hRK⟩
     ·refine anyc_ok (N := 3000) (call_does (fun v _ => v = .int .i64 (pick r.d 30)) rfl rfl (by kernel_rfl) rfl (dk rfl) (fun G hG => picked_does hG.wf hr.d (by omega) (by omega))) (QOk_body _ _ _) rfl (by first | exact .inl rfl | exact .inr ⟨_, _, rfl, rfl⟩) ?_
      rintro _ ⟨_, H92, rfl, hn92, rfl⟩
      clear hn92
      have hp92 := pick_bd r.d 30 (by omega)
      simp only [go_sem, simprocAttr]
      refine ⟨by omega, ?_⟩
      refine fin_ret (G := G0) Tryz.results24 ?_
      simp only [go_sem, simprocAttr]
      intro aa w' _ hle
      have hT : recK s r k = { rec0 k with name := nameS r.a, rule := ⟨prefS r.b, pick r.c 12 - 1, pick r.d 30 - 1⟩ } := by unfold recK; rw [if_neg q1, if_neg q2, if_pos q3]
      rw [hT, hpf] at hRK ⊢
      exact ⟨_, _, _, rfl, Sq.nil, Sq.nil, Sq.nil, hRK⟩
   ·refine anyc_ok (N := 3000) (call_does (fun v _ => v = .int .i64 ((1 : Nat) : Int)) rfl rfl (by kernel_rfl) rfl (dk rfl) (fun G hG => by rw [← hm]; exact picked_does hG.wf hr.b (by omega) (by omega))) (QOk_body _ _ _) rfl (by first | exact .inl rfl | exact .inr ⟨_, _, rfl, rfl⟩) ?_
    rintro _ ⟨_, H90, rfl, hn90, rfl⟩
    clear hn90
    simp only [go_sem, simprocAttr]
    refine ⟨fun g5 => ?_, ?_⟩
    ·refine take_lit (m := 1) rfl tySlice61 tySize9 rfl rfl (dk rfl) rfl hmlt' ?_
     simp only [go_sem, simprocAttr, Nat.mul_one, Nat.zero_mul, Nat.one_mul]
     refine ⟨?_, ?_⟩
     ·refine anyc_ok (N := 3000) (call_does (fun v _ => v = .int .i64 (pick r.c 12)) rfl rfl (by kernel_rfl) rfl (dk rfl) (fun G hG => picked_does hG.wf hr.c (by omega) (by omega))) (QOk_body _ _ _) rfl (by first | exact .inl rfl | exact .inr ⟨_, _, rfl, rfl⟩) ?_
      rintro _ ⟨_, H91, rfl, hn91, rfl⟩
      clear hn91
      have hp91 := pick_bd r.c 12 (by omega)
      simp only [go_sem, simprocAttr]
      refine ⟨by omega, ?_⟩
      refine anyc_ok (N := 3000) (call_does (fun v _ => v = .int .i64 (pick r.d 30)) rfl rfl (by kernel_rfl) rfl (dk rfl) (fun G hG => picked_does hG.wf hr.d (by omega) (by omega))) (QOk_body _ _ _) rfl (by first | exact .inl rfl | exact .inr ⟨_, _, rfl, rfl⟩) ?_
      rintro _ ⟨_, H92, rfl, hn92, rfl⟩
      clear hn92
      have hp92 := pick_bd r.d 30 (by omega)
      simp only [go_sem, simprocAttr]
      refine ⟨by omega, ?_⟩
      refine fin_ret (G := G0) Tryz.results24 ?_
      simp only [go_sem, simprocAttr]
      intro aa w' _ hle
      have hT : recK s r k = { rec0 k with name := nameS r.a, rule := ⟨prefS r.b, pick r.c 12 - 1, pick r.d 30 - 1⟩ } := by unfold recK; rw [if_neg q1, if_neg q2, if_pos q3]
      rw [hT, hpf] at hRK ⊢
      exact ⟨_, _, _, rfl, Sq.nil, Sq.nil, Sq.nil, hRK⟩
     ·refine anyc_ok (N := 3000) (call_does (fun v _ => v = .int .i64 (pick r.c 12)) rfl rfl (by kernel_rfl) rfl (dk rfl) (fun G hG => picked_does hG.wf hr.c (by omega) (by omega))) (QOk_body _ _ _) rfl (by first | exact .inl rfl | exact .inr ⟨_, _, rfl, rfl⟩) ?_
      rintro _ ⟨_, H91, rfl, hn91, rfl⟩
      clear hn91
      have hp91 := pick_bd r.c 12 (by omega)
      simp only [go_sem, simprocAttr]
      refine ⟨by omega, ?_⟩
      refine ⟨?_, ?_⟩
      ·refine anyc_ok (N := 3000) (call_does (fun v _ => v = .int .i64 (pick r.d 30)) rfl rfl (by kernel_rfl) rfl (dk rfl) (fun G hG => picked_does hG.wf hr.d (by omega) (by omega))) (QOk_body _ _ _) rfl (by first | exact .inl rfl | exact .inr ⟨_, _, rfl, rfl⟩) ?_
       rintro _ ⟨_, H92, rfl, hn92, rfl⟩
       clear hn92
       have hp92 := pick_bd r.d 30 (by omega)
       simp only [go_sem, simprocAttr]
       refine ⟨by omega, ?_⟩
       refine fin_ret (G := G0) Tryz.results24 ?_
       simp only [go_sem, simprocAttr]
       intro aa w' _ hle
       have hT : recK s r k = { rec0 k with name := nameS r.a, rule := ⟨prefS r.b, pick r.c 12 - 1, pick r.d 30 - 1⟩ } := by unfold recK; rw [if_neg q1, if_neg q2, if_pos q3]
       rw [hT, hpf] at hRK ⊢
       exact ⟨_, _, _, rfl, Sq.nil, Sq.nil, Sq.nil, hRK⟩
      ·refine anyc_ok (N := 3000) (call_does (fun v _ => v = .int .i64 (pick r.d 30)) rfl rfl (by kernel_rfl) rfl (dk rfl) (fun G hG => picked_does hG.wf hr.d (by omega) (by omega))) (QOk_body _ _ _) rfl (by first | exact .inl rfl | exact .inr ⟨_, _, rfl, rfl⟩) ?_
       rintro _ ⟨_, H92, rfl, hn92, rfl⟩
       clear hn92
       have hp92 := pick_bd r.d 30 (by omega)
       simp only [go_sem, simprocAttr]
       refine ⟨by omega, ?_⟩
       refine fin_ret (G := G0) Tryz.results24 ?_
       simp only [go_sem, simprocAttr]
       intro aa w' _ hle
       have hT : recK s r k = { rec0 k with name := nameS r.a, rule := ⟨prefS r.b, pick r.c 12 - 1, pick r.d 30 - 1⟩ } := by unfold recK; rw [if_neg q1, if_neg q2, if_pos q3]
       rw [hT, hpf] at hRK ⊢
       exact ⟨_, _, _, rfl, Sq.nil, Sq.nil, Sq.nil, hRK⟩
    ·refine anyc_ok (N := 3000) (call_does (fun v _ => v = .int .i64 (pick r.c 12)) rfl rfl (by kernel_rfl) rfl (dk rfl) (fun G hG => picked_does hG.wf hr.c (by omega) (by omega))) (QOk_body _ _ _) rfl (by first | exact .inl rfl | exact .inr ⟨_, _, rfl, rfl⟩) ?_
     rintro _ ⟨_, H91, rfl, hn91, rfl⟩
     clear hn91
     have hp91 := pick_bd r.c 12 (by omega)
     simp only [go_sem, simprocAttr]
     refine ⟨by omega, ?_⟩
     refine ⟨fun g5 => ?_, ?_⟩
     ·refine take_lit (m := 1) rfl tySlice61 tySize9 rfl rfl (dk rfl) rfl hmlt' ?_
      simp only [go_sem, simprocAttr, Nat.mul_one, Nat.zero_mul, Nat.one_mul]
      refine ⟨?_, ?_⟩
      ·refine anyc_ok (N := 3000) (call_does (fun v _ => v = .int .i64 (pick r.d 30)) rfl rfl (by kernel_rfl) rfl (dk rfl) (fun G hG => picked_does hG.wf hr.d (by omega) (by omega))) (QOk_body _ _ _) rfl (by first | exact .inl rfl | exact .inr ⟨_, _, rfl, rfl⟩) ?_
       rintro _ ⟨_, H92, rfl, hn92, rfl⟩
       clear hn92
       have hp92 := pick_bd r.d 30 (by omega)
       simp only [go_sem, simprocAttr]
       refine ⟨by omega, ?_⟩
       refine fin_ret (G := G0) Tryz.results24 ?_
       simp only [go_sem, simprocAttr]
       intro aa w' _ hle
       have hT : recK s r k = { rec0 k with name := nameS r.a, rule := ⟨prefS r.b, pick r.c 12 - 1, pick r.d 30 - 1⟩ } := by unfold recK; rw [if_neg q1, if_neg q2, if_pos q3]
       rw [hT, hpf] at hRK ⊢
       exact ⟨_, _, _, rfl, Sq.nil, Sq.nil, Sq.nil, hRK⟩
      ·refine anyc_ok (N := 3000) (call_does (fun v _ => v = .int .i64 (pick r.d 30)) rfl rfl (by kernel_rfl) rfl (dk rfl) (fun G hG => picked_does hG.wf hr.d (by omega) (by omega))) (QOk_body _ _ _) rfl (by first | exact .inl rfl | exact .inr ⟨_, _, rfl, rfl⟩) ?_
       rintro _ ⟨_, H92, rfl, hn92, rfl⟩
       clear hn92
       have hp92 := pick_bd r.d 30 (by omega)
       simp only [go_sem, simprocAttr]
       refine ⟨by omega, ?_⟩
       refine fin_ret (G := G0) Tryz.results24 ?_
       simp only [go_sem, simprocAttr]
       intro aa w' _ hle
       have hT : recK s r k = { rec0 k with name := nameS r.a, rule := ⟨prefS r.b, pick r.c 12 - 1, pick r.d 30 - 1⟩ } := by unfold recK; rw [if_neg q1, if_neg q2, if_pos q3]
       rw [hT, hpf] at hRK ⊢
       exact ⟨_, _, _, rfl, Sq.nil, Sq.nil, Sq.nil, hRK⟩
     ·refine anyc_ok (N := 3000) (call_does (fun v _ => v = .int .i64 (pick r.d 30)) rfl rfl (by kernel_rfl) rfl (dk rfl) (fun G hG => picked_does hG.wf hr.d (by omega) (by omega))) (QOk_body _ _ _) rfl (by first | exact .inl rfl | exact .inr ⟨_, _, rfl, rfl⟩) ?_
      rintro _ ⟨_, H92, rfl, hn92, rfl⟩
      clear hn92
      have hp92 := pick_bd r.d 30 (by omega)
      simp only [go_sem, simprocAttr]
      refine ⟨by omega, ?_⟩
      intro g5
      refine take_lit (m := 1) rfl tySlice61 tySize9 rfl rfl (dk rfl) rfl hmlt' ?_
      simp only [go_sem, simprocAttr, Nat.mul_one, Nat.zero_mul, Nat.one_mul]
      refine fin_ret (G := G0) Tryz.results24 ?_
      simp only [go_sem, simprocAttr]
      intro aa w' _ hle
      have hT : recK s r k = { rec0 k with name := nameS r.a, rule := ⟨prefS r.b, pick r.c 12 - 1, pick r.d 30 - 1⟩ } := by unfold recK; rw [if_neg q1, if_neg q2, if_pos q3]
      rw [hT, hpf] at hRK ⊢
      exact ⟨_, _, _, rfl, Sq.nil, Sq.nil, Sq.nil, hRK⟩
  ·skip
   have hpf : prefS r.b = ⟨#[122, 47]⟩ := by unfold prefS; rw [hm]; rfl
   refine draw_ok (N := 3000) (.take 1 (.take 2 (.take 6 (.take 7 (.take 10 (.take 11 (.alt 0 (.alt 3 (.take 4 (.alt 5 (.alt 8 (.take 9 (.alt 12 (.take 13 (.take 14 (.take 15 (.alt 16 .done .last)))) .last)) .last) (.alt 8 (.take 9 (.alt 5 (.alt 12 (.take 13 (.take 14 (.take 15 (.alt 16 .done .last)))) .last) (.alt 12 (.take 13 (.alt 5 (.take 14 (.take 15 (.alt 16 .done .last))) .last)) .last))) .last))) .last) (.alt 3 (.alt 0 (.take 4 (.alt 5 (.alt 8 (.take 9 (.alt 12 (.take 13 (.take 14 (.take 15 (.alt 16 .done .last)))) .last)) .last) (.alt 8 (.take 9 (.alt 5 (.alt 12 (.take 13 (.take 14 (.take 15 (.alt 16 .done .last)))) .last) (.alt 12 (.take 13 (.alt 5 (.take 14 (.take 15 (.alt 16 .done .last))) .last)) .last))) .last))) (.alt 8 (.take 9 (.alt 0 (.take 4 (.alt 5 (.alt 12 (.take 13 (.take 14 (.take 15 (.alt 16 .done .last)))) .last) (.alt 12 (.take 13 (.alt 5 (.take 14 (.take 15 (.alt 16 .done .last))) .last)) .last))) (.alt 12 (.take 13 (.alt 0 (.take 4 (.alt 5 (.take 14 (.take 15 (.alt 16 .done .last))) .last)) .last)) .last))) .last)) .last)))))))) [3] (QOk_body _ _ _) follows_mixed (by kernel_rfl) (by kernel_rfl) ?_
   simp only [go_sem, simprocAttr]
   refine ⟨fun g5 => ?_, ?_⟩
   ·refine anyc_ok (N := 3000) (call_does (fun v _ => v = .int .i64 ((2 : Nat) : Int)) rfl rfl (by kernel_rfl) rfl (dk rfl) (fun G hG => by rw [← hm]; exact picked_does hG.wf hr.b (by omega) (by omega))) (QOk_body _ _ _) rfl (by first | exact .inl rfl | exact .inr ⟨_, _, rfl, rfl⟩) ?_
    rintro _ ⟨_, H90, rfl, hn90, rfl⟩
    clear hn90
    simp only [go_sem, simprocAttr]
    refine take_lit (m := 2) rfl tySlice61 tySize9 rfl rfl (dk rfl) rfl hmlt' ?_
    simp only [go_sem, simprocAttr, Nat.mul_one, Nat.zero_mul, Nat.one_mul]
    refine ⟨?_, ?_⟩
    ·refine anyc_ok (N := 3000) (call_does (fun v _ => v = .int .i64 (pick r.c 12)) rfl rfl (by kernel_rfl) rfl (dk rfl) (fun G hG => picked_does hG.wf hr.c (by omega) (by omega))) (QOk_body _ _ _) rfl (by first | exact .inl rfl | exact .inr ⟨_, _, rfl, rfl⟩) ?_
     rintro _ ⟨_, H91, rfl, hn91, rfl⟩
     clear hn91
     have hp91 := pick_bd r.c 12 (by omega)
     simp only [go_sem, simprocAttr]
     refine ⟨by omega, ?_⟩
     refine anyc_ok (N := 3000) (call_does (fun v _ => v = .int .i64 (pick r.d 30)) rfl rfl (by kernel_rfl) rfl (dk rfl) (fun G hG => picked_does hG.wf hr.d (by omega) (by omega))) (QOk_body _ _ _) rfl (by first | exact .inl rfl | exact .inr ⟨_, _, rfl, rfl⟩) ?_
     rintro _ ⟨_, H92, rfl, hn92, rfl⟩
     clear hn92
     have hp92 := pick_bd r.d 30 (by omega)
     simp only [go_sem, simprocAttr]
     refine ⟨by omega, ?_⟩
     refine fin_ret (G := G0) Tryz.results24 ?_
     simp only [go_sem, simprocAttr]
     intro aa w' _ hle
     have hT : recK s r k = { rec0 k with name := nameS r.a, rule := ⟨prefS r.b, pick r.c 12 - 1, pick r.d 30 - 1⟩ } := by unfold recK; rw [if_neg q1, if_neg q2, if_pos q3]
     rw [hT, hpf] at hRK ⊢
     exact ⟨_, _, _, rfl, Sq.nil, Sq.nil, Sq.nil, hRK⟩
    ·refine anyc_ok (N := 3000) (call_does (fun v _ => v = .int .i64 (pick r.c 12)) rfl rfl (by kernel_rfl) rfl (dk rfl) (fun G hG => picked_does hG.wf hr.c (by omega) (by omega))) (QOk_body _ _ _) rfl (by first | exact .inl rfl | exact .inr ⟨_, _, rfl, rfl⟩) ?_
     rintro _ ⟨_, H91, rfl, hn91, rfl⟩
     clear hn91
     have hp91 := pick_bd r.c 12 (by omega)
     simp only [go_sem, simprocAttr]
     refine ⟨by omega, ?_⟩
     refine ⟨?_, ?_⟩
     ·refine anyc_ok (N := 3000) (call_does (fun v _ => v = .int .i64 (pick r.d 30)) rfl rfl (by kernel_rfl) rfl (dk rfl) (fun G hG => picked_does hG.wf hr.d (by omega) (by omega))) (QOk_body _ _ _) rfl (by first | exact .inl rfl | exact .inr ⟨_, _, rfl, rfl⟩) ?_
      rintro _ ⟨_, H92, rfl, hn92, rfl⟩
      clear hn92
      have hp92 := pick_bd r.d 30 (by omega)
      simp only [go_sem, simprocAttr]
      refine ⟨by omega, ?_⟩
      refine fin_ret (G := G0) Tryz.results24 ?_
      simp only [go_sem, simprocAttr]
      intro aa w' _ hle
      have hT : recK s r k = { rec0 k with name := nameS r.a, rule := ⟨prefS r.b, pick r.c 12 - 1, pick r.d 30 - 1⟩ } := by unfold recK; rw [if_neg q1, if_neg q2, if_pos q3]
      rw [hT, hpf] at hRK ⊢
      exact ⟨_, _, _, rfl, Sq.nil, Sq.nil, Sq.nil, hRK⟩
     ·refine anyc_ok (N := 3000) (call_does (fun v _ => v = .int .i64 (pick r.d 30)) rfl rfl (by kernel_rfl) rfl (dk rfl) (fun G hG => picked_does hG.wf hr.d (by omega) (by omega))) (QOk_body _ _ _) rfl (by first | exact .inl rfl | exact .inr ⟨_, _, rfl, rfl⟩) ?_
      rintro _ ⟨_, H92, rfl, hn92, rfl⟩
      clear hn92
      have hp92 := pick_bd r.d 30 (by omega)
      simp only [go_sem, simprocAttr]
      refine ⟨by omega, ?_⟩
      refine fin_ret (G := G0) Tryz.results24 ?_
      simp only [go_sem, simprocAttr]
      intro aa w' _ hle
      have hT : recK s r k = { rec0 k with name := nameS r.a, rule := ⟨prefS r.b, pick r.c 12 - 1, pick r.d 30 - 1⟩ } := by unfold recK; rw [if_neg q1, if_neg q2, if_pos q3]
      rw [hT, hpf] at hRK ⊢
      exact ⟨_, _, _, rfl, Sq.nil, Sq.nil, Sq.nil, hRK⟩
   ·refine anyc_ok (N := 3000) (call_does (fun v _ => v = .int .i64 ((2 : Nat) : Int)) rfl rfl (by kernel_rfl) rfl (dk rfl) (fun G hG => by rw [← hm]; exact picked_does hG.wf hr.b (by omega) (by omega))) (QOk_body _ _ _) rfl (by first | exact .inl rfl | exact .inr ⟨_, _, rfl, rfl⟩) ?_
    rintro _ ⟨_, H90, rfl, hn90, rfl⟩
    clear hn90
    simp only [go_sem, simprocAttr]
    refine ⟨fun g5 => ?_, ?_⟩
    ·refine take_lit (m := 2) rfl tySlice61 tySize9 rfl rfl (dk rfl) rfl hmlt' ?_
     simp only [go_sem, simprocAttr, Nat.mul_one, Nat.zero_mul, Nat.one_mul]
     refine ⟨?_, ?_⟩
     ·refine anyc_ok (N := 3000) (call_does (fun v _ => v = .int .i64 (pick r.c 12)) rfl rfl (by kernel_rfl) rfl (dk rfl) (fun G hG => picked_does hG.wf hr.c (by omega) (by omega))) (QOk_body _ _ _) rfl (by first | exact .inl rfl | exact .inr ⟨_, _, rfl, rfl⟩) ?_
      rintro _ ⟨_, H91, rfl, hn91, rfl⟩
      clear hn91
      have hp91 := pick_bd r.c 12 (by omega)
      simp only [go_sem, simprocAttr]
      refine ⟨by omega, ?_⟩
      refine anyc_ok (N := 3000) (call_does (fun v _ => v = .int .i64 (pick r.d 30)) rfl rfl (by kernel_rfl) rfl (dk rfl) (fun G hG => picked_does hG.wf hr.d (by omega) (by omega))) (QOk_body _ _ _) rfl (by first | exact .inl rfl | exact .inr ⟨_, _, rfl, rfl⟩) ?_
      rintro _ ⟨_, H92, rfl, hn92, rfl⟩
      clear hn92
      have hp92 := pick_bd r.d 30 (by omega)
      simp only [go_sem, simprocAttr]
      refine ⟨by omega, ?_⟩
      refine fin_ret (G := G0) Tryz.results24 ?_
      simp only [go_sem, simprocAttr]
      intro aa w' _ hle
      have hT : recK s r k = { rec0 k with name := nameS r.a, rule := ⟨prefS r.b, pick r.c 12 - 1, pick r.d 30 - 1⟩ } := by unfold recK; rw [if_neg q1, if_neg q2, if_pos q3]
      rw [hT, hpf] at hRK ⊢
      exact ⟨_, _, _, rfl, Sq.nil, Sq.nil, Sq.nil, hRK⟩
     ·refine anyc_ok (N := 3000) (call_does (fun v _ => v = .int .i64 (pick r.c 12)) rfl rfl (by kernel_rfl) rfl (dk rfl) (fun G hG => picked_does hG.wf hr.c (by omega) (by omega))) (QOk_body _ _ _) rfl (by first | exact .inl rfl | exact .inr ⟨_, _, rfl, rfl⟩) ?_
      rintro _ ⟨_, H91, rfl, hn91, rfl⟩
      clear hn91
      have hp91 := pick_bd r.c 12 (by omega)
      simp only [go_sem, simprocAttr]
      refine ⟨by omega, ?_⟩
      refine ⟨?_, ?_⟩
      ·refine anyc_ok (N := 3000) (call_does (fun v _ => v = .int .i64 (pick r.d 30)) rfl rfl (by kernel_rfl) rfl (dk rfl) (fun G hG => picked_does hG.wf hr.d (by omega) (by omega))) (QOk_body _ _ _) rfl (by first | exact .inl rfl | exact .inr ⟨_, _, rfl, rfl⟩) ?_
       rintro _ ⟨_, H92, rfl, hn92, rfl⟩
       clear hn92
       have hp92 := pick_bd r.d 30 (by omega)
       simp only [go_sem, simprocAttr]
       refine ⟨by omega, ?_⟩
       refine fin_ret (G := G0) Tryz.results24 ?_
       simp only [go_sem, simprocAttr]
       intro aa w' _ hle
       have hT : recK s r k = { rec0 k with name := nameS r.a, rule := ⟨prefS r.b, pick r.c 12 - 1, pick r.d 30 - 1⟩ } := by unfold recK; rw [if_neg q1, if_neg q2, if_pos q3]
       rw [hT, hpf] at hRK ⊢
       exact ⟨_, _, _, rfl, Sq.nil, Sq.nil, Sq.nil, hRK⟩
      ·refine anyc_ok (N := 3000) (call_does (fun v _ => v = .int .i64 (pick r.d 30)) rfl rfl (by kernel_rfl) rfl (dk rfl) (fun G hG => picked_does hG.wf hr.d (by omega) (by omega))) (QOk_body _ _ _) rfl (by first | exact .inl rfl | exact .inr ⟨_, _, rfl, rfl⟩) ?_
       rintro _ ⟨_, H92, rfl, hn92, rfl⟩
       clear hn92
       have hp92 := pick_bd r.d 30 (by omega)
       simp only [go_sem, simprocAttr]
       refine ⟨by omega, ?_⟩
       refine fin_ret (G := G0) Tryz.results24 ?_
       simp only [go_sem, simprocAttr]
       intro aa w' _ hle
       have hT : recK s r k = { rec0 k with name := nameS r.a, rule := ⟨prefS r.b, pick r.c 12 - 1, pick r.d 30 - 1⟩ } := by unfold recK; rw [if_neg q1, if_neg q2, if_pos q3]
       rw [hT, hpf] at hRK ⊢
       exact ⟨_, _, _, rfl, Sq.nil, Sq.nil, Sq.nil, hRK⟩
    ·refine anyc_ok (N := 3000) (call_does (fun v _ => v = .int .i64 (pick r.c 12)) rfl rfl (by kernel_rfl) rfl (dk rfl) (fun G hG => picked_does hG.wf hr.c (by omega) (by omega))) (QOk_body _ _ _) rfl (by first | exact .inl rfl | exact .inr ⟨_, _, rfl, rfl⟩) ?_
     rintro _ ⟨_, H91, rfl, hn91, rfl⟩
     clear hn91
     have hp91 := pick_bd r.c 12 (by omega)
     simp only [go_sem, simprocAttr]
     refine ⟨by omega, ?_⟩
     refine ⟨fun g5 => ?_, ?_⟩
     ·refine take_lit (m := 2) rfl tySlice61 tySize9 rfl rfl (dk rfl) rfl hmlt' ?_
      simp only [go_sem, simprocAttr, Nat.mul_one, Nat.zero_mul, Nat.one_mul]
      refine ⟨?_, ?_⟩
      ·refine anyc_ok (N := 3000) (call_does (fun v _ => v = .int .i64 (pick r.d 30)) rfl rfl (by kernel_rfl) rfl (dk rfl) (fun G hG => picked_does hG.wf hr.d (by omega) (by omega))) (QOk_body _ _ _) rfl (by first | exact .inl rfl | exact .inr ⟨_, _, rfl, rfl⟩) ?_
       rintro _ ⟨_, H92, rfl, hn92, rfl⟩
       clear hn92
       have hp92 := pick_bd r.d 30 (by omega)
       simp only [go_sem, simprocAttr]
       refine ⟨by omega, ?_⟩
       refine fin_ret (G := G0) Tryz.results24 ?_
       simp only [go_sem, simprocAttr]
       intro aa w' _ hle
       have hT : recK s r k = { rec0 k with name := nameS r.a, rule := ⟨prefS r.b, pick r.c 12 - 1, pick r.d 30 - 1⟩ } := by unfold recK; rw [if_neg q1, if_neg q2, if_pos q3]
       rw [hT, hpf] at hRK ⊢
       exact ⟨_, _, _, rfl, Sq.nil, Sq.nil, Sq.nil, hRK⟩
      ·refine anyc_ok (N := 3000) (call_does (fun v _ => v = .int .i64 (pick r.d 30)) rfl rfl (by kernel_rfl) rfl (dk rfl) (fun G hG => picked_does hG.wf hr.d (by omega) (by omega))) (QOk_body _ _ _) rfl (by first | exact .inl rfl | exact .inr ⟨_, _, rfl, rfl⟩) ?_
       rintro _ ⟨_, H92, rfl, hn92, rfl⟩
       clear hn92
       have hp92 := pick_bd r.d 30 (by omega)
       simp only [go_sem, simprocAttr]
       refine ⟨by omega, ?_⟩
       refine fin_ret (G := G0) Tryz.results24 ?_
       simp only [go_sem, simprocAttr]
       intro aa w' _ hle
       have hT : recK s r k = { rec0 k with name := nameS r.a, rule := ⟨prefS r.b, pick r.c 12 - 1, pick r.d 30 - 1⟩ } := by unfold recK; rw [if_neg q1, if_neg q2, if_pos q3]
       rw [hT, hpf] at hRK ⊢
       exact ⟨_, _, _, rfl, Sq.nil, Sq.nil, Sq.nil, hRK⟩
     ·refine anyc_ok (N := 3000) (call_does (fun v _ => v = .int .i64 (pick r.d 30)) rfl rfl (by kernel_rfl) rfl (dk rfl) (fun G hG => picked_does hG.wf hr.d (by omega) (by omega))) (QOk_body _ _ _) rfl (by first | exact .inl rfl | exact .inr ⟨_, _, rfl, rfl⟩) ?_
      rintro _ ⟨_, H92, rfl, hn92, rfl⟩
      clear hn92
      have hp92 := pick_bd r.d 30 (by omega)
      simp only [go_sem, simprocAttr]
      refine ⟨by omega, ?_⟩
      intro g5
      refine take_lit (m := 2) rfl tySlice61 tySize9 rfl rfl (dk rfl) rfl hmlt' ?_
      simp only [go_sem, simprocAttr, Nat.mul_one, Nat.zero_mul, Nat.one_mul]
      refine fin_ret (G := G0) Tryz.results24 ?_
      simp only [go_sem, simprocAttr]
      intro aa w' _ hle
      have hT : recK s r k = { rec0 k with name := nameS r.a, rule := ⟨prefS r.b, pick r.c 12 - 1, pick r.d 30 - 1⟩ } := by unfold recK; rw [if_neg q1, if_neg q2, if_pos q3]
      rw [hT, hpf] at hRK ⊢
      exact ⟨_, _, _, rfl, Sq.nil, Sq.nil, Sq.nil, hRK⟩
 have q3 := of_decide_eq_false q3'
 refine Wb_mk (fun q4' => ?_) (fun q4' => ?_)
 ·have q4 := of_decide_eq_true q4'
  refine pk (call_does (fun v _ => v = .int .i64 (pick r.c 200)) rfl rfl (by kernel_rfl) rfl (dk rfl) (fun G hG => picked_does hG.wf hr.c (by omega) (by omega))) ?_
  rintro _ ⟨_, H5, rfl, hn5, rfl⟩
  clear hn5
  have hp5 := pick_bd r.c 200 (by omega)
  simp only [go_sem, simprocAttr]
  refine draw_ok (N := 3000) (.take 0 (.take 1 (.take 2 (.take 3 (.take 5 (.take 6 (.take 8 (.take 9 (.take 12 (.take 13 (.take 14 (.take 15 (.take 16 (.alt 4 (.alt 7 (.alt 10 (.take 11 (.alt 17 (.take 18 (.take 19 (.alt 20 .done .last))) .last)) .last) .last) .last)))))))))))))) [3] (QOk_body _ _ _) follows_mixed (by kernel_rfl) (by kernel_rfl) ?_
  simp only [go_sem, simprocAttr]
  refine ⟨by omega, ?_⟩
  refine anyc_ok (N := 3000) (call_does (fun v _ => v = .string (nameS r.a)) rfl rfl (by kernel_rfl) rfl (dk rfl) (fun G hG => name_does hG.wf hr.a)) (QOk_body _ _ _) rfl (by first | exact .inl rfl | exact .inr ⟨_, _, rfl, rfl⟩) ?_
  rintro _ ⟨_, H26, rfl, hn26, rfl⟩
  clear hn26
  simp only [go_sem, simprocAttr]
  refine anyc_ok (N := 3000) (call_does (fun v _ => v = .string (keyS r.b)) rfl rfl (by kernel_rfl) rfl (dk rfl) (fun G hG => key_does hG.wf hr.b)) (QOk_body _ _ _) rfl (by first | exact .inl rfl | exact .inr ⟨_, _, rfl, rfl⟩) ?_
  rintro _ ⟨_, H27, rfl, hn27, rfl⟩
  clear hn27
  simp only [go_sem, simprocAttr]
  refine anyc_ok (N := 3000) (call_does (fun v _ => v = .int .i64 (pick r.d 3)) rfl rfl (by kernel_rfl) rfl (dk rfl) (fun G hG => picked_does hG.wf hr.d (by omega) (by omega))) (QOk_body _ _ _) rfl (by first | exact .inl rfl | exact .inr ⟨_, _, rfl, rfl⟩) ?_
  rintro _ ⟨_, H28, rfl, hn28, rfl⟩
  clear hn28
  have hp28 := pick_bd r.d 3 (by omega)
  simp only [go_sem, simprocAttr]
  refine anyc_ok (N := 3000) (call_does (fun v _ => v = .int .i64 (pick r.c (s.clock + 1))) rfl rfl (by kernel_rfl) rfl (dk rfl) (fun G hG => picked_does hG.wf hr.c (by omega) (by omega))) (QOk_body _ _ _) rfl (by first | exact .inl rfl | exact .inr ⟨_, _, rfl, rfl⟩) ?_
  rintro _ ⟨_, H29, rfl, hn29, rfl⟩
  clear hn29
  simp only [go_sem, simprocAttr]
  refine pk (call_does (fun v _ => v = .int .i64 (pick r.d 5)) rfl rfl (by kernel_rfl) rfl (dk rfl) (fun G hG => picked_does hG.wf hr.d (by omega) (by omega))) ?_
  rintro _ ⟨_, H30, rfl, hn30, rfl⟩
  clear hn30
  have hp30 := pick_bd r.d 5 (by omega)
  simp only [go_sem, simprocAttr]
  refine Wb_mk (fun hm5 => ?_) (fun hm5 => ?_)
  ·have hv9 := of_decide_eq_true hm5
   refine fin_ret (G := G0) Tryz.results24 ?_
   simp only [go_sem, simprocAttr]
   intro aa w' _ hle
   have hT : recK s r k = { rec0 k with ver := { noV with id := s.next, bucket := nameS r.a, key := keyS r.b, null := decide (pick r.d 3 = 0), time := pick r.c (s.clock + 1), marker := true } } := by unfold recK; rw [if_neg q1, if_neg q2, if_neg q3, if_pos q4, show newV s r = { noV with id := s.next, bucket := nameS r.a, key := keyS r.b, null := decide (pick r.d 3 = 0), time := pick r.c (s.clock + 1), marker := true } from by unfold newV; rw [if_pos hv9]]
   rw [hT] at hRK ⊢
   exact ⟨_, _, _, rfl, Sq.nil, Sq.nil, Sq.nil, hRK⟩
  ·have hv9 := of_decide_eq_false hm5
   refine pk (call_does (fun y G => IntsG G y (sectorsS s (pick r.c 200))) rfl rfl (by kernel_rfl) rfl (dk rfl) (fun G hG => sectorsOf_does hG.wf (hP.mono (hG.le G0 (by simp))).g (by omega) (by omega))) ?_
   rintro _ ⟨_, H31, hO31, hn31, rfl⟩
   clear hn31
   obtain ⟨As31, cs31, rfl, _⟩ := Sq.form hO31
   simp only [go_sem, simprocAttr]
   refine fin_ret (G := G0) Tryz.results24 ?_
   simp only [go_sem, simprocAttr]
   intro aa w' _ hle
   have hT : recK s r k = { rec0 k with ver := { noV with id := s.next, bucket := nameS r.a, key := keyS r.b, null := decide (pick r.d 3 = 0), time := pick r.c (s.clock + 1), size := pick r.c 200, tier := 1, secs := sectorsS s (pick r.c 200) } } := by unfold recK; rw [if_neg q1, if_neg q2, if_neg q3, if_pos q4, show newV s r = { noV with id := s.next, bucket := nameS r.a, key := keyS r.b, null := decide (pick r.d 3 = 0), time := pick r.c (s.clock + 1), size := pick r.c 200, tier := 1, secs := sectorsS s (pick r.c 200) } from by unfold newV; rw [if_neg hv9]]
   rw [hT] at hRK ⊢
   exact ⟨_, _, _, rfl, hO31.mono (hle H31 (by simp)), Sq.nil, Sq.nil, hRK⟩
 have q4 := of_decide_eq_false q4'
 refine Wb_mk (fun q5' => ?_) (fun q5' => ?_)
 ·have q5 := of_decide_eq_true q5'
  refine pk (call_does (fun v _ => v = .int .i64 (idS s r.a)) rfl rfl (by kernel_rfl) rfl (dk rfl) (fun G hG => id_does hG.wf (hP.mono (hG.le G0 (by simp))).g hr.a)) ?_
  rintro _ ⟨_, H6, rfl, hn6, rfl⟩
  clear hn6
  simp only [go_sem, simprocAttr]
  refine fin_ret (G := G0) Tryz.results24 ?_
  simp only [go_sem, simprocAttr]
  intro aa w' _ hle
  have hT : recK s r k = { rec0 k with id := idS s r.a } := by unfold recK; rw [if_neg q1, if_neg q2, if_neg q3, if_neg q4, if_pos (.inl q5)]
  rw [hT] at hRK ⊢
  exact ⟨_, _, _, rfl, Sq.nil, Sq.nil, Sq.nil, hRK⟩
 have q5 := of_decide_eq_false q5'
 refine Wb_mk (fun q9' => ?_) (fun q9' => ?_)
 ·have q9 := of_decide_eq_true q9'
  refine pk (call_does (fun v _ => v = .int .i64 (idS s r.a)) rfl rfl (by kernel_rfl) rfl (dk rfl) (fun G hG => id_does hG.wf (hP.mono (hG.le G0 (by simp))).g hr.a)) ?_
  rintro _ ⟨_, H7, rfl, hn7, rfl⟩
  clear hn7
  simp only [go_sem, simprocAttr]
  refine fin_ret (G := G0) Tryz.results24 ?_
  simp only [go_sem, simprocAttr]
  intro aa w' _ hle
  have hT : recK s r k = { rec0 k with id := idS s r.a } := by unfold recK; rw [if_neg q1, if_neg q2, if_neg q3, if_neg q4, if_pos (.inr q9)]
  rw [hT] at hRK ⊢
  exact ⟨_, _, _, rfl, Sq.nil, Sq.nil, Sq.nil, hRK⟩
 have q9 := of_decide_eq_false q9'
 refine Wb_mk (fun q6' => ?_) (fun q6' => ?_)
 ·have q6 := of_decide_eq_true q6'
  refine pk (call_does (fun v _ => v = .int .i64 (idS s r.a)) rfl rfl (by kernel_rfl) rfl (dk rfl) (fun G hG => id_does hG.wf (hP.mono (hG.le G0 (by simp))).g hr.a)) ?_
  rintro _ ⟨_, H8, rfl, hn8, rfl⟩
  clear hn8
  simp only [go_sem, simprocAttr]
  refine pk (call_does (fun v _ => v = .int .i64 (pick r.b 3)) rfl rfl (by kernel_rfl) rfl (dk rfl) (fun G hG => picked_does hG.wf hr.b (by omega) (by omega))) ?_
  rintro _ ⟨_, H9, rfl, hn9, rfl⟩
  clear hn9
  have hp9 := pick_bd r.b 3 (by omega)
  simp only [go_sem, simprocAttr]
  refine pk (call_does (fun v _ => v = .int .i64 (pick r.c 1000)) rfl rfl (by kernel_rfl) rfl (dk rfl) (fun G hG => picked_does hG.wf hr.c (by omega) (by omega))) ?_
  rintro _ ⟨_, H10, rfl, hn10, rfl⟩
  clear hn10
  have hp10 := pick_bd r.c 1000 (by omega)
  simp only [go_sem, simprocAttr]
  refine fin_ret (G := G0) Tryz.results24 ?_
  simp only [go_sem, simprocAttr]
  intro aa w' _ hle
  have hT : recK s r k = { rec0 k with id := idS s r.a, vol := pick r.b 3, at_ := pick r.c 1000 } := by unfold recK; rw [if_neg q1, if_neg q2, if_neg q3, if_neg q4, if_neg (by omega), if_pos q6]
  rw [hT] at hRK ⊢
  exact ⟨_, _, _, rfl, Sq.nil, Sq.nil, Sq.nil, hRK⟩
 have q6 := of_decide_eq_false q6'
 refine Wb_mk (fun q7' => ?_) (fun q7' => ?_)
 ·have q7 := of_decide_eq_true q7'
  refine draw_ok (N := 3000) (.take 0 (.take 1 (.take 2 (.take 4 (.take 5 (.take 8 (.take 9 (.alt 3 (.alt 6 (.take 7 (.alt 10 (.take 11 (.take 12 (.alt 13 .done .last))) .last)) .last) .last)))))))) [3] (QOk_body _ _ _) follows_mixed (by kernel_rfl) (by kernel_rfl) ?_
  simp only [go_sem, simprocAttr]
  refine anyc_ok (N := 3000) (call_does (fun v _ => v = .int .i64 (idS s r.a)) rfl rfl (by kernel_rfl) rfl (dk rfl) (fun G hG => id_does hG.wf (hP.mono (hG.le G0 (by simp))).g hr.a)) (QOk_body _ _ _) rfl (by first | exact .inl rfl | exact .inr ⟨_, _, rfl, rfl⟩) ?_
  rintro _ ⟨_, H11, rfl, hn11, rfl⟩
  clear hn11
  simp only [go_sem, simprocAttr]
  refine anyc_ok (N := 3000) (call_does (fun v _ => v = .int .i64 (pick r.b 9)) rfl rfl (by kernel_rfl) rfl (dk rfl) (fun G hG => picked_does hG.wf hr.b (by omega) (by omega))) (QOk_body _ _ _) rfl (by first | exact .inl rfl | exact .inr ⟨_, _, rfl, rfl⟩) ?_
  rintro _ ⟨_, H12, rfl, hn12, rfl⟩
  clear hn12
  have hp12 := pick_bd r.b 9 (by omega)
  simp only [go_sem, simprocAttr]
  refine ⟨by omega, ?_⟩
  refine anyc_ok (N := 3000) (call_does (fun v _ => v = .int .i64 (pick r.c 3)) rfl rfl (by kernel_rfl) rfl (dk rfl) (fun G hG => picked_does hG.wf hr.c (by omega) (by omega))) (QOk_body _ _ _) rfl (by first | exact .inl rfl | exact .inr ⟨_, _, rfl, rfl⟩) ?_
  rintro _ ⟨_, H13, rfl, hn13, rfl⟩
  clear hn13
  have hp13 := pick_bd r.c 3 (by omega)
  simp only [go_sem, simprocAttr]
  refine fin_ret (G := G0) Tryz.results24 ?_
  simp only [go_sem, simprocAttr]
  intro aa w' _ hle
  have hT : recK s r k = { rec0 k with ask := ⟨idS s r.a, 1 + pick r.b 9, pick r.c 3⟩ } := by unfold recK; rw [if_neg q1, if_neg q2, if_neg q3, if_neg q4, if_neg (by omega), if_neg q6, if_pos q7]
  rw [hT] at hRK ⊢
  exact ⟨_, _, _, rfl, Sq.nil, Sq.nil, Sq.nil, hRK⟩
 have q7 := of_decide_eq_false q7'
 refine Wb_mk (fun q8' => ?_) (fun q8' => ?_)
 ·have q8 := of_decide_eq_true q8'
  refine pk (call_does (fun v _ => v = .int .i64 (idS s r.a)) rfl rfl (by kernel_rfl) rfl (dk rfl) (fun G hG => id_does hG.wf (hP.mono (hG.le G0 (by simp))).g hr.a)) ?_
  rintro _ ⟨_, H14, rfl, hn14, rfl⟩
  clear hn14
  simp only [go_sem, simprocAttr]
  refine draw_ok (N := 3000) (.take 0 (.take 1 (.take 2 (.take 3 (.alt 4 (.take 5 (.take 6 (.alt 7 .done .last))) .last))))) [3] (QOk_body _ _ _) follows_mixed (by kernel_rfl) (by kernel_rfl) ?_
  simp only [go_sem, simprocAttr]
  refine anyc_ok (N := 3000) (call_does (fun v _ => v = .int .i64 (pick r.b 9)) rfl rfl (by kernel_rfl) rfl (dk rfl) (fun G hG => picked_does hG.wf hr.b (by omega) (by omega))) (QOk_body _ _ _) rfl (by first | exact .inl rfl | exact .inr ⟨_, _, rfl, rfl⟩) ?_
  rintro _ ⟨_, H15, rfl, hn15, rfl⟩
  clear hn15
  have hp15 := pick_bd r.b 9 (by omega)
  simp only [go_sem, simprocAttr]
  refine ⟨by omega, ?_⟩
  refine loop_ok (N := 3000) (ι := Nat × List Int × Option Addr × Nat × GW) (fun i => match i with | (i, acc, A, c, G) => ⟨[(2, .c (.p 0 g1 0)), (4, .c (.p 2 g3 0)), (5, .c (.p 3 g4 0)), (154, .c (.v (.slice A2 s.vers.length c2))), (155, .c (.v (.int .i64 (s.vers.length : Int)))), (156, .c (.v (.int .i64 (i : Int))))],
    [⟨3, g4, 72, [.v (.int .i64 k), .v (.int .i64 (idS s r.a)), .v (.int .i64 (s.clock + pick r.b 9)), .v (.string ⟨#[]⟩), .v (.string ⟨#[]⟩), .v (.string ⟨#[]⟩), .v (.int .i64 0), .v (.int .i64 0), .v (.int .i64 0), .v (.string ⟨#[]⟩), .v (.string ⟨#[]⟩), .v (.bool false), .v (.bool false), .v (.int .i64 0), .v (.int .i64 0), .v (.int .i64 0), .v (.slice none 0 0), .v (.int .i64 0), .v (.int .i64 0), .v (.int .i64 0), .v (.int .i64 0), .v (.int .i64 0), .v (.int .i64 0), .v (.int .i64 0), .v (.int .i64 0), .v (.slice none 0 0), .v (.slice A acc.length c), .v (.int .i64 0), .v (.int .i64 0)]⟩, ⟨2, g3, 72, [.v (.int .i64 0), .v (.int .i64 0), .v (.int .i64 0), .v (.string ⟨#[]⟩), .v (.string ⟨#[]⟩), .v (.string ⟨#[]⟩), .v (.int .i64 0), .v (.int .i64 0), .v (.int .i64 0), .v (.string ⟨#[]⟩), .v (.string ⟨#[]⟩), .v (.bool false), .v (.bool false), .v (.int .i64 0), .v (.int .i64 0), .v (.int .i64 0), .v (.slice none 0 0), .v (.int .i64 0), .v (.int .i64 0), .v (.int .i64 0), .v (.int .i64 0), .v (.int .i64 0), .v (.int .i64 0), .v (.int .i64 0), .v (.int .i64 0), .v (.slice none 0 0), .v (.slice none 0 0), .v (.int .i64 0), .v (.int .i64 0)]⟩, ⟨0, g1, 30, [.v (.int .i64 s.next), .v (.int .i64 s.clock), .v (.slice A1 s.bkts.length c1), .v (.slice A2 s.vers.length c2), .v (.slice A3 s.upls.length c3), .v (.slice A4 s.queue.length c4), .v (.slice A5 s.gone.length c5)]⟩], [], [], [G, G0], 4⟩)
   (fun i => match i with | (i, acc, A, c, G) => i ≤ s.vers.length ∧ thawL s (idS s r.a) [] s.vers = thawL s (idS s r.a) acc (s.vers.drop i) ∧ IntsG G (.slice A acc.length c) acc)
   (fun i => s.vers.length - i.1) (QOk_body _ _ _) (0, [], none, 0, G0) ⟨by omega, by simp, Sq.nil⟩ (by simp only [go_sem, simprocAttr]; simp) ?_
  rintro ⟨i, acc, A, c, GA⟩ ⟨hi, hL, hI⟩
  simp only
  by_cases hlt : i < s.vers.length
  ·have q : decide ((i : Int) < (s.vers.length : Int)) = true := decide_eq_true (by omega)
   obtain ⟨v, hv⟩ : ∃ v, s.vers[i]? = some v := ⟨_, List.getElem?_eq_getElem hlt⟩
   obtain ⟨z1, z2⟩ := hgd.size (List.mem_of_getElem? hv)
   rw [drop_at hv, thawL_cons] at hL
   simp only [go_sem, simprocAttr, q]
   refine pk (elem_does (R := VerG) (l := s.vers) (m := i) rfl tySlice25 tySize38 rfl rfl (dk rfl) rfl hv (fun G hG => Sq.mono hP.vers verG_mono (hG.le G0 (by simp)))) ?_
   rintro _ ⟨g6, o', cs, G2, hcl, ⟨svx, rfl, hsv, hk1, hk2⟩, rfl⟩
   obtain ⟨Aw, cw, rfl, _⟩ := Sq.form hsv
   simp only [go_sem, simprocAttr, verV]
   intro g7
   refine Wb_mk (fun hid => ?_) (fun hid => ?_)
   ·rw [if_pos (of_decide_eq_true hid)] at hL
    refine pk (call_does (fun y G => IntsG G y (sectorsS s v.size)) rfl rfl (by kernel_rfl) rfl (dk rfl) (fun G hG => sectorsOf_does hG.wf (hP.mono (hG.le G0 (by simp))).g z1 (by omega))) ?_
    rintro _ ⟨_, H16, hO16, hn16, rfl⟩
    clear hn16
    obtain ⟨As16, cs16, rfl, _⟩ := Sq.form hO16
    simp only [go_sem, simprocAttr]
    refine ⟨by omega, ?_⟩
    refine again_ok (i + 1, sectorsS s v.size, As16, cs16, H16) ⟨hlt, hL, hO16⟩ (by show s.vers.length - (i + 1) < s.vers.length - i; omega) (by simp only [go_sem, simprocAttr]; simp)
   ·rw [if_neg (of_decide_eq_false hid)] at hL
    refine ⟨by omega, ?_⟩
    refine again_ok (i + 1, acc, A, c, GA) ⟨hlt, hL, hI⟩ (by show s.vers.length - (i + 1) < s.vers.length - i; omega) (by simp only [go_sem, simprocAttr]; simp)
  ·have hil : i = s.vers.length := by omega
   subst hil
   have q : decide ((s.vers.length : Int) < (s.vers.length : Int)) = false := decide_eq_false (by omega)
   rw [List.drop_length] at hL
   have hL' : thawL s (idS s r.a) [] s.vers = acc := hL
   simp only [go_sem, simprocAttr, q]
   refine fin_ret (G := G0) Tryz.results24 ?_
   simp only [go_sem, simprocAttr]
   intro aa w' _ hle
   have hT : recK s r k = { rec0 k with id := idS s r.a, n := s.clock + pick r.b 9, secs := acc } := by unfold recK; rw [if_neg q1, if_neg q2, if_neg q3, if_neg q4, if_neg (by omega), if_neg q6, if_neg q7, if_pos q8, hL']
   rw [hT] at hRK ⊢
   exact ⟨_, _, _, rfl, Sq.nil, Sq.nil, hI.mono (hle GA (by simp)), hRK⟩
 have q8 := of_decide_eq_false q8'
 refine Wb_mk (fun q10' => ?_) (fun q10' => ?_)
 ·have q10 := of_decide_eq_true q10'
  refine pk (call_does (fun v _ => v = .string (nameS r.a)) rfl rfl (by kernel_rfl) rfl (dk rfl) (fun G hG => name_does hG.wf hr.a)) ?_
  rintro _ ⟨_, H17, rfl, hn17, rfl⟩
  clear hn17
  simp only [go_sem, simprocAttr]
  refine pk (call_does (fun v _ => v = .string (keyS r.b)) rfl rfl (by kernel_rfl) rfl (dk rfl) (fun G hG => key_does hG.wf hr.b)) ?_
  rintro _ ⟨_, H18, rfl, hn18, rfl⟩
  clear hn18
  simp only [go_sem, simprocAttr]
  refine fin_ret (G := G0) Tryz.results24 ?_
  simp only [go_sem, simprocAttr]
  intro aa w' _ hle
  have hT : recK s r k = { rec0 k with id := s.next, name := nameS r.a, key := keyS r.b } := by unfold recK; rw [if_neg q1, if_neg q2, if_neg q3, if_neg q4, if_neg (by omega), if_neg q6, if_neg q7, if_neg q8, if_pos q10]
  rw [hT] at hRK ⊢
  exact ⟨_, _, _, rfl, Sq.nil, Sq.nil, Sq.nil, hRK⟩
 have q10 := of_decide_eq_false q10'
 refine Wb_mk (fun q11' => ?_) (fun q11' => ?_)
 ·have q11 := of_decide_eq_true q11'
  refine pk (call_does (fun v _ => v = .int .i64 (pick r.c 200)) rfl rfl (by kernel_rfl) rfl (dk rfl) (fun G hG => picked_does hG.wf hr.c (by omega) (by omega))) ?_
  rintro _ ⟨_, H19, rfl, hn19, rfl⟩
  clear hn19
  have hp19 := pick_bd r.c 200 (by omega)
  simp only [go_sem, simprocAttr]
  refine draw_ok (N := 3000) (.take 0 (.take 1 (.take 4 (.take 5 (.take 6 (.alt 2 (.take 3 (.alt 7 (.take 8 (.take 9 (.alt 10 .done .last))) .last)) .last)))))) [3] (QOk_body _ _ _) follows_mixed (by kernel_rfl) (by kernel_rfl) ?_
  simp only [go_sem, simprocAttr]
  refine anyc_ok (N := 3000) (call_does (fun v _ => v = .int .i64 (pick r.b 5)) rfl rfl (by kernel_rfl) rfl (dk rfl) (fun G hG => picked_does hG.wf hr.b (by omega) (by omega))) (QOk_body _ _ _) rfl (by first | exact .inl rfl | exact .inr ⟨_, _, rfl, rfl⟩) ?_
  rintro _ ⟨_, H20, rfl, hn20, rfl⟩
  clear hn20
  have hp20 := pick_bd r.b 5 (by omega)
  simp only [go_sem, simprocAttr]
  refine ⟨by omega, ?_⟩
  refine anyc_ok (N := 3000) (call_does (fun y G => IntsG G y (sectorsS s (pick r.c 200))) rfl rfl (by kernel_rfl) rfl (dk rfl) (fun G hG => sectorsOf_does hG.wf (hP.mono (hG.le G0 (by simp))).g (by omega) (by omega))) (QOk_body _ _ _) rfl (by first | exact .inl rfl | exact .inr ⟨_, _, rfl, rfl⟩) ?_
  rintro _ ⟨_, H21, hO21, hn21, rfl⟩
  clear hn21
  obtain ⟨As21, cs21, rfl, _⟩ := Sq.form hO21
  simp only [go_sem, simprocAttr]
  refine pk (call_does (fun v _ => v = .int .i64 (upidS s r.a)) rfl rfl (by kernel_rfl) rfl (dk rfl) (fun G hG => upid_does hG.wf (hP.mono (hG.le G0 (by simp))).g hr.a)) ?_
  rintro _ ⟨_, H22, rfl, hn22, rfl⟩
  clear hn22
  simp only [go_sem, simprocAttr]
  refine fin_ret (G := G0) Tryz.results24 ?_
  simp only [go_sem, simprocAttr]
  intro aa w' _ hle
  have hT : recK s r k = { rec0 k with part := ⟨1 + pick r.b 5, pick r.c 200, sectorsS s (pick r.c 200)⟩, id := upidS s r.a } := by unfold recK; rw [if_neg q1, if_neg q2, if_neg q3, if_neg q4, if_neg (by omega), if_neg q6, if_neg q7, if_neg q8, if_neg q10, if_pos q11]
  rw [hT] at hRK ⊢
  exact ⟨_, _, _, rfl, Sq.nil, hO21.mono (hle H21 (by simp)), Sq.nil, hRK⟩
 have q11 := of_decide_eq_false q11'
 refine Wb_mk (fun q12' => ?_) (fun q12' => ?_)
 ·have q12 := of_decide_eq_true q12'
  refine pk (call_does (fun v _ => v = .int .i64 (upidS s r.a)) rfl rfl (by kernel_rfl) rfl (dk rfl) (fun G hG => upid_does hG.wf (hP.mono (hG.le G0 (by simp))).g hr.a)) ?_
  rintro _ ⟨_, H23, rfl, hn23, rfl⟩
  clear hn23
  simp only [go_sem, simprocAttr]
  refine fin_ret (G := G0) Tryz.results24 ?_
  simp only [go_sem, simprocAttr]
  intro aa w' _ hle
  have hT : recK s r k = { rec0 k with id := upidS s r.a } := by unfold recK; rw [if_neg q1, if_neg q2, if_neg q3, if_neg q4, if_neg (by omega), if_neg q6, if_neg q7, if_neg q8, if_neg q10, if_neg q11, if_pos q12]
  rw [hT] at hRK ⊢
  exact ⟨_, _, _, rfl, Sq.nil, Sq.nil, Sq.nil, hRK⟩
 have q12 := of_decide_eq_false q12'
 refine Wb_mk (fun q13' => ?_) (fun q13' => ?_)
 ·have q13 := of_decide_eq_true q13'
  refine pk (call_does (fun v _ => v = .int .i64 (pick r.a 12)) rfl rfl (by kernel_rfl) rfl (dk rfl) (fun G hG => picked_does hG.wf hr.a (by omega) (by omega))) ?_
  rintro _ ⟨_, H24, rfl, hn24, rfl⟩
  clear hn24
  have hp24 := pick_bd r.a 12 (by omega)
  simp only [go_sem, simprocAttr]
  refine fin_ret (G := G0) Tryz.results24 ?_
  simp only [go_sem, simprocAttr]
  intro aa w' _ hle
  have hT : recK s r k = { rec0 k with n := pick r.a 12 } := by unfold recK; rw [if_neg q1, if_neg q2, if_neg q3, if_neg q4, if_neg (by omega), if_neg q6, if_neg q7, if_neg q8, if_neg q10, if_neg q11, if_neg q12, if_pos q13]
  rw [hT] at hRK ⊢
  exact ⟨_, _, _, rfl, Sq.nil, Sq.nil, Sq.nil, hRK⟩
 have q13 := of_decide_eq_false q13'
 refine pk (call_does (fun v _ => v = .int .i64 (pick r.a 4)) rfl rfl (by kernel_rfl) rfl (dk rfl) (fun G hG => picked_does hG.wf hr.a (by omega) (by omega))) ?_
 rintro _ ⟨_, H25, rfl, hn25, rfl⟩
 clear hn25
 have hp25 := pick_bd r.a 4 (by omega)
 simp only [go_sem, simprocAttr]
 refine fin_ret (G := G0) Tryz.results24 ?_
 simp only [go_sem, simprocAttr]
 intro aa w' _ hle
 have hT : recK s r k = { rec0 k with vol := pick r.a 4 } := by unfold recK; rw [if_neg q1, if_neg q2, if_neg q3, if_neg q4, if_neg (by omega), if_neg q6, if_neg q7, if_neg q8, if_neg q10, if_neg q11, if_neg q12, if_neg q13]
 rw [hT] at hRK ⊢
 exact ⟨_, _, _, rfl, Sq.nil, Sq.nil, Sq.nil, hRK⟩
end Go.Proofs.YtohdfcnjcpjdcaaGreat
/- State: the driver of the laws of states. Conditions: as each law states them. -/
namespace Go.Proofs.YtohdfcnjcpjdcaaGreat
open Go.RowKit
set_option linter.unusedSimpArgs false
/-- a record with its slices' values -/
structure RX where
 r : Rec
 vs : Value
 ps : Value
 ss : Value
def recX (x : RX) : List Value := recV x.r x.vs x.ps x.ss
theorem recX_len (x : RX) : (recX x).length = 29 := rfl
structure RX.Ok (G : GW) (x : RX) : Prop where
 v : IntsG G x.vs x.r.ver.secs
 p : IntsG G x.ps x.r.part.secs
 s : IntsG G x.ss x.r.secs
 ok : RecOk x.r
theorem RX.Ok.mono {G G' : GW} {x : RX} (h : x.Ok G) (hl : G.Le G') : x.Ok G' := ⟨h.v.mono hl, h.p.mono hl, h.s.mono hl, h.ok⟩
def RecCs (G : GW) (r : Rec) (cs : List Value) : Prop := ∃ vs ps ss, cs = recV r vs ps ss ∧ IntsG G vs r.ver.secs ∧ IntsG G ps r.part.secs ∧ IntsG G ss r.secs ∧ RecOk r
theorem recCs_mono : MonoR RecCs := fun _ _ _ _ hl ⟨vs, ps, ss, e, h1, h2, h3, h4⟩ => ⟨vs, ps, ss, e, h1.mono hl, h2.mono hl, h3.mono hl, h4⟩
def RecsG (G : GW) (v : Value) (l : List Rec) : Prop := Sq RecCs 72 29 G v l
theorem recs_of {G : GW} {v : Value} {l : List RX} (h : Sl G 72 29 l.length v (l.flatMap recX)) (hk : ∀ x ∈ l, x.Ok G) : RecsG G v (l.map (·.r)) := by
 refine ⟨l.map recX, ⟨by simp, chunks_map recX_len l, fun i cs x h1 h2 => ?_⟩, by rw [List.length_map, ← List.flatMap_def]; exact h⟩
 rw [List.getElem?_map] at h1 h2
 cases hp : l[i]? with
 | none => rw [hp] at h2; cases h2
 | some p =>
  rw [hp] at h1 h2
  cases h1
  cases h2
  have hx := hk p (List.mem_of_getElem? hp)
  exact ⟨p.vs, p.ps, p.ss, rfl, hx.v, hx.p, hx.s, hx.ok⟩
theorem recV_one (r : Rec) (A B C : Option Addr) (n m k a b c : Nat) : ∀ u ∈ recV r (.slice A n a) (.slice B m b) (.slice C k c), u.oneCell' = true :=
 fun u hu => List.all_eq_true.1 (show (recV r (.slice A n a) (.slice B m b) (.slice C k c)).all (fun u => u.oneCell') = true from rfl) u hu
theorem applyS_ok {s : Sta} {r : Rec} (h : (applyS s r).2 = 0) : okSt (applyS s r).1 = true := by
 unfold applyS at h ⊢
 by_cases q : okSt s = true
 ·rw [if_pos q] at h ⊢
  unfold applyC at h ⊢
  by_cases q1 : (changeS s r).1 = 0
  ·rw [if_pos q1] at h ⊢
   by_cases q2 : okSt (changeS s r).2 = true
   ·rw [if_pos q2] at h ⊢
    exact q2
   ·rw [if_neg q2] at h
    cases h
  ·rw [if_neg q1] at h
   exact absurd h q1
 ·rw [if_neg q] at h
  cases h
theorem i64_0 : i64 0 := ⟨by decide, by decide⟩
theorem start_ok : okSt startS = true := by rfl
theorem rawsOf_len (l : List Raw) (most : Nat) : (rawsOf l most).length = 2 + min most l.length := by
 unfold rawsOf
 rw [List.length_cons, List.length_cons, List.length_take]
 omega
theorem rawsOf_low (l : List Raw) (most j : Nat) (h : j < 2) : (rawsOf l most)[j]? = some (rawA (j : Int)) := by
 obtain rfl | rfl : j = 0 ∨ j = 1 := by omega
 ·rfl
 ·rfl
theorem rawsOf_high (l : List Raw) (most j : Nat) (h : 2 ≤ j) (hm : j - 2 < most) : (rawsOf l most)[j]? = l[j - 2]? := by
 obtain ⟨k, rfl⟩ : ∃ k, j = k + 2 := ⟨j - 2, by omega⟩
 show (l.take most)[k]? = _
 rw [List.getElem?_take, if_pos (by omega), Nat.add_sub_cancel]
theorem fold_ok : ∀ (l : List Raw) (p : Sta × List Rec), okSt p.1 = true → okSt (l.foldl stepS p).1 = true
 | [], p, h => h
 | r :: l, p, h => by
  refine fold_ok l _ ?_
  unfold stepS stepA
  split
  ·rename_i q
   exact applyS_ok q
  ·exact h
theorem stateS_ok (l : List Raw) (most : Nat) : okSt (stateS l most).1 = true := fold_ok _ _ start_ok
set_option maxRecDepth 100000 in
set_option maxHeartbeats 32000000 in
theorem state_does {l : List Raw} {lv : Value} {most : Nat} {G0 : GW} (hW : G0.Wf) (hl : RawsG G0 lv l) (hm : most ≤ 1000) :
  Calls Tryz.prog 10 #[lv, .int .i64 (most : Int)] G0.w (Ret G0 fun v G => ∃ sv ov, v = .tuple #[sv, ov] ∧ StaG G sv (stateS l most).1 ∧ RecsG G ov (stateS l most).2) := by
 obtain ⟨A, c, rfl, hc1, hc2⟩ := ScR.form hl
 have hml := max_le
 have hrl := rawsOf_len l most
 refine enterS (G := G0) (n := 52) 3000 hW Tryz.func10 rfl Tryz.ntmps10 (by simp) ?_
 simp only [go_sem, simprocAttr]
 intro g1 g2
 refine row_ok 72 29 ?_
 refine loop_ok (N := 3000) (ι := Nat × Sta × ((Option Addr × Nat) × (Option Addr × Nat) × (Option Addr × Nat) × (Option Addr × Nat) × (Option Addr × Nat)) × List RX × (Option Addr × Nat) × GW)
  (fun i => match i with | (j, s, ((A1, c1), (A2, c2), (A3, c3), (A4, c4), (A5, c5)), rx, (B, d), G) => ⟨[(0, .c (.v (.slice A l.length c))), (1, .c (.v (.int .i64 (most : Int)))), (4, .c (.p 0 g1 0)), (6, .c (.p 1 g2 0)), (7, .c (.v (.slice B rx.length d))), (8, .c (.v (.int .i64 ((j : Int) - 2))))],
   [⟨1, g2, 30, [.v (.int .i64 s.next), .v (.int .i64 s.clock), .v (.slice A1 s.bkts.length c1), .v (.slice A2 s.vers.length c2), .v (.slice A3 s.upls.length c3), .v (.slice A4 s.queue.length c4), .v (.slice A5 s.gone.length c5)]⟩, ⟨0, g1, 30, [.v (.int .i64 0), .v (.int .i64 0), .v (.slice none 0 0), .v (.slice none 0 0), .v (.slice none 0 0), .v (.slice none 0 0), .v (.slice none 0 0)]⟩],
   [⟨.slice B rx.length d, 72, 29, rx.length, rx.flatMap recX⟩], [], [G, G0], 2⟩)
  (fun i => match i with | (j, s, ((A1, c1), (A2, c2), (A3, c3), (A4, c4), (A5, c5)), rx, (B, d), G) => j ≤ (rawsOf l most).length ∧ rx.length ≤ j ∧ stateS l most = ((rawsOf l most).drop j).foldl stepS (s, rx.map (·.r)) ∧ okSt s = true ∧ StaP G s A1 c1 A2 c2 A3 c3 A4 c4 A5 c5 ∧ ∀ x ∈ rx, x.Ok G)
  (fun i => (rawsOf l most).length - i.1) (QOk_body _ _ _) (0, startS, ((none, 0), (none, 0), (none, 0), (none, 0), (none, 0)), [], (none, 0), G0) ⟨by omega, by simp, by simp [stateS], start_ok, ⟨Sq.nil, Sq.nil, Sq.nil, Sq.nil, Sq.nil⟩, fun x hx => by cases hx⟩ (by simp only [go_sem, simprocAttr]; simp [startS]) ?_
 rintro ⟨j, s, ⟨⟨A1, c1⟩, ⟨A2, c2⟩, ⟨A3, c3⟩, ⟨A4, c4⟩, ⟨A5, c5⟩⟩, rx, ⟨B, d⟩, GA⟩ ⟨hj, hrx, hT, hok, hP, hx⟩
 simp only
 by_cases hlt : j < (rawsOf l most).length
 ·have q1 : decide ((j : Int) - 2 < (l.length : Int)) = true := decide_eq_true (by omega)
  have q2 : decide ((j : Int) - 2 < (most : Int)) = true := decide_eq_true (by omega)
  have e22 : (j : Int) - 2 + 2 = (j : Int) := by omega
  obtain ⟨r, hr⟩ : ∃ r, (rawsOf l most)[j]? = some r := ⟨_, List.getElem?_eq_getElem hlt⟩
  rw [drop_at hr, List.foldl_cons] at hT
  have e21 : (j : Int) - 2 + 1 = ((j + 1 : Nat) : Int) - 2 := by omega
  simp only [go_sem, simprocAttr, q1, q2, e22]
  refine ⟨by omega, ?_⟩
  intro g3
  by_cases hj2 : j < 2
  ·have q3 : decide (0 ≤ (j : Int) - 2) = false := decide_eq_false (by omega)
   rw [rawsOf_low l most j hj2] at hr
   cases hr
   have hrk : RawOk (rawA (j : Int)) := ⟨i64_0, ⟨by show (-9223372036854775808 : Int) ≤ j; omega, by show (j : Int) ≤ 9223372036854775807; omega⟩, i64_0, i64_0, i64_0⟩
   simp only [go_sem, simprocAttr, q3]
   refine pk (call_does (fun y G => RecG G y (recS s (rawA (j : Int)))) rfl rfl (by kernel_rfl) rfl (dk rfl) (fun G hG => record_does hG.wf (hP.mono (hG.le GA (by simp))).g hrk hok)) ?_
   rintro _ ⟨_, H1, ⟨vs, ps, ss, rfl, hvs, hps, hss, hro⟩, hn1, rfl⟩
   clear hn1
   obtain ⟨Av, cv, rfl, _⟩ := Sq.form hvs
   obtain ⟨Ap, cp, rfl, _⟩ := Sq.form hps
   obtain ⟨As, cs, rfl, _⟩ := Sq.form hss
   simp only [go_sem, simprocAttr, recV]
   intro g5
   refine pk (call_does (fun y G => ∃ sv', y = .tuple #[sv', .int .i64 (applyS s (recS s (rawA (j : Int)))).2] ∧ StaG G sv' (applyS s (recS s (rawA (j : Int)))).1) rfl rfl (by kernel_rfl) rfl (dk rfl) (fun G hG => apply_does hG.wf (hP.mono (hG.le GA (by simp))).g ⟨_, _, _, rfl, hvs.mono (hG.le H1 (by simp)), hps.mono (hG.le H1 (by simp)), hss.mono (hG.le H1 (by simp)), hro⟩)) ?_
   rintro _ ⟨_, H2, ⟨sv', rfl, hsv'⟩, hn2, rfl⟩
   have hl2 : GA.Le H2 := hn2.le GA (by simp)
   have hl1 : H1.Le H2 := hn2.le H1 (by simp)
   clear hn2
   obtain ⟨a, ha⟩ : ∃ a, a = applyS s (recS s (rawA (j : Int))) := ⟨_, rfl⟩
   have hst : stepS (s, rx.map (·.r)) (rawA (j : Int)) = stepA (s, rx.map (·.r)) (recS s (rawA (j : Int))) a := by rw [ha]; rfl
   rw [hst] at hT
   have hao : a.2 = 0 → okSt a.1 = true := by rw [ha]; exact applyS_ok
   rw [← ha] at hsv' ⊢
   clear ha hst
   obtain ⟨B1, f1, B2, f2, B3, f3, B4, f4, B5, f5, rfl, hP2⟩ := hsv'.form
   simp only [go_sem, simprocAttr]
   intro g6
   refine Wb_mk (fun he => ?_) (fun he => ?_)
   ·have he' := of_decide_eq_true he
    unfold stepA at hT
    rw [if_pos he'] at hT
    intro g7
    refine pk (append_does (R1 := []) (R2 := []) (n := rx.length) (v := .slice B rx.length d) (xs := rx.flatMap recX) (m := 1) (news := recV (recS s (rawA (j : Int))) (.slice Av (recS s (rawA (j : Int))).ver.secs.length cv) (.slice Ap (recS s (rawA (j : Int))).part.secs.length cp) (.slice As (recS s (rawA (j : Int))).secs.length cs)) rfl tySlice31 tyApp72 rfl rfl rfl rfl (dk rfl) (recV_one _ _ _ _ _ _ _ _ _ _) (by unfold maxLen; omega) (by omega) (fun G hG => tsl_blk hG List.mem_cons_self rfl (by unfold maxLen; omega))) ?_
    rintro _ ⟨A', c', rfl⟩
    simp only [go_sem, simprocAttr, e21]
    refine ⟨by omega, ?_⟩
    refine again_ok (j + 1, a.1, ((B1, f1), (B2, f2), (B3, f3), (B4, f4), (B5, f5)), rx ++ [⟨recS s (rawA (j : Int)), .slice Av (recS s (rawA (j : Int))).ver.secs.length cv, .slice Ap (recS s (rawA (j : Int))).part.secs.length cp, .slice As (recS s (rawA (j : Int))).secs.length cs⟩], (A', c'), H2) ⟨hlt, by simp; omega, by rw [List.map_append]; exact hT, hao he', hP2, fun x hx' => ?_⟩ (by show (rawsOf l most).length - (j + 1) < (rawsOf l most).length - j; omega) (by simp only [go_sem, simprocAttr]; simp [recX])
    rcases List.mem_append.1 hx' with hx' | hx'
    ·exact (hx x hx').mono hl2
    ·rw [List.mem_singleton.1 hx']
     exact ⟨hvs.mono hl1, hps.mono hl1, hss.mono hl1, hro⟩
   ·have he' := of_decide_eq_false he
    unfold stepA at hT
    rw [if_neg he'] at hT
    simp only [go_sem, simprocAttr, e21]
    refine ⟨by omega, ?_⟩
    refine again_ok (j + 1, s, ((A1, c1), (A2, c2), (A3, c3), (A4, c4), (A5, c5)), rx, (B, d), GA) ⟨hlt, by show rx.length ≤ j + 1; omega, hT, hok, hP, hx⟩ (by show (rawsOf l most).length - (j + 1) < (rawsOf l most).length - j; omega) (by simp only [go_sem, simprocAttr]; simp)
  ·have q3 : decide (0 ≤ (j : Int) - 2) = true := decide_eq_true (by omega)
   rw [rawsOf_high l most j (by omega) (by omega)] at hr
   have hjc : (j : Int) - 2 = ((j - 2 : Nat) : Int) := by omega
   simp only [go_sem, simprocAttr, q3]
   refine pk (elemC_does (R := RawG) (l := l) (m := j - 2) rfl tySlice22 tySize66 rfl rfl (dk rfl) hjc hr (fun G hG => ScR.mono hl rawG_mono (hG.le G0 (by simp)))) ?_
   rintro _ ⟨g4, o', cs0, G2, hcl, ⟨rfl, hra, hrb, hrc, hrd, hre, hrf⟩, hn0, rfl⟩
   clear hn0
   have hrk : RawOk r := ⟨hra, hrb, hrc, hrd, hre⟩
   simp only [go_sem, simprocAttr]
   refine pk (call_does (fun y G => RecG G y (recS s r)) rfl rfl (by kernel_rfl) rfl (dk rfl) (fun G hG => record_does hG.wf (hP.mono (hG.le GA (by simp))).g hrk hok)) ?_
   rintro _ ⟨_, H1, ⟨vs, ps, ss, rfl, hvs, hps, hss, hro⟩, hn1, rfl⟩
   clear hn1
   obtain ⟨Av, cv, rfl, _⟩ := Sq.form hvs
   obtain ⟨Ap, cp, rfl, _⟩ := Sq.form hps
   obtain ⟨As, cs, rfl, _⟩ := Sq.form hss
   simp only [go_sem, simprocAttr, recV]
   intro g5
   refine pk (call_does (fun y G => ∃ sv', y = .tuple #[sv', .int .i64 (applyS s (recS s r)).2] ∧ StaG G sv' (applyS s (recS s r)).1) rfl rfl (by kernel_rfl) rfl (dk rfl) (fun G hG => apply_does hG.wf (hP.mono (hG.le GA (by simp))).g ⟨_, _, _, rfl, hvs.mono (hG.le H1 (by simp)), hps.mono (hG.le H1 (by simp)), hss.mono (hG.le H1 (by simp)), hro⟩)) ?_
   rintro _ ⟨_, H2, ⟨sv', rfl, hsv'⟩, hn2, rfl⟩
   have hl2 : GA.Le H2 := hn2.le GA (by simp)
   have hl1 : H1.Le H2 := hn2.le H1 (by simp)
   clear hn2
   obtain ⟨a, ha⟩ : ∃ a, a = applyS s (recS s r) := ⟨_, rfl⟩
   have hst : stepS (s, rx.map (·.r)) r = stepA (s, rx.map (·.r)) (recS s r) a := by rw [ha]; rfl
   rw [hst] at hT
   have hao : a.2 = 0 → okSt a.1 = true := by rw [ha]; exact applyS_ok
   rw [← ha] at hsv' ⊢
   clear ha hst
   obtain ⟨B1, f1, B2, f2, B3, f3, B4, f4, B5, f5, rfl, hP2⟩ := hsv'.form
   simp only [go_sem, simprocAttr]
   intro g6
   refine Wb_mk (fun he => ?_) (fun he => ?_)
   ·have he' := of_decide_eq_true he
    unfold stepA at hT
    rw [if_pos he'] at hT
    intro g7
    refine pk (append_does (R1 := []) (R2 := []) (n := rx.length) (v := .slice B rx.length d) (xs := rx.flatMap recX) (m := 1) (news := recV (recS s r) (.slice Av (recS s r).ver.secs.length cv) (.slice Ap (recS s r).part.secs.length cp) (.slice As (recS s r).secs.length cs)) rfl tySlice31 tyApp72 rfl rfl rfl rfl (dk rfl) (recV_one _ _ _ _ _ _ _ _ _ _) (by unfold maxLen; omega) (by omega) (fun G hG => tsl_blk hG List.mem_cons_self rfl (by unfold maxLen; omega))) ?_
    rintro _ ⟨A', c', rfl⟩
    simp only [go_sem, simprocAttr, e21]
    refine ⟨by omega, ?_⟩
    refine again_ok (j + 1, a.1, ((B1, f1), (B2, f2), (B3, f3), (B4, f4), (B5, f5)), rx ++ [⟨recS s r, .slice Av (recS s r).ver.secs.length cv, .slice Ap (recS s r).part.secs.length cp, .slice As (recS s r).secs.length cs⟩], (A', c'), H2) ⟨hlt, by simp; omega, by rw [List.map_append]; exact hT, hao he', hP2, fun x hx' => ?_⟩ (by show (rawsOf l most).length - (j + 1) < (rawsOf l most).length - j; omega) (by simp only [go_sem, simprocAttr]; simp [recX])
    rcases List.mem_append.1 hx' with hx' | hx'
    ·exact (hx x hx').mono hl2
    ·rw [List.mem_singleton.1 hx']
     exact ⟨hvs.mono hl1, hps.mono hl1, hss.mono hl1, hro⟩
   ·have he' := of_decide_eq_false he
    unfold stepA at hT
    rw [if_neg he'] at hT
    simp only [go_sem, simprocAttr, e21]
    refine ⟨by omega, ?_⟩
    refine again_ok (j + 1, s, ((A1, c1), (A2, c2), (A3, c3), (A4, c4), (A5, c5)), rx, (B, d), GA) ⟨hlt, by show rx.length ≤ j + 1; omega, hT, hok, hP, hx⟩ (by show (rawsOf l most).length - (j + 1) < (rawsOf l most).length - j; omega) (by simp only [go_sem, simprocAttr]; simp)
 ·have hjl : j = (rawsOf l most).length := by omega
  rw [hjl, List.drop_length] at hT
  have hT' : stateS l most = (s, rx.map (·.r)) := hT
  clear hT
  by_cases h1 : (j : Int) - 2 < (l.length : Int)
  ·have q1 : decide ((j : Int) - 2 < (l.length : Int)) = true := decide_eq_true h1
   have q2 : decide ((j : Int) - 2 < (most : Int)) = false := decide_eq_false (by omega)
   simp only [go_sem, simprocAttr, q1, q2]
   refine read_ok (R1 := []) rfl (fun G8 hle8 hsl8 => ?_) (fun _ _ q => q) (by show (29 : Nat) ≠ 0; decide)
   have hO : RecsG G8 (.slice B rx.length d) (rx.map (·.r)) := recs_of hsl8 (fun x hx' => (hx x hx').mono (hle8 GA (by simp)))
   refine fin_ret (G := G0) Tryz.results10 ?_
   simp only [go_sem, simprocAttr]
   intro aa w' _ hle
   rw [hT']
   exact ⟨_, _, rfl, (hP.mono (hle GA (by simp))).g, Sq.mono hO recCs_mono (hle G8 (by simp))⟩
  ·have q1 : decide ((j : Int) - 2 < (l.length : Int)) = false := decide_eq_false h1
   simp only [go_sem, simprocAttr, q1]
   refine read_ok (R1 := []) rfl (fun G8 hle8 hsl8 => ?_) (fun _ _ q => q) (by show (29 : Nat) ≠ 0; decide)
   have hO : RecsG G8 (.slice B rx.length d) (rx.map (·.r)) := recs_of hsl8 (fun x hx' => (hx x hx').mono (hle8 GA (by simp)))
   refine fin_ret (G := G0) Tryz.results10 ?_
   simp only [go_sem, simprocAttr]
   intro aa w' _ hle
   rw [hT']
   exact ⟨_, _, rfl, (hP.mono (hle GA (by simp))).g, Sq.mono hO recCs_mono (hle G8 (by simp))⟩
end Go.Proofs.YtohdfcnjcpjdcaaGreat
