/- Records as bytes: what is written is read again; torn, it is a fault 5; what is read is what is written of it: in plain words. Conditions: as each law states them. -/
import Derived.Test.YtohdfcnjcpjdcaaDoorW17q
import Derived.Test.YtohdfcnjcpjdcaaDoorE0q
namespace Go.Proofs.YtohdfcnjcpjdcaaDoor
/-- the parts that a record of a kind has -/
structure Kd where
  id : Bool := false
  n : Bool := false
  name : Bool := false
  key : Bool := false
  rule : Bool := false
  ver : Bool := false
  ask : Bool := false
  part : Bool := false
  secs : Bool := false
  vol : Bool := false
  at_ : Bool := false
def kdL : List Kd := [{}, { name := true }, { name := true, n := true }, { name := true, rule := true }, { ver := true }, { id := true }, { id := true, vol := true, at_ := true }, { ask := true }, { id := true, secs := true, n := true }, { id := true }, { id := true, name := true, key := true }, { id := true, part := true }, { id := true }, { n := true }, { vol := true }]
def kd (k : Int) : Kd := kdL.getD k.toNat {}
/-! ### the writer -/
def opB {α : Type} (b : Bool) (wr : α → List UInt8) (x : α) : List UInt8 := if b then wr x else []
def tlB (k : Kd) (r : Rec) : List UInt8 := opB k.id (fun n => numB n 3) r.id ++ (opB k.name txB r.name ++ (opB k.key txB r.key ++ (opB k.n (fun n => numB n 4) r.n ++ (opB k.rule ruB r.rule ++ (opB k.ver vrB r.ver ++ (opB k.ask akB r.ask ++ (opB k.part ptB r.part ++ (opB k.secs itB r.secs ++ (opB k.vol (fun n => numB n 1) r.vol ++ opB k.at_ (fun n => numB n 2) r.at_)))))))))
def rcB (r : Rec) : List UInt8 := numB r.kind 1 ++ tlB (kd r.kind) r
/-! ### the reader -/
def opR {α : Type} (b : Bool) (rd : RS → α × RS) (d : α) (s : RS) : α × RS := if b then rd s else (d, s)
def noR : Rul := ⟨⟨#[]⟩, 0, 0⟩
def noA : Ask := ⟨0, 0, 0⟩
def noP : Prt := ⟨0, 0, []⟩
def rc1 (k : Kd) (s : RS) := opR k.id (tk 3) 0 s
def rc2 (k : Kd) (s : RS) := opR k.name tx ⟨#[]⟩ (rc1 k s).2
def rc3 (k : Kd) (s : RS) := opR k.key tx ⟨#[]⟩ (rc2 k s).2
def rc4 (k : Kd) (s : RS) := opR k.n (tk 4) 0 (rc3 k s).2
def rc5 (k : Kd) (s : RS) := opR k.rule rl noR (rc4 k s).2
def rc6 (k : Kd) (s : RS) := opR k.ver vr noV (rc5 k s).2
def rc7 (k : Kd) (s : RS) := opR k.ask ak noA (rc6 k s).2
def rc8 (k : Kd) (s : RS) := opR k.part pt noP (rc7 k s).2
def rc9 (k : Kd) (s : RS) := opR k.secs its [] (rc8 k s).2
def rc10 (k : Kd) (s : RS) := opR k.vol (tk 1) 0 (rc9 k s).2
def rc11 (k : Kd) (s : RS) := opR k.at_ (tk 2) 0 (rc10 k s).2
def rcT (i : Int) (s : RS) : Rec × RS := (⟨i, (rc1 (kd i) s).1, (rc4 (kd i) s).1, (rc2 (kd i) s).1, (rc3 (kd i) s).1, (rc5 (kd i) s).1, (rc6 (kd i) s).1, (rc7 (kd i) s).1, (rc8 (kd i) s).1, (rc9 (kd i) s).1, (rc10 (kd i) s).1, (rc11 (kd i) s).1⟩, (rc11 (kd i) s).2)
/-- the kind's own fault -/
def rcK (a : Int × RS) : RS := if a.2.f = 0 ∧ (a.1 < 1 ∨ 14 < a.1) then ⟨a.2.l, 3⟩ else a.2
def rc (s : RS) : Rec × RS := if (rcK (tk 1 s)).f = 0 then rcT (tk 1 s).1 (rcK (tk 1 s)) else (rec0 0, rcK (tk 1 s))
/-! ### what is written is read -/
theorem RW.op {α : Type} {rd : RS → α × RS} {wr : α → List UInt8} {ok : α → Prop} (h : RW rd wr ok) (b : Bool) (d : α) : RW (opR b rd d) (opB b wr) (fun x => if b then ok x else x = d) := by
  cases b with
  | true => exact h
  | false =>
    refine ⟨fun x r hx => ?_, fun x n _ hn => ?_, fun f _ => rfl⟩
    · show (d, (⟨[] ++ r, 0⟩ : RS)) = (x, ⟨r, 0⟩)
      rw [show x = d from hx]
      rfl
    · exact absurd hn (by show ¬ n < 0; omega)
def okO {α : Type} (b : Bool) (ok : α → Prop) (d x : α) : Prop := if b then ok x else x = d
def okTl (k : Kd) (r : Rec) : Prop := okO k.id (fun n => 0 ≤ n ∧ n < 16777216) 0 r.id ∧ okO k.name (fun t => t.size < 256) ⟨#[]⟩ r.name ∧ okO k.key (fun t => t.size < 256) ⟨#[]⟩ r.key ∧ okO k.n (fun n => 0 ≤ n ∧ n < 4294967296) 0 r.n ∧ okO k.rule okRl noR r.rule ∧ okO k.ver okVr noV r.ver ∧ okO k.ask okAk noA r.ask ∧ okO k.part okPt noP r.part ∧ okO k.secs (fun l => l.length < 256 ∧ ∀ z ∈ l, 0 ≤ z ∧ z < 256) [] r.secs ∧ okO k.vol (fun n => 0 ≤ n ∧ n < 256) 0 r.vol ∧ okO k.at_ (fun n => 0 ≤ n ∧ n < 65536) 0 r.at_
theorem rw_rcT (i : Int) : RW (rcT i) (tlB (kd i)) (fun r => r.kind = i ∧ okTl (kd i) r) := by
  have h := RW.seq ((rw_tk 3 16777216 (by omega) valB_3).op (kd i).id 0) (RW.seq (rw_tx.op (kd i).name ⟨#[]⟩) (RW.seq (rw_tx.op (kd i).key ⟨#[]⟩) (RW.seq ((rw_tk 4 4294967296 (by omega) valB_4).op (kd i).n 0) (RW.seq (rw_rl.op (kd i).rule noR) (RW.seq (rw_vr.op (kd i).ver noV) (RW.seq (rw_ak.op (kd i).ask noA) (RW.seq (rw_pt.op (kd i).part noP) (RW.seq (rw_its.op (kd i).secs []) (RW.seq ((rw_tk 1 256 (by omega) valB_1).op (kd i).vol 0) ((rw_tk 2 65536 (by omega) valB_2).op (kd i).at_ 0))))))))))
  have g : ∀ p : Int × ByteArray × ByteArray × Int × Rul × Ver × Ask × Prt × List Int × Int × Int, (⟨i, p.1, p.2.2.2.1, p.2.1, p.2.2.1, p.2.2.2.2.1, p.2.2.2.2.2.1, p.2.2.2.2.2.2.1, p.2.2.2.2.2.2.2.1, p.2.2.2.2.2.2.2.2.1, p.2.2.2.2.2.2.2.2.2.1, p.2.2.2.2.2.2.2.2.2.2⟩ : Rec).kind = i := fun p => rfl
  refine ⟨fun x r hx => ?_, fun x n hx hn => ?_, fun f hf => ?_⟩
  · obtain ⟨hk, hx⟩ := hx
    have := h.get (x.id, x.name, x.key, x.n, x.rule, x.ver, x.ask, x.part, x.secs, x.vol, x.at_) r hx
    rw [show tlB (kd i) x = _ from rfl]
    have e : rcT i ⟨tlB (kd i) x ++ r, 0⟩ = (fun q : (Int × ByteArray × ByteArray × Int × Rul × Ver × Ask × Prt × List Int × Int × Int) × RS => ((⟨i, q.1.1, q.1.2.2.2.1, q.1.2.1, q.1.2.2.1, q.1.2.2.2.2.1, q.1.2.2.2.2.2.1, q.1.2.2.2.2.2.2.1, q.1.2.2.2.2.2.2.2.1, q.1.2.2.2.2.2.2.2.2.1, q.1.2.2.2.2.2.2.2.2.2.1, q.1.2.2.2.2.2.2.2.2.2.2⟩ : Rec), q.2)) (sq2 (opR (kd i).id (tk 3) 0) (sq2 (opR (kd i).name tx ⟨#[]⟩) (sq2 (opR (kd i).key tx ⟨#[]⟩) (sq2 (opR (kd i).n (tk 4) 0) (sq2 (opR (kd i).rule rl noR) (sq2 (opR (kd i).ver vr noV) (sq2 (opR (kd i).ask ak noA) (sq2 (opR (kd i).part pt noP) (sq2 (opR (kd i).secs its []) (sq2 (opR (kd i).vol (tk 1) 0) (opR (kd i).at_ (tk 2) 0)))))))))) ⟨tlB (kd i) x ++ r, 0⟩) := rfl
    rw [e]
    have this' : sq2 (opR (kd i).id (tk 3) 0) (sq2 (opR (kd i).name tx ⟨#[]⟩) (sq2 (opR (kd i).key tx ⟨#[]⟩) (sq2 (opR (kd i).n (tk 4) 0) (sq2 (opR (kd i).rule rl noR) (sq2 (opR (kd i).ver vr noV) (sq2 (opR (kd i).ask ak noA) (sq2 (opR (kd i).part pt noP) (sq2 (opR (kd i).secs its []) (sq2 (opR (kd i).vol (tk 1) 0) (opR (kd i).at_ (tk 2) 0)))))))))) ⟨tlB (kd i) x ++ r, 0⟩ = _ := this
    rw [this', ← hk]
  · exact h.torn (x.id, x.name, x.key, x.n, x.rule, x.ver, x.ask, x.part, x.secs, x.vol, x.at_) n hx.2 hn
  · exact h.dead f hf
def okRc (r : Rec) : Prop := (1 ≤ r.kind ∧ r.kind ≤ 14) ∧ okTl (kd r.kind) r
theorem rcK_ok {i : Int} {l : List UInt8} (h : 1 ≤ i ∧ i ≤ 14) : rcK (i, ⟨l, 0⟩) = ⟨l, 0⟩ := by
  unfold rcK
  rw [if_neg (by dsimp only; omega)]
theorem rcK_bad {i f : Int} {l : List UInt8} (h : f ≠ 0) : rcK (i, ⟨l, f⟩) = ⟨l, f⟩ := by
  unfold rcK
  rw [if_neg (by dsimp only; omega)]
theorem rw_rc : RW rc rcB okRc := by
  have hv : ∀ i : Int, 1 ≤ i ∧ i ≤ 14 → valB (numB i 1) = i := fun i h => valB_1 i (by omega) (by omega)
  refine ⟨fun x r hx => ?_, fun x n hx hn => ?_, fun f hf => ?_⟩
  · unfold rc rcB
    rw [List.append_assoc, tk_get (hv _ hx.1), rcK_ok hx.1, if_pos rfl]
    exact (rw_rcT x.kind).get x r ⟨rfl, hx.2⟩
  · unfold rc rcB
    cases n with
    | zero =>
      rw [List.take_zero, tk_short (by show 0 < 1; omega), if_pos rfl, rcK_bad (by decide), if_neg (by decide)]
    | succ n =>
      have e : (numB x.kind 1 ++ tlB (kd x.kind) x).take (n + 1) = numB x.kind 1 ++ (tlB (kd x.kind) x).take n := by
        rw [List.take_append, List.take_of_length_le (by rw [numB_len]; omega), numB_len]
        rfl
      rw [e, tk_get (hv _ hx.1), rcK_ok hx.1, if_pos rfl]
      refine (rw_rcT x.kind).torn x n ⟨rfl, hx.2⟩ ?_
      unfold rcB at hn
      rw [List.length_append, numB_len] at hn
      omega
  · unfold rc
    rw [tk_short (by show 0 < 1; omega), if_neg hf, rcK_bad hf, if_neg hf]
/-! ### what is read is what is written of it -/
theorem Fix.op {α : Type} {rd : RS → α × RS} {wr : α → List UInt8} (h : Fix rd wr) (b : Bool) (d : α) : Fix (opR b rd d) (opB b wr) := by
  cases b with
  | true => exact h
  | false => exact fun s hs => ⟨hs, rfl⟩
theorem fix_rcT (i : Int) : Fix (rcT i) (tlB (kd i)) := by
  intro s h
  have eb : (rcT i s).2 = (rc11 (kd i) s).2 := rfl
  rw [eb] at h ⊢
  obtain ⟨h11, e11⟩ := fixAt (b := (rc10 (kd i) s).2) (x := rc11 (kd i) s) ((fix_tk 2).op _ _) rfl h
  obtain ⟨h10, e10⟩ := fixAt (b := (rc9 (kd i) s).2) (x := rc10 (kd i) s) ((fix_tk 1).op _ _) rfl h11
  obtain ⟨h9, e9⟩ := fixAt (b := (rc8 (kd i) s).2) (x := rc9 (kd i) s) (fix_its.op _ _) rfl h10
  obtain ⟨h8, e8⟩ := fixAt (b := (rc7 (kd i) s).2) (x := rc8 (kd i) s) (fix_pt.op _ _) rfl h9
  obtain ⟨h7, e7⟩ := fixAt (b := (rc6 (kd i) s).2) (x := rc7 (kd i) s) (fix_ak.op _ _) rfl h8
  obtain ⟨h6, e6⟩ := fixAt (b := (rc5 (kd i) s).2) (x := rc6 (kd i) s) (fix_vr.op _ _) rfl h7
  obtain ⟨h5, e5⟩ := fixAt (b := (rc4 (kd i) s).2) (x := rc5 (kd i) s) (fix_rl.op _ _) rfl h6
  obtain ⟨h4, e4⟩ := fixAt (b := (rc3 (kd i) s).2) (x := rc4 (kd i) s) ((fix_tk 4).op _ _) rfl h5
  obtain ⟨h3, e3⟩ := fixAt (b := (rc2 (kd i) s).2) (x := rc3 (kd i) s) (fix_tx.op _ _) rfl h4
  obtain ⟨h2, e2⟩ := fixAt (b := (rc1 (kd i) s).2) (x := rc2 (kd i) s) (fix_tx.op _ _) rfl h3
  obtain ⟨h1, e1⟩ := fixAt (b := s) (x := rc1 (kd i) s) ((fix_tk 3).op _ _) rfl h2
  refine ⟨h1, ?_⟩
  rw [e1, e2, e3, e4, e5, e6, e7, e8, e9, e10, e11]
  simp only [tlB, rcT, List.append_assoc]
theorem fix_rc : Fix rc rcB := by
  intro s h
  unfold rc at h ⊢
  by_cases hk : (rcK (tk 1 s)).f = 0
  · rw [if_pos hk] at h ⊢
    obtain ⟨h1, e1⟩ := fix_rcT _ _ h
    have hb : rcK (tk 1 s) = (tk 1 s).2 := by
      unfold rcK at hk ⊢
      by_cases q : (tk 1 s).2.f = 0 ∧ ((tk 1 s).1 < 1 ∨ 14 < (tk 1 s).1)
      · rw [if_pos q] at hk
        exact absurd hk (by show ¬ (3 : Int) = 0; decide)
      · rw [if_neg q]
    rw [hb] at h1 e1 ⊢
    obtain ⟨h2, e2⟩ := fix_tk 1 s h1
    refine ⟨h2, ?_⟩
    unfold rcB
    rw [List.append_assoc]
    rw [e2, e1]
    rfl
  · rw [if_neg hk] at h
    exact absurd h hk
end Go.Proofs.YtohdfcnjcpjdcaaDoor
