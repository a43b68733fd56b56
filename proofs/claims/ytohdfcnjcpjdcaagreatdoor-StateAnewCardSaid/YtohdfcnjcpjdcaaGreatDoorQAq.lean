/- Records as bytes: what is written is read again; torn, it is a fault 5; what is read is what is written of it: in plain words. Conditions: as each law states them. -/
import Derived.Test.YtohdfcnjcpjdcaaGreatDoorWCq
import Derived.Test.YtohdfcnjcpjdcaaGreatDoorEAq
import Derived.Test.YtohdfcnjcpjdcaaGreatDoorS17q
namespace Go.Proofs.YtohdfcnjcpjdcaaGreatDoor
/-- the parts that a record of a kind has -/
structure Kd where
 id : Bool := false
 n : Bool := false
 name : Bool := false
 key : Bool := false
 rule : Bool := false
 ver : Bool := false
 ask : Bool := false
 part : Bool := false
 secs : Bool := false
 vol : Bool := false
 at_ : Bool := false
def kdL : List Kd := [{}, { name := true }, { name := true, n := true }, { name := true, rule := true }, { ver := true }, { id := true }, { id := true, vol := true, at_ := true }, { ask := true }, { id := true, secs := true, n := true }, { id := true }, { id := true, name := true, key := true }, { id := true, part := true }, { id := true }, { n := true }, { vol := true }]
def kd (k : Int) : Kd := kdL.getD k.toNat {}
/-! ### the writer -/
def opB {α : Type} (b : Bool) (wr : α → List UInt8) (x : α) : List UInt8 := if b then wr x else []
def tlB (k : Kd) (r : Rec) : List UInt8 := opB k.id (fun n => numB n 3) r.id ++ (opB k.name txB r.name ++ (opB k.key txB r.key ++ (opB k.n (fun n => numB n 4) r.n ++ (opB k.rule ruB r.rule ++ (opB k.ver vrB r.ver ++ (opB k.ask akB r.ask ++ (opB k.part ptB r.part ++ (opB k.secs itB r.secs ++ (opB k.vol (fun n => numB n 1) r.vol ++ opB k.at_ (fun n => numB n 2) r.at_)))))))))
def rcB (r : Rec) : List UInt8 := numB r.kind 1 ++ tlB (kd r.kind) r
/-! ### the reader -/
def opR {α : Type} (b : Bool) (rd : RS → α × RS) (d : α) (s : RS) : α × RS := if b then rd s else (d, s)
def noR : Rul := ⟨⟨#[]⟩, 0, 0⟩
def noAq : Ask := ⟨0, 0, 0⟩
def noP : Prt := ⟨0, 0, []⟩
def rc1 (k : Kd) (s : RS) := opR k.id (tk 3) 0 s
def rc2 (k : Kd) (s : RS) := opR k.name tx ⟨#[]⟩ (rc1 k s).2
def rc3 (k : Kd) (s : RS) := opR k.key tx ⟨#[]⟩ (rc2 k s).2
def rc4 (k : Kd) (s : RS) := opR k.n (tk 4) 0 (rc3 k s).2
def rc5 (k : Kd) (s : RS) := opR k.rule rl noR (rc4 k s).2
def rc6 (k : Kd) (s : RS) := opR k.ver vr noV (rc5 k s).2
def rc7 (k : Kd) (s : RS) := opR k.ask ak noAq (rc6 k s).2
def rc8 (k : Kd) (s : RS) := opR k.part pt noP (rc7 k s).2
def rc9 (k : Kd) (s : RS) := opR k.secs its [] (rc8 k s).2
def rc10 (k : Kd) (s : RS) := opR k.vol (tk 1) 0 (rc9 k s).2
def rc11 (k : Kd) (s : RS) := opR k.at_ (tk 2) 0 (rc10 k s).2
def rcT (i : Int) (s : RS) : Rec × RS := (⟨i, (rc1 (kd i) s).1, (rc4 (kd i) s).1, (rc2 (kd i) s).1, (rc3 (kd i) s).1, (rc5 (kd i) s).1, (rc6 (kd i) s).1, (rc7 (kd i) s).1, (rc8 (kd i) s).1, (rc9 (kd i) s).1, (rc10 (kd i) s).1, (rc11 (kd i) s).1⟩, (rc11 (kd i) s).2)
/-- the kind's own fault -/
def rcK (a : Int × RS) : RS := if a.2.f = 0 ∧ (a.1 < 1 ∨ 14 < a.1) then ⟨a.2.l, 3⟩ else a.2
def rc (s : RS) : Rec × RS := if (rcK (tk 1 s)).f = 0 then rcT (tk 1 s).1 (rcK (tk 1 s)) else (rec0 0, rcK (tk 1 s))
/-! ### what is written is read -/
theorem RW.op {α : Type} {rd : RS → α × RS} {wr : α → List UInt8} {ok : α → Prop} (h : RW rd wr ok) (b : Bool) (d : α) : RW (opR b rd d) (opB b wr) (fun x => if b then ok x else x = d) := by
 cases b with
 | true => exact h
 | false =>
  refine ⟨fun x r hx => ?_, fun x n _ hn => ?_, fun f _ => rfl⟩
  ·show (d, (⟨[] ++ r, 0⟩ : RS)) = (x, ⟨r, 0⟩)
   rw [show x = d from hx]
   rfl
  ·exact absurd hn (by show ¬ n < 0; omega)
def okO {α : Type} (b : Bool) (ok : α → Prop) (d x : α) : Prop := if b then ok x else x = d
def okTl (k : Kd) (r : Rec) : Prop := okO k.id (fun n => 0 ≤ n ∧ n < 16777216) 0 r.id ∧ okO k.name (fun t => t.size < 256) ⟨#[]⟩ r.name ∧ okO k.key (fun t => t.size < 256) ⟨#[]⟩ r.key ∧ okO k.n (fun n => 0 ≤ n ∧ n < 4294967296) 0 r.n ∧ okO k.rule okRl noR r.rule ∧ okO k.ver okVr noV r.ver ∧ okO k.ask okAk noAq r.ask ∧ okO k.part okPt noP r.part ∧ okO k.secs (fun l => l.length < 256 ∧ ∀ z ∈ l, 0 ≤ z ∧ z < 256) [] r.secs ∧ okO k.vol (fun n => 0 ≤ n ∧ n < 256) 0 r.vol ∧ okO k.at_ (fun n => 0 ≤ n ∧ n < 65536) 0 r.at_
theorem rw_rcT (i : Int) : RW (rcT i) (tlB (kd i)) (fun r => r.kind = i ∧ okTl (kd i) r) := by
 have h := RW.seq ((rw_tk 3 16777216 (by omega) valB_3).op (kd i).id 0) (RW.seq (rw_tx.op (kd i).name ⟨#[]⟩) (RW.seq (rw_tx.op (kd i).key ⟨#[]⟩) (RW.seq ((rw_tk 4 4294967296 (by omega) valB_4).op (kd i).n 0) (RW.seq (rw_rl.op (kd i).rule noR) (RW.seq (rw_vr.op (kd i).ver noV) (RW.seq (rw_ak.op (kd i).ask noAq) (RW.seq (rw_pt.op (kd i).part noP) (RW.seq (rw_its.op (kd i).secs []) (RW.seq ((rw_tk 1 256 (by omega) valB_1).op (kd i).vol 0) ((rw_tk 2 65536 (by omega) valB_2).op (kd i).at_ 0))))))))))
 have g : ∀ p : Int × ByteArray × ByteArray × Int × Rul × Ver × Ask × Prt × List Int × Int × Int, (⟨i, p.1, p.2.2.2.1, p.2.1, p.2.2.1, p.2.2.2.2.1, p.2.2.2.2.2.1, p.2.2.2.2.2.2.1, p.2.2.2.2.2.2.2.1, p.2.2.2.2.2.2.2.2.1, p.2.2.2.2.2.2.2.2.2.1, p.2.2.2.2.2.2.2.2.2.2⟩ : Rec).kind = i := fun p => rfl
 refine ⟨fun x r hx => ?_, fun x n hx hn => ?_, fun f hf => ?_⟩
 ·obtain ⟨hk, hx⟩ := hx
  have := h.get (x.id, x.name, x.key, x.n, x.rule, x.ver, x.ask, x.part, x.secs, x.vol, x.at_) r hx
  rw [show tlB (kd i) x = _ from rfl]
  have e : rcT i ⟨tlB (kd i) x ++ r, 0⟩ = (fun q : (Int × ByteArray × ByteArray × Int × Rul × Ver × Ask × Prt × List Int × Int × Int) × RS => ((⟨i, q.1.1, q.1.2.2.2.1, q.1.2.1, q.1.2.2.1, q.1.2.2.2.2.1, q.1.2.2.2.2.2.1, q.1.2.2.2.2.2.2.1, q.1.2.2.2.2.2.2.2.1, q.1.2.2.2.2.2.2.2.2.1, q.1.2.2.2.2.2.2.2.2.2.1, q.1.2.2.2.2.2.2.2.2.2.2⟩ : Rec), q.2)) (sq2 (opR (kd i).id (tk 3) 0) (sq2 (opR (kd i).name tx ⟨#[]⟩) (sq2 (opR (kd i).key tx ⟨#[]⟩) (sq2 (opR (kd i).n (tk 4) 0) (sq2 (opR (kd i).rule rl noR) (sq2 (opR (kd i).ver vr noV) (sq2 (opR (kd i).ask ak noAq) (sq2 (opR (kd i).part pt noP) (sq2 (opR (kd i).secs its []) (sq2 (opR (kd i).vol (tk 1) 0) (opR (kd i).at_ (tk 2) 0)))))))))) ⟨tlB (kd i) x ++ r, 0⟩) := rfl
  rw [e]
  have this' : sq2 (opR (kd i).id (tk 3) 0) (sq2 (opR (kd i).name tx ⟨#[]⟩) (sq2 (opR (kd i).key tx ⟨#[]⟩) (sq2 (opR (kd i).n (tk 4) 0) (sq2 (opR (kd i).rule rl noR) (sq2 (opR (kd i).ver vr noV) (sq2 (opR (kd i).ask ak noAq) (sq2 (opR (kd i).part pt noP) (sq2 (opR (kd i).secs its []) (sq2 (opR (kd i).vol (tk 1) 0) (opR (kd i).at_ (tk 2) 0)))))))))) ⟨tlB (kd i) x ++ r, 0⟩ = _ := this
  rw [this', ← hk]
 ·exact h.torn (x.id, x.name, x.key, x.n, x.rule, x.ver, x.ask, x.part, x.secs, x.vol, x.at_) n hx.2 hn
 ·exact h.dead f hf
def okRc (r : Rec) : Prop := (1 ≤ r.kind ∧ r.kind ≤ 14) ∧ okTl (kd r.kind) r
theorem rcK_ok {i : Int} {l : List UInt8} (h : 1 ≤ i ∧ i ≤ 14) : rcK (i, ⟨l, 0⟩) = ⟨l, 0⟩ := by
 unfold rcK
 rw [if_neg (by dsimp only; omega)]
theorem rcK_bad {i f : Int} {l : List UInt8} (h : f ≠ 0) : rcK (i, ⟨l, f⟩) = ⟨l, f⟩ := by
 unfold rcK
 rw [if_neg (by dsimp only; omega)]
theorem rw_rc : RW rc rcB okRc := by
 have hv : ∀ i : Int, 1 ≤ i ∧ i ≤ 14 → valB (numB i 1) = i := fun i h => valB_1 i (by omega) (by omega)
 refine ⟨fun x r hx => ?_, fun x n hx hn => ?_, fun f hf => ?_⟩
 ·unfold rc rcB
  rw [List.append_assoc, tk_get (hv _ hx.1), rcK_ok hx.1, if_pos rfl]
  exact (rw_rcT x.kind).get x r ⟨rfl, hx.2⟩
 ·unfold rc rcB
  cases n with
  | zero =>
   rw [List.take_zero, tk_short (by show 0 < 1; omega), if_pos rfl, rcK_bad (by decide), if_neg (by decide)]
  | succ n =>
   have e : (numB x.kind 1 ++ tlB (kd x.kind) x).take (n + 1) = numB x.kind 1 ++ (tlB (kd x.kind) x).take n := by
    rw [List.take_append, List.take_of_length_le (by rw [numB_len]; omega), numB_len]
    rfl
   rw [e, tk_get (hv _ hx.1), rcK_ok hx.1, if_pos rfl]
   refine (rw_rcT x.kind).torn x n ⟨rfl, hx.2⟩ ?_
   unfold rcB at hn
   rw [List.length_append, numB_len] at hn
   omega
 ·unfold rc
  rw [tk_short (by show 0 < 1; omega), if_neg hf, rcK_bad hf, if_neg hf]
/-! ### what is read is what is written of it -/
theorem Fix.op {α : Type} {rd : RS → α × RS} {wr : α → List UInt8} (h : Fix rd wr) (b : Bool) (d : α) : Fix (opR b rd d) (opB b wr) := by
 cases b with
 | true => exact h
 | false => exact fun s hs => ⟨hs, rfl⟩
end Go.Proofs.YtohdfcnjcpjdcaaGreatDoor
/- Records as bytes: which may be written; lists of them: in plain words. Conditions: as each law states them. -/
namespace Go.Proofs.YtohdfcnjcpjdcaaGreatDoor
/-- all numbers, texts and lists of a record are small enough -/
structure Fits (r : Rec) : Prop where
 id : 0 ≤ r.id ∧ r.id < 16777216
 name : r.name.size < 256
 key : r.key.size < 256
 n : 0 ≤ r.n ∧ r.n < 4294967296
 rule : okRl r.rule
 ver : okVr r.ver
 ask : okAk r.ask
 part : okPt r.part
 secs : r.secs.length < 256 ∧ ∀ z ∈ r.secs, 0 ≤ z ∧ z < 256
 vol : 0 ≤ r.vol ∧ r.vol < 256
 at_ : 0 ≤ r.at_ ∧ r.at_ < 65536
/-- a record has what its kind has, and nothing more -/
structure Bare (r : Rec) : Prop where
 id : (kd r.kind).id = false → r.id = 0
 name : (kd r.kind).name = false → r.name = ⟨#[]⟩
 key : (kd r.kind).key = false → r.key = ⟨#[]⟩
 n : (kd r.kind).n = false → r.n = 0
 rule : (kd r.kind).rule = false → r.rule = noR
 ver : (kd r.kind).ver = false → r.ver = noV
 ask : (kd r.kind).ask = false → r.ask = noAq
 part : (kd r.kind).part = false → r.part = noP
 secs : (kd r.kind).secs = false → r.secs = []
 vol : (kd r.kind).vol = false → r.vol = 0
 at_ : (kd r.kind).at_ = false → r.at_ = 0
theorem okO_of {α : Type} {b : Bool} {ok : α → Prop} {d x : α} (h : ok x) (hb : b = false → x = d) : okO b ok d x := by
 cases b with
 | true => exact h
 | false => exact hb rfl
theorem okO_ok {α : Type} {b : Bool} {ok : α → Prop} {d x : α} (h : okO b ok d x) (hd : ok d) : ok x := by
 cases b with
 | true => exact h
 | false => rw [show x = d from h]; exact hd
theorem okO_bare {α : Type} {b : Bool} {ok : α → Prop} {d x : α} (h : okO b ok d x) (hb : b = false) : x = d := by
 subst hb
 exact h
theorem okRl_no : okRl noR := ⟨by decide, ⟨by decide, by decide⟩, ⟨by decide, by decide⟩⟩
theorem okVr_no : okVr noV := ⟨⟨by decide, by decide⟩, by decide, by decide, trivial, trivial, ⟨by decide, by decide⟩, ⟨by decide, by decide⟩, ⟨by decide, by decide⟩, ⟨by decide, fun _ h => absurd h List.not_mem_nil⟩, ⟨by decide, by decide⟩, ⟨by decide, by decide⟩, ⟨by decide, by decide⟩⟩
theorem okAk_no : okAk noAq := ⟨⟨by decide, by decide⟩, ⟨by decide, by decide⟩, ⟨by decide, by decide⟩⟩
theorem okPt_no : okPt noP := ⟨⟨by decide, by decide⟩, ⟨by decide, by decide⟩, ⟨by decide, fun _ h => absurd h List.not_mem_nil⟩⟩
theorem okRc_iff {r : Rec} : okRc r ↔ (1 ≤ r.kind ∧ r.kind ≤ 14) ∧ Fits r ∧ Bare r := by
 constructor
 ·rintro ⟨hk, h1, h2, h3, h4, h5, h6, h7, h8, h9, h10, h11⟩
  have g1 := okO_ok h1 ⟨by decide, by decide⟩
  have g2 := okO_ok h2 (by show (0 : Nat) < 256; decide)
  have g3 := okO_ok h3 (by show (0 : Nat) < 256; decide)
  have g4 := okO_ok h4 ⟨by decide, by decide⟩
  have g5 := okO_ok h5 okRl_no
  have g6 := okO_ok h6 okVr_no
  have g7 := okO_ok h7 okAk_no
  have g8 := okO_ok h8 okPt_no
  have g9 := okO_ok h9 ⟨by decide, fun _ h => absurd h List.not_mem_nil⟩
  have g10 := okO_ok h10 ⟨by decide, by decide⟩
  have g11 := okO_ok h11 ⟨by decide, by decide⟩
  exact ⟨hk, ⟨g1, g2, g3, g4, g5, g6, g7, g8, g9, g10, g11⟩, ⟨okO_bare h1, okO_bare h2, okO_bare h3, okO_bare h4, okO_bare h5, okO_bare h6, okO_bare h7, okO_bare h8, okO_bare h9, okO_bare h10, okO_bare h11⟩⟩
 ·rintro ⟨hk, f, b⟩
  exact ⟨hk, okO_of f.id b.id, okO_of f.name b.name, okO_of f.key b.key, okO_of f.n b.n, okO_of f.rule b.rule, okO_of f.ver b.ver, okO_of f.ask b.ask, okO_of f.part b.part, okO_of f.secs b.secs, okO_of f.vol b.vol, okO_of f.at_ b.at_⟩
/-! ### what is read is small enough -/
def Bd {α : Type} (rd : RS → α × RS) (ok : α → Prop) : Prop := ∀ s, ok (rd s).1
theorem Bd.op {α : Type} {rd : RS → α × RS} {ok : α → Prop} (h : Bd rd ok) (b : Bool) (d : α) (s : RS) : okO b ok d (opR b rd d s).1 := by
 cases b with
 | true => exact h s
 | false => rfl
theorem bd_tk {k : Nat} (M : Nat) (hM : 256 ^ k ≤ M) : Bd (tk k) (fun n => 0 ≤ n ∧ n < (M : Int)) := by
 intro s
 unfold tk
 have hM0 : 0 < M := Nat.lt_of_lt_of_le (Nat.pos_of_ne_zero (by simp)) hM
 split
 ·exact ⟨Int.le_refl _, by show (0 : Int) < _; omega⟩
 ·have h := valB_bd (s.l.take k)
  have h1 : (256 : Nat) ^ (s.l.take k).length ≤ 256 ^ k := Nat.pow_le_pow_right (by omega) (by rw [List.length_take]; omega)
  exact ⟨h.1, by show valB _ < _; omega⟩
theorem bd_tk1 : Bd (tk 1) (fun n => 0 ≤ n ∧ n < 256) := bd_tk 256 (by decide)
theorem bd_tk2 : Bd (tk 2) (fun n => 0 ≤ n ∧ n < 65536) := bd_tk 65536 (by decide)
theorem bd_tk3 : Bd (tk 3) (fun n => 0 ≤ n ∧ n < 16777216) := bd_tk 16777216 (by decide)
theorem bd_tk4 : Bd (tk 4) (fun n => 0 ≤ n ∧ n < 4294967296) := bd_tk 4294967296 (by decide)
theorem bd_tx : Bd tx (fun t => t.size < 256) := by
 intro s
 have h := bd_tk1 s
 unfold tx
 split
 ·exact (by decide : (0 : Nat) < 256)
 ·show ((tk 1 s).2.l.take (tk 1 s).1.toNat).toArray.size < 256
  rw [List.size_toArray, List.length_take]
  dsimp only at h
  omega
theorem mn_its : ∀ (n : Nat) (a : List Int) (s : RS), (∀ z ∈ a, 0 ≤ z ∧ z < 256) → ((mn itS n a s).1.length ≤ a.length + n ∧ ∀ z ∈ (mn itS n a s).1, 0 ≤ z ∧ z < 256)
 | 0, a, s, h => ⟨by simp [mn], h⟩
 | n + 1, a, s, h => by
  rw [mn]
  split
  ·have h1 := mn_its n (itS a s).1 (itS a s).2 (by
    intro z hz
    rcases List.mem_append.1 hz with hz | hz
    ·exact h z hz
    ·rw [List.mem_singleton.1 hz]
     exact bd_tk1 s)
   refine ⟨?_, h1.2⟩
   have h2 : (itS a s).1.length = a.length + 1 := by simp [itS]
   omega
  ·exact ⟨by simp, h⟩
theorem bd_its : Bd its (fun l => l.length < 256 ∧ ∀ z ∈ l, 0 ≤ z ∧ z < 256) := by
 intro s
 have h := bd_tk1 s
 dsimp only at h
 have h1 := mn_its (tk 1 s).1.toNat [] (tk 1 s).2 (fun _ h => absurd h List.not_mem_nil)
 refine ⟨?_, h1.2⟩
 have h2 : (its s).1.length ≤ (tk 1 s).1.toNat := by
  have := h1.1
  rw [List.length_nil, Nat.zero_add] at this
  exact this
 omega
theorem bd_rl : Bd rl okRl := fun s => ⟨bd_tx s, by have := bd_tk4 (tx s).2; dsimp only [rl]; omega, by have := bd_tk4 (tk 4 (tx s).2).2; dsimp only [rl]; omega⟩
theorem bd_pt : Bd pt okPt := fun _ => ⟨bd_tk1 _, bd_tk2 _, bd_its _⟩
theorem bd_ak : Bd ak okAk := fun _ => ⟨bd_tk3 _, bd_tk2 _, bd_tk1 _⟩
theorem Bd.at_ {α : Type} {rd : RS → α × RS} {ok : α → Prop} (h : Bd rd ok) (s : RS) {x : α} (e : x = (rd s).1) : ok x := e ▸ h s
theorem bd_vr : Bd vr okVr := fun s => by
 have h1 := bd_tk3.at_ s (x := (vr s).1.id) (by simp only [vr, vr1])
 have h2 := bd_tx.at_ (vr1 s).2 (x := (vr s).1.bucket) (by simp only [vr, vr2])
 have h3 := bd_tx.at_ (vr2 s).2 (x := (vr s).1.key) (by simp only [vr, vr3])
 have h6 := bd_tk2.at_ (vr5 s).2 (x := (vr s).1.size) (by simp only [vr, vr6])
 have h7 := bd_tk4.at_ (vr6 s).2 (x := (vr s).1.time) (by simp only [vr, vr7])
 have h8 := bd_tk1.at_ (vr7 s).2 (x := (vr s).1.tier) (by simp only [vr, vr8])
 have h9 := bd_its.at_ (vr8 s).2 (x := (vr s).1.secs) (by simp only [vr, vr9])
 have h10 := bd_tk1.at_ (vr9 s).2 (x := (vr s).1.vol) (by simp only [vr, vr10])
 have h11 := bd_tk2.at_ (vr10 s).2 (x := (vr s).1.at_) (by simp only [vr, vr11])
 have h12 := bd_tk4.at_ (vr11 s).2 (x := (vr s).1.till) (by simp only [vr, vr12])
 obtain ⟨v, hv⟩ : ∃ v, v = (vr s).1 := ⟨_, rfl⟩
 show okVr (vr s).1
 rw [← hv] at h1 h2 h3 h6 h7 h8 h9 h10 h11 h12 ⊢
 exact ⟨h1, h2, h3, trivial, trivial, h6, h7, h8, h9, h10, h11, h12⟩
theorem bd_rcT (i : Int) (s : RS) : okTl (kd i) (rcT i s).1 :=
 ⟨bd_tk3.op _ _ s, bd_tx.op _ _ (rc1 (kd i) s).2, bd_tx.op _ _ (rc2 (kd i) s).2, bd_tk4.op _ _ (rc3 (kd i) s).2, bd_rl.op _ _ (rc4 (kd i) s).2, bd_vr.op _ _ (rc5 (kd i) s).2, bd_ak.op _ _ (rc6 (kd i) s).2, bd_pt.op _ _ (rc7 (kd i) s).2, bd_its.op _ _ (rc8 (kd i) s).2, bd_tk1.op _ _ (rc9 (kd i) s).2, bd_tk2.op _ _ (rc10 (kd i) s).2⟩
end Go.Proofs.YtohdfcnjcpjdcaaGreatDoor
/- The kinds' table; small functions of the records' codes. Conditions: as each law states them. -/
namespace Go.Proofs.YtohdfcnjcpjdcaaGreatDoor
open Go.RowKit
set_option linter.unusedSimpArgs false
section
variable {P : Program} {E : Env} {σ : St} {o : Oper}
/-- an element's address in an array that is a package variable -/
theorem globElem_does {t e n kc g m : Nat} {i : Operand} {kk : IntKind} {j : Int} {cs : List Value} (ho : o.op = .indexAddr t (.global g) i) (hu : P.underlying t = some (.array n e)) (hk : tSize P e = some kc)
  (hi : ev σ i = some (.c (.v (.int kk j)))) (hd : dOk E o.dst) (hj : j = (m : Int)) (hm : m < n) (_ : 1 < n) (hs : ∀ G : GW, Now E σ G → g < G.w.heap.size ∧ ¬ G.M g ∧ G.w.rangeAt g (m * kc) cs) :
  Does P E σ o (fun σ' => ∃ G, σ' = ((σ.seen G).view g (m * kc) cs).put o.dst (.c (.q σ.next g (m * kc) 0))) := by
 intro a w Q next hr hn
 obtain ⟨hg, hM, hrg⟩ := hs ⟨σ.M E, w⟩ hr.now
 have hi' : a.eval i = .int kk j := ev_den hr.see hi
 obtain ⟨inf, hinf, hsz⟩ := tSize_spec hk
 have hadd : (⟨g, 0, none⟩ : Addr).add (m * kc) = ⟨g, m * kc, none⟩ := by unfold Addr.add; split <;> simp_all
 have hgl : a.eval (.global g) = .pointer (some ⟨g, 0, none⟩) := rfl
 have hrun : (execOp a.eval o).run P w = .ok (.value (.pointer (some ⟨g, m * kc, none⟩))) w := by
  unfold execOp
  subst hj
  have hc1 : 0 ≤ (m : Int) ∧ (m : Int) < (n : Int) := ⟨by omega, by omega⟩
  simp only [ho, hi', hgl, Instr.indexAt, Instr.sureAddr, Sem.run_bind, asIntOf, Sem.run_pure, Result.andThen_ok, run_underlying hu, hc1, and_self, if_true, sizeOf, typeInfo, run_program, hinf, hsz, Int.toNat_natCast, hadd]
 refine wp_of_value hrun (hn _ _ _ ⟨⟨σ.M E, w⟩, rfl⟩ ?_)
 exact (((hr.called (Chg.refl _ _)).addV hg (fun q => hM q) hrg).put o.dst (.c (.q σ.next g (m * kc) 0)) (dOk_lt hd))
end
def kdC (k : Kd) : List Value := [.bool k.id, .bool k.n, .bool k.name, .bool k.key, .bool k.rule, .bool k.ver, .bool k.ask, .bool k.part, .bool k.secs, .bool k.vol, .bool k.at_]
def kdb (k : Kd) : List Bool := [k.id, k.n, k.name, k.key, k.rule, k.ver, k.ask, k.part, k.secs, k.vol, k.at_]
theorem kdC_eq (k : Kd) : kdC k = (kdb k).map Value.bool := rfl
theorem kdL_eq : kdL.flatMap kdC = (kdL.flatMap kdb).map Value.bool := by
 rw [List.map_flatMap]
 rfl
/-- the table of kinds, as it lies in memory -/
abbrev KindsG (G : GW) : Prop := BlkG G 0 (kdL.flatMap kdC)
theorem kinds_at {G : GW} (h : KindsG G) {m : Nat} (hm : m < 15) : 0 < G.w.heap.size ∧ ¬ G.M 0 ∧ G.w.rangeAt 0 (m * 11) (kdC (kd (m : Int))) := by
 obtain ⟨h1, h2, h3⟩ := h
 refine ⟨h1, h2, fun j u hj => ?_⟩
 have hjl : j < 11 := (List.getElem?_eq_some_iff.1 hj).1
 have h4 := h3 (m * 11 + j) u (by
  rw [← hj]
  have : ∀ m : Fin 15, ∀ j : Fin 11, (kdL.flatMap kdb)[m.1 * 11 + j.1]? = (kdb (kd (m.1 : Int)))[j.1]? := by decide
  rw [kdL_eq, kdC_eq, List.getElem?_map, List.getElem?_map]
  exact congrArg (Option.map Value.bool) (this ⟨m, hm⟩ ⟨j, hjl⟩))
 rw [Nat.zero_add] at h4
 exact h4
def nothingB (x : Prt) : Bool := (decide (x.n = 0) && decide (x.size = 0)) && decide ((x.secs.length : Int) = 0)
def noT : ByteArray := ⟨#[]⟩
theorem strE (t : ByteArray) : (t.toList == noT.toList) = decide (t.size = 0) := by
 rw [ByteArray.toList_eq, ByteArray.toList_eq, show t.size = t.data.toList.length from Array.length_toList.symm]
 show (t.data.toList == []) = _
 cases t.data.toList with
 | nil => rfl
 | cons a l => simp
theorem strE_iff (t : ByteArray) : t.size = 0 ↔ t = noT := by
 constructor
 ·intro h
  obtain ⟨⟨l⟩⟩ := t
  cases l with
  | nil => rfl
  | cons a l => exact absurd h (by show ¬ (a :: l).length = 0; simp)
 ·rintro rfl
  rfl
def emptyB (x : Ver) : Bool := ((((((((((decide (x.id = 0) && (x.bucket.toList == noT.toList)) && (x.key.toList == noT.toList)) && !x.null) && !x.marker) && decide (x.size = 0)) && decide (x.time = 0)) && decide (x.tier = 0)) && decide ((x.secs.length : Int) = 0)) && decide (x.vol = 0)) && decide (x.at_ = 0)) && decide (x.till = 0)
set_option maxRecDepth 100000 in
set_option maxHeartbeats 8000000 in
theorem nothing_does {x : Prt} {sv : Value} {G0 : GW} (hW : G0.Wf) (h : IntsG G0 sv x.secs) :
  Calls Tryz.prog 51 #[.agg #[.int .i64 x.n, .int .i64 x.size, sv]] G0.w (Ret G0 fun y _ => y = .bool (nothingB x)) := by
 obtain ⟨A, c, rfl, hc1, hc2⟩ := Sq.form h
 have hml := max_le
 refine enterS (G := G0) (n := 17) 3000 hW Tryz.func51 rfl Tryz.ntmps51 (by simp) ?_
 simp only [go_sem, simprocAttr]
 intro g
 refine fin_ret (G := G0) Tryz.results51 ?_
 simp only [go_sem, simprocAttr]
 intro aa w' _ _
 rfl
set_option maxRecDepth 100000 in
set_option maxHeartbeats 8000000 in
theorem empty_does {x : Ver} {sv : Value} {G0 : GW} (hW : G0.Wf) (h : IntsG G0 sv x.secs) :
  Calls Tryz.prog 50 #[.agg (verV x sv).toArray] G0.w (Ret G0 fun y _ => y = .bool (emptyB x)) := by
 obtain ⟨A, c, rfl, hc1, hc2⟩ := Sq.form h
 have hml := max_le
 refine enterS (G := G0) (n := 62) 3000 hW Tryz.func50 rfl Tryz.ntmps50 (by simp) ?_
 simp only [go_sem, simprocAttr, verV]
 intro g
 refine fin_ret (G := G0) Tryz.results50 ?_
 simp only [go_sem, simprocAttr]
 intro aa w' _ _
 rfl
theorem nothing_iff (x : Prt) : nothingB x = true ↔ x = noP := by
 obtain ⟨n, z, l⟩ := x
 unfold nothingB noP
 simp only [Bool.and_eq_true, decide_eq_true_eq, Prt.mk.injEq]
 constructor
 ·rintro ⟨⟨h1, h2⟩, h3⟩
  exact ⟨h1, h2, List.eq_nil_of_length_eq_zero (by omega)⟩
 ·rintro ⟨h1, h2, h3⟩
  subst h3
  exact ⟨⟨h1, h2⟩, rfl⟩
theorem empty_iff (x : Ver) : emptyB x = true ↔ x = noV := by
 obtain ⟨a, b, c, d, e, f, g, h, l, i, j, k⟩ := x
 unfold emptyB noV
 simp only [Bool.and_eq_true, decide_eq_true_eq, strE, strE_iff, Bool.not_eq_true', Ver.mk.injEq]
 constructor
 ·rintro ⟨⟨⟨⟨⟨⟨⟨⟨⟨⟨⟨h1, h2⟩, h3⟩, h4⟩, h5⟩, h6⟩, h7⟩, h8⟩, h9⟩, h10⟩, h11⟩, h12⟩
  exact ⟨h1, h2, h3, h4, h5, h6, h7, h8, List.eq_nil_of_length_eq_zero (by omega), h10, h11, h12⟩
 ·rintro ⟨h1, h2, h3, h4, h5, h6, h7, h8, h9, h10, h11, h12⟩
  subst h9
  exact ⟨⟨⟨⟨⟨⟨⟨⟨⟨⟨⟨h1, h2⟩, h3⟩, h4⟩, h5⟩, h6⟩, h7⟩, h8⟩, rfl⟩, h10⟩, h11⟩, h12⟩
end Go.Proofs.YtohdfcnjcpjdcaaGreatDoor
/- Do all numbers of a list fit; may texts and lists be written: fits, names. Conditions: as each law states them. -/
namespace Go.Proofs.YtohdfcnjcpjdcaaGreatDoor
open Go.RowKit
set_option linter.unusedSimpArgs false
def StrG (_ : GW) (x : ByteArray) (cs : List Value) : Prop := cs = [.string x]
theorem strG_mono : MonoR StrG := fun _ _ _ _ _ h => h
def StrsG (G : GW) (v : Value) (l : List ByteArray) : Prop := Sq StrG 9 1 G v l
theorem StrsG.of {G : GW} {v : Value} {l : List ByteArray} (h : Sl G 9 1 l.length v (l.map Value.string)) : StrsG G v l := by
 refine ⟨l.map fun x => [Value.string x], ⟨by simp, by simp, fun i cs x h1 h2 => ?_⟩, ?_⟩
 ·rw [List.getElem?_map, h2] at h1
  cases h1
  rfl
 ·have : (l.map fun x => [Value.string x]).flatten = l.map Value.string := by
   clear h
   induction l with
   | nil => rfl
   | cons a r ih => simp [ih]
  rw [this]
  exact h
section
variable {P : Program} {E : Env} {σ : St}
/-- a block of the call's own, as a slice that nobody writes for the time of a call -/
theorem Now.slG {G : GW} (hn : Now E σ G) {b : Bl} (hb : b ∈ σ.blks) {ks : List Nat} (hk : b.g ∈ ks) {m k : Nat} (hl : b.cs.length = m * k) (h : m ≤ maxLen) : Sl (G.sub ks) b.t k m (.slice (some ⟨b.g, 0, none⟩) m m) (b.cs.map SC.den) := by
 refine ⟨_, m, rfl, Nat.le_refl _, h, by simpa using hl, fun _ => ⟨b.g, 0, dens b.cs, (0, 0), rfl, fun q => q.2 hk, hn.blks b hb, fun j u hj => ?_⟩⟩
 rw [Nat.zero_add]
 simpa [dens] using hj
end
set_option maxRecDepth 100000 in
set_option maxHeartbeats 8000000 in
theorem indexI' {l : List Int} {lv : Value} {f : FuncId} {caps : Array Value} {p : Int → Bool} {G0 : GW} (hW : G0.Wf) (h : Sq IntG 3 1 G0 lv l) (hf : isFn Tryz.prog f = true) (hc : ∀ G x, x ∈ l → G0.Le G → G.Wf → Calls Tryz.prog f (#[.int .i64 x] ++ caps) G.w (Ret G fun v _ => v = .bool (p x))) :
  Calls Tryz.prog 74 #[lv, .func (.func f) #[] caps] G0.w (Ret G0 fun v _ => ∃ i : Int, v = .int .i64 i ∧ decide (0 ≤ i) = l.any p) := by
 obtain ⟨A, c, rfl, hc1, hc2⟩ := Sq.form h
 have hml := max_le
 refine enterS (G := G0) (n := 19) 3000 hW Tryz.func74 rfl Tryz.ntmps74 (by simp) ?_
 simp only [go_sem, simprocAttr]
 refine loop_ok (N := 3000) (ι := Nat) (fun i => ⟨[(0, .c (.v (.slice A l.length c))), (1, .c (.v (.func (.func f) #[] caps))), (7, .c (.v (.int .i64 (l.length : Int)))), (8, .c (.v (.int .i64 (i : Int))))], [], [], [], [G0], 0⟩)
  (fun i => i ≤ l.length ∧ ∀ k y, k < i → l[k]? = some y → p y = false)
  (fun i => l.length - i) (QOk_body _ _ _) 0 ⟨by omega, fun k y hk => absurd hk (by omega)⟩ (by simp only [go_sem, simprocAttr]; simp) ?_
 rintro i ⟨hi, hno⟩
 by_cases hlt : i < l.length
 ·have q : decide ((i : Int) < (l.length : Int)) = true := decide_eq_true (by omega)
  obtain ⟨x, hx⟩ : ∃ x, l[i]? = some x := ⟨_, List.getElem?_eq_getElem hlt⟩
  simp only [go_sem, simprocAttr, q]
  refine pk (elem_does (R := IntG) (l := l) (m := i) rfl tySlice27 tySize3 rfl rfl (dk rfl) rfl hx (fun G hG => Sq.mono h intG_mono (hG.le G0 (by simp)))) ?_
  rintro _ ⟨g2, o', cs, G2, hcl, hcs, rfl⟩
  obtain rfl := hcs
  simp only [go_sem, simprocAttr, q]
  refine pk (callD_does (fun r _ => r = .bool (p x)) rfl rfl rfl rfl hf rfl (dk rfl) (fun G hG => hc G x (List.mem_of_getElem? hx) (hG.le G0 (by simp)) hG.wf)) ?_
  rintro _ ⟨_, G3, rfl, hn3, rfl⟩
  simp only [go_sem, simprocAttr]
  refine Wb_mk (fun h2 => ?_) (fun h2 => ?_)
  ·refine fin_ret (G := G0) Tryz.results74 ?_
   simp only [go_sem, simprocAttr]
   intro aa w' _ _
   refine ⟨(i : Int), rfl, ?_⟩
   rw [List.any_eq_true.2 ⟨x, List.mem_of_getElem? hx, h2⟩]
   exact decide_eq_true (by omega)
  ·refine ⟨by omega, ?_⟩
   refine again_ok (i + 1) ⟨hlt, fun k y hk hy => ?_⟩ (by omega) (by simp only [go_sem, simprocAttr]; simp)
   by_cases e : k = i
   ·subst e
    rw [hx] at hy; cases hy; exact h2
   ·exact hno k y (by omega) hy
 ·have q : decide ((i : Int) < (l.length : Int)) = false := decide_eq_false (by omega)
  simp only [go_sem, simprocAttr, q]
  refine fin_ret (G := G0) Tryz.results74 ?_
  simp only [go_sem, simprocAttr]
  intro aa w' _ _
  refine ⟨-1, rfl, ?_⟩
  rw [show l.any p = false from List.any_eq_false.2 fun y hy => by
   obtain ⟨k, hk, rfl⟩ := List.getElem_of_mem hy
   rw [hno k _ (by omega) (List.getElem?_eq_getElem hk)]
   decide]
  rfl
set_option maxRecDepth 100000 in
set_option maxHeartbeats 8000000 in
theorem containsI' {l : List Int} {lv : Value} {f : FuncId} {caps : Array Value} {p : Int → Bool} {G0 : GW} (hW : G0.Wf) (h : Sq IntG 3 1 G0 lv l) (hf : isFn Tryz.prog f = true) (hc : ∀ G x, x ∈ l → G0.Le G → G.Wf → Calls Tryz.prog f (#[.int .i64 x] ++ caps) G.w (Ret G fun v _ => v = .bool (p x))) :
  Calls Tryz.prog 46 #[lv, .func (.func f) #[] caps] G0.w (Ret G0 fun v _ => v = .bool (l.any p)) := by
 obtain ⟨A, c, rfl, hc1, hc2⟩ := Sq.form h
 have hml := max_le
 refine enterS (G := G0) (n := 9) 3000 hW Tryz.func46 rfl Tryz.ntmps46 (by simp) ?_
 simp only [go_sem, simprocAttr]
 refine pk (call_does (fun v _ => ∃ i : Int, v = .int .i64 i ∧ decide (0 ≤ i) = l.any p) rfl rfl (by kernel_rfl) rfl (dk rfl) (fun G hG => indexI' hG.wf (Sq.mono h intG_mono (hG.le G0 (by simp))) hf (fun G' x hx hl hw => hc G' x hx ((hG.le G0 (by simp)).trans hl) hw))) ?_
 rintro _ ⟨_, G3, ⟨i, rfl, hi⟩, hn3, rfl⟩
 clear hn3
 simp only [go_sem, simprocAttr, hi]
 refine fin_ret (G := G0) Tryz.results46 ?_
 simp only [go_sem, simprocAttr]
 intro aa w' _ _
 rfl
set_option maxRecDepth 100000 in
set_option maxHeartbeats 8000000 in
theorem indexS' {l : List ByteArray} {lv : Value} {f : FuncId} {caps : Array Value} {p : ByteArray → Bool} {G0 : GW} (hW : G0.Wf) (h : Sq StrG 9 1 G0 lv l) (hf : isFn Tryz.prog f = true) (hc : ∀ G x, x ∈ l → G0.Le G → G.Wf → Calls Tryz.prog f (#[.string x] ++ caps) G.w (Ret G fun v _ => v = .bool (p x))) :
  Calls Tryz.prog 75 #[lv, .func (.func f) #[] caps] G0.w (Ret G0 fun v _ => ∃ i : Int, v = .int .i64 i ∧ decide (0 ≤ i) = l.any p) := by
 obtain ⟨A, c, rfl, hc1, hc2⟩ := Sq.form h
 have hml := max_le
 refine enterS (G := G0) (n := 19) 3000 hW Tryz.func75 rfl Tryz.ntmps75 (by simp) ?_
 simp only [go_sem, simprocAttr]
 refine loop_ok (N := 3000) (ι := Nat) (fun i => ⟨[(0, .c (.v (.slice A l.length c))), (1, .c (.v (.func (.func f) #[] caps))), (7, .c (.v (.int .i64 (l.length : Int)))), (8, .c (.v (.int .i64 (i : Int))))], [], [], [], [G0], 0⟩)
  (fun i => i ≤ l.length ∧ ∀ k y, k < i → l[k]? = some y → p y = false)
  (fun i => l.length - i) (QOk_body _ _ _) 0 ⟨by omega, fun k y hk => absurd hk (by omega)⟩ (by simp only [go_sem, simprocAttr]; simp) ?_
 rintro i ⟨hi, hno⟩
 by_cases hlt : i < l.length
 ·have q : decide ((i : Int) < (l.length : Int)) = true := decide_eq_true (by omega)
  obtain ⟨x, hx⟩ : ∃ x, l[i]? = some x := ⟨_, List.getElem?_eq_getElem hlt⟩
  simp only [go_sem, simprocAttr, q]
  refine pk (elem_does (R := StrG) (l := l) (m := i) rfl tySlice88 tySize9 rfl rfl (dk rfl) rfl hx (fun G hG => Sq.mono h strG_mono (hG.le G0 (by simp)))) ?_
  rintro _ ⟨g2, o', cs, G2, hcl, hcs, rfl⟩
  obtain rfl := hcs
  simp only [go_sem, simprocAttr, q]
  refine pk (callD_does (fun r _ => r = .bool (p x)) rfl rfl rfl rfl hf rfl (dk rfl) (fun G hG => hc G x (List.mem_of_getElem? hx) (hG.le G0 (by simp)) hG.wf)) ?_
  rintro _ ⟨_, G3, rfl, hn3, rfl⟩
  simp only [go_sem, simprocAttr]
  refine Wb_mk (fun h2 => ?_) (fun h2 => ?_)
  ·refine fin_ret (G := G0) Tryz.results75 ?_
   simp only [go_sem, simprocAttr]
   intro aa w' _ _
   refine ⟨(i : Int), rfl, ?_⟩
   rw [List.any_eq_true.2 ⟨x, List.mem_of_getElem? hx, h2⟩]
   exact decide_eq_true (by omega)
  ·refine ⟨by omega, ?_⟩
   refine again_ok (i + 1) ⟨hlt, fun k y hk hy => ?_⟩ (by omega) (by simp only [go_sem, simprocAttr]; simp)
   by_cases e : k = i
   ·subst e
    rw [hx] at hy; cases hy; exact h2
   ·exact hno k y (by omega) hy
 ·have q : decide ((i : Int) < (l.length : Int)) = false := decide_eq_false (by omega)
  simp only [go_sem, simprocAttr, q]
  refine fin_ret (G := G0) Tryz.results75 ?_
  simp only [go_sem, simprocAttr]
  intro aa w' _ _
  refine ⟨-1, rfl, ?_⟩
  rw [show l.any p = false from List.any_eq_false.2 fun y hy => by
   obtain ⟨k, hk, rfl⟩ := List.getElem_of_mem hy
   rw [hno k _ (by omega) (List.getElem?_eq_getElem hk)]
   decide]
  rfl
set_option maxRecDepth 100000 in
set_option maxHeartbeats 8000000 in
theorem containsS' {l : List ByteArray} {lv : Value} {f : FuncId} {caps : Array Value} {p : ByteArray → Bool} {G0 : GW} (hW : G0.Wf) (h : Sq StrG 9 1 G0 lv l) (hf : isFn Tryz.prog f = true) (hc : ∀ G x, x ∈ l → G0.Le G → G.Wf → Calls Tryz.prog f (#[.string x] ++ caps) G.w (Ret G fun v _ => v = .bool (p x))) :
  Calls Tryz.prog 48 #[lv, .func (.func f) #[] caps] G0.w (Ret G0 fun v _ => v = .bool (l.any p)) := by
 obtain ⟨A, c, rfl, hc1, hc2⟩ := Sq.form h
 have hml := max_le
 refine enterS (G := G0) (n := 9) 3000 hW Tryz.func48 rfl Tryz.ntmps48 (by simp) ?_
 simp only [go_sem, simprocAttr]
 refine pk (call_does (fun v _ => ∃ i : Int, v = .int .i64 i ∧ decide (0 ≤ i) = l.any p) rfl rfl (by kernel_rfl) rfl (dk rfl) (fun G hG => indexS' hG.wf (Sq.mono h strG_mono (hG.le G0 (by simp))) hf (fun G' x hx hl hw => hc G' x hx ((hG.le G0 (by simp)).trans hl) hw))) ?_
 rintro _ ⟨_, G3, ⟨i, rfl, hi⟩, hn3, rfl⟩
 clear hn3
 simp only [go_sem, simprocAttr, hi]
 refine fin_ret (G := G0) Tryz.results48 ?_
 simp only [go_sem, simprocAttr]
 intro aa w' _ _
 rfl
set_option maxRecDepth 100000 in
set_option maxHeartbeats 4000000 in
theorem fits1_does {n m : Int} {g : Nat} {G0 : GW} (hW : G0.Wf) (hb : BlkG G0 g [.int .i64 m]) :
  Calls Tryz.prog 47 #[.int .i64 n, .pointer (some ⟨g, 0, none⟩)] G0.w (Ret G0 fun v _ => v = .bool (decide (n < 0) || decide (m < n))) := by
 refine enterV (G := G0) (n := 11) 3000 [.c (.v (.int .i64 n)), .c (.q 0 g 0 0)] [⟨0, g, 0, [.int .i64 m]⟩] hb.vw hW Tryz.func47 rfl Tryz.ntmps47 (by simp) ?_
 simp only [go_sem, simprocAttr]
 refine fin_ret (G := G0) Tryz.results47 ?_
 simp only [go_sem, simprocAttr]
 intro aa w' _ _
 rfl
def fitsB (m : Int) (l : List Int) : Bool := !(l.any fun n => decide (n < 0) || decide (m < n))
set_option maxRecDepth 100000 in
set_option maxHeartbeats 8000000 in
theorem fits_does {m : Int} {l : List Int} {lv : Value} {G0 : GW} (hW : G0.Wf) (h : IntsG G0 lv l) :
  Calls Tryz.prog 23 #[.int .i64 m, lv] G0.w (Ret G0 fun v _ => v = .bool (fitsB m l)) := by
 obtain ⟨A, c, rfl, hc1, hc2⟩ := Sq.form h
 have hml := max_le
 refine enterS (G := G0) (n := 9) 3000 hW Tryz.func23 rfl Tryz.ntmps23 (by simp) ?_
 simp only [go_sem, simprocAttr]
 intro g1
 refine pk (call_does (fun r _ => r = .bool (l.any fun n => decide (n < 0) || decide (m < n))) rfl rfl (by kernel_rfl) rfl (dk rfl) (fun G hG => Ret.anyM (M' := (G.sub [g1]).M) (containsI' (G0 := G.sub [g1]) (hG.wf.sub [g1]) (h.mono ((hG.le G0 (by simp)).trans (GW.le_sub _ _))) (by kernel_rfl) (fun G' x hx hl hw => fits1_does hw ((hG.blkG (b := ⟨0, g1, 3, [.v (.int .i64 m)]⟩) (ks := [g1]) (by simp) (by simp)).mono hl))))) ?_
 rintro _ ⟨_, G3, rfl, hn3, rfl⟩
 clear hn3
 simp only [go_sem, simprocAttr]
 refine fin_ret (G := G0) Tryz.results23 ?_
 simp only [go_sem, simprocAttr]
 intro aa w' _ _
 rfl
set_option maxRecDepth 100000 in
set_option maxHeartbeats 4000000 in
theorem names1_does {x : ByteArray} {G0 : GW} (hW : G0.Wf) :
  Calls Tryz.prog 49 #[.string x] G0.w (Ret G0 fun v _ => v = .bool (decide (255 < (x.size : Int)))) := by
 refine enterS (G := G0) (n := 6) 3000 hW Tryz.func49 rfl Tryz.ntmps49 (by simp) ?_
 simp only [go_sem, simprocAttr]
 refine fin_ret (G := G0) Tryz.results49 ?_
 simp only [go_sem, simprocAttr]
 intro aa w' _ _
 rfl
def namesB (secs : List Int) (l : List ByteArray) : Bool := (decide ((secs.length : Int) < 256) && fitsB 255 secs) && !(l.any fun x => decide (255 < (x.size : Int)))
set_option maxRecDepth 100000 in
set_option maxHeartbeats 8000000 in
theorem names_does {secs : List Int} {l : List ByteArray} {sv lv : Value} {G0 : GW} (hW : G0.Wf) (hs : IntsG G0 sv secs) (h : StrsG G0 lv l) :
  Calls Tryz.prog 24 #[sv, lv] G0.w (Ret G0 fun v _ => v = .bool (namesB secs l)) := by
 obtain ⟨A, c, rfl, hc1, hc2⟩ := Sq.form h
 obtain ⟨B, d, rfl, hd1, hd2⟩ := Sq.form hs
 have hml := max_le
 refine enterS (G := G0) (n := 17) 3000 hW Tryz.func24 rfl Tryz.ntmps24 (by simp) ?_
 by_cases h1 : secs.length < 256
 ·have q1 : decide ((secs.length : Int) < 256) = true := decide_eq_true (by omega)
  simp only [go_sem, simprocAttr, q1]
  refine pk (call_does (fun v _ => v = .bool (fitsB 255 secs)) rfl rfl (by kernel_rfl) rfl (dk rfl) (fun G hG => fits_does hG.wf (hs.mono (hG.le G0 (by simp))))) ?_
  rintro _ ⟨_, G3, rfl, hn3, rfl⟩
  clear hn3
  cases h2 : fitsB 255 secs with
  | true =>
   simp only [go_sem, simprocAttr]
   refine pk (call_does (fun v _ => v = .bool (l.any fun x => decide (255 < (x.size : Int)))) rfl rfl (by kernel_rfl) rfl (dk rfl) (fun G hG => containsS' (caps := #[]) hG.wf (Sq.mono h strG_mono (hG.le G0 (by simp))) (by kernel_rfl) (fun G' x hx hl hw => names1_does hw))) ?_
   rintro _ ⟨_, G4, rfl, hn4, rfl⟩
   clear hn4
   simp only [go_sem, simprocAttr]
   refine fin_ret (G := G0) Tryz.results24 ?_
   simp only [go_sem, simprocAttr]
   intro aa w' _ _
   unfold namesB
   rw [q1, h2]
   rfl
  | false =>
   simp only [go_sem, simprocAttr]
   refine fin_ret (G := G0) Tryz.results24 ?_
   simp only [go_sem, simprocAttr]
   intro aa w' _ _
   unfold namesB
   rw [q1, h2]
   rfl
 ·have q1 : decide ((secs.length : Int) < 256) = false := decide_eq_false (by omega)
  simp only [go_sem, simprocAttr, q1]
  refine fin_ret (G := G0) Tryz.results24 ?_
  simp only [go_sem, simprocAttr]
  intro aa w' _ _
  unfold namesB
  rw [q1]
  rfl
end Go.Proofs.YtohdfcnjcpjdcaaGreatDoor
/- bare: has a record just what its kind has? Conditions: as each law states them. -/
namespace Go.Proofs.YtohdfcnjcpjdcaaGreatDoor
open Go.RowKit
set_option linter.unusedSimpArgs false
theorem eqFq_cons {P : Program} {w : World} (d : Nat) (xs ys : Array Value) (f : Field) (fs : List Field) {x y : Value} {b : Bool} (hn : f.name ≠ "_") (hx : ∀ w, (part f.type xs f.offset).run P w = .ok x w) (hy : ∀ w, (part f.type ys f.offset).run P w = .ok y w) (he : ∀ w, (Op.equalIn d f.type x y).run P w = .ok b w) :
  (Op.eqFields d xs ys (f :: fs)).run P w = if b then (Op.eqFields d xs ys fs).run P w else .ok false w := by
 simp only [Op.eqFields, Sem.run_bind, Sem.run_ite, if_pos hn, hx, hy, he, Result.andThen_ok]
 cases b <;> simp
theorem fieldq3 {L : List Field} {p q r : TypeId × Nat × Bool} (hm : L.map (fun f => (f.type, f.offset, decide (f.name = "_"))) = [p, q, r]) : ∃ f0 f1 f2, L = [f0, f1, f2] := by
 rcases L with _ | ⟨f0, _ | ⟨f1, _ | ⟨f2, _ | ⟨f3, L⟩⟩⟩⟩
 ·cases hm
 ·simp at hm
 ·simp at hm
 ·exact ⟨_, _, _, rfl⟩
 ·simp at hm
def rulq (a : Rul) : Value := .agg #[.string a.pre, .int .i64 a.freeze, .int .i64 a.drop]
def askq (a : Ask) : Value := .agg #[.int .i64 a.ver, .int .i64 a.days, .int .i64 a.cls]
theorem rulq_fields : (Tryz.prog.fieldsOf 42).toList.map (fun f => (f.type, f.offset, decide (f.name = "_"))) = [(9, 0, false), (3, 1, false), (3, 2, false)] := by kernel_rfl
theorem rulq_eq_run (a b : Rul) (w : World) : (Op.equalIn 10000 42 (rulq a) (rulq b)).run Tryz.prog w = .ok ((a.pre.toList == b.pre.toList) && ((a.freeze == b.freeze) && (a.drop == b.drop))) w := by
 unfold rulq
 rw [run_equalIn_agg w 9999 42 _ _ (by kernel_rfl) (by kernel_rfl)]
 have hi : ∀ (x y : Int) w, (Op.equalIn 9999 3 (.int .i64 x) (.int .i64 y)).run Tryz.prog w = .ok (x == y) w := fun x y w => run_equalIn_int w 9998 3 .i64 .i64 x y (by kernel_rfl)
 have hs : ∀ (x y : ByteArray) w, (Op.equalIn 9999 9 (.string x) (.string y)).run Tryz.prog w = .ok (x.toList == y.toList) w := fun x y w => run_equalIn_string w 9998 9 x y (by kernel_rfl)
 have hm := rulq_fields
 generalize (Tryz.prog.fieldsOf 42).toList = L at hm ⊢
 obtain ⟨f0, f1, f2, rfl⟩ := fieldq3 hm
 simp only [List.map_cons, List.map_nil, List.cons.injEq, Prod.mk.injEq, decide_eq_false_iff_not, and_true] at hm
 obtain ⟨⟨t0, o0, n0⟩, ⟨t1, o1, n1⟩, ⟨t2, o2, n2⟩⟩ := hm
 rw [eqFq_cons 9999 _ _ f0 _ (x := .string a.pre) (y := .string b.pre) (b := (a.pre.toList == b.pre.toList)) n0 (fun w => by rw [t0, o0]; kernel_rfl) (fun w => by rw [t0, o0]; kernel_rfl) (fun w => by rw [t0]; exact hs _ _ w)]
 rw [eqFq_cons 9999 _ _ f1 _ (x := .int .i64 a.freeze) (y := .int .i64 b.freeze) (b := (a.freeze == b.freeze)) n1 (fun w => by rw [t1, o1]; kernel_rfl) (fun w => by rw [t1, o1]; kernel_rfl) (fun w => by rw [t1]; exact hi _ _ w)]
 rw [eqFq_cons 9999 _ _ f2 _ (x := .int .i64 a.drop) (y := .int .i64 b.drop) (b := (a.drop == b.drop)) n2 (fun w => by rw [t2, o2]; kernel_rfl) (fun w => by rw [t2, o2]; kernel_rfl) (fun w => by rw [t2]; exact hi _ _ w)]
 cases (a.pre.toList == b.pre.toList) <;> cases (a.freeze == b.freeze) <;> cases (a.drop == b.drop) <;> simp [Op.eqFields]
theorem askq_fields : (Tryz.prog.fieldsOf 46).toList.map (fun f => (f.type, f.offset, decide (f.name = "_"))) = [(3, 0, false), (3, 1, false), (3, 2, false)] := by kernel_rfl
theorem askq_eq_run (a b : Ask) (w : World) : (Op.equalIn 10000 46 (askq a) (askq b)).run Tryz.prog w = .ok ((a.ver == b.ver) && ((a.days == b.days) && (a.cls == b.cls))) w := by
 unfold askq
 rw [run_equalIn_agg w 9999 46 _ _ (by kernel_rfl) (by kernel_rfl)]
 have hi : ∀ (x y : Int) w, (Op.equalIn 9999 3 (.int .i64 x) (.int .i64 y)).run Tryz.prog w = .ok (x == y) w := fun x y w => run_equalIn_int w 9998 3 .i64 .i64 x y (by kernel_rfl)
 have hs : ∀ (x y : ByteArray) w, (Op.equalIn 9999 9 (.string x) (.string y)).run Tryz.prog w = .ok (x.toList == y.toList) w := fun x y w => run_equalIn_string w 9998 9 x y (by kernel_rfl)
 have hm := askq_fields
 generalize (Tryz.prog.fieldsOf 46).toList = L at hm ⊢
 obtain ⟨f0, f1, f2, rfl⟩ := fieldq3 hm
 simp only [List.map_cons, List.map_nil, List.cons.injEq, Prod.mk.injEq, decide_eq_false_iff_not, and_true] at hm
 obtain ⟨⟨t0, o0, n0⟩, ⟨t1, o1, n1⟩, ⟨t2, o2, n2⟩⟩ := hm
 rw [eqFq_cons 9999 _ _ f0 _ (x := .int .i64 a.ver) (y := .int .i64 b.ver) (b := (a.ver == b.ver)) n0 (fun w => by rw [t0, o0]; kernel_rfl) (fun w => by rw [t0, o0]; kernel_rfl) (fun w => by rw [t0]; exact hi _ _ w)]
 rw [eqFq_cons 9999 _ _ f1 _ (x := .int .i64 a.days) (y := .int .i64 b.days) (b := (a.days == b.days)) n1 (fun w => by rw [t1, o1]; kernel_rfl) (fun w => by rw [t1, o1]; kernel_rfl) (fun w => by rw [t1]; exact hi _ _ w)]
 rw [eqFq_cons 9999 _ _ f2 _ (x := .int .i64 a.cls) (y := .int .i64 b.cls) (b := (a.cls == b.cls)) n2 (fun w => by rw [t2, o2]; kernel_rfl) (fun w => by rw [t2, o2]; kernel_rfl) (fun w => by rw [t2]; exact hi _ _ w)]
 cases (a.ver == b.ver) <;> cases (a.days == b.days) <;> cases (a.cls == b.cls) <;> simp [Op.eqFields]
def ruleB (a b : Rul) : Bool := (a.pre.toList == b.pre.toList) && ((a.freeze == b.freeze) && (a.drop == b.drop))
def askB (a b : Ask) : Bool := (a.ver == b.ver) && ((a.days == b.days) && (a.cls == b.cls))
theorem rulq_eql (a b : Rul) (w : World) : (binOp .eql 42 (rulq a) (rulq b)).run Tryz.prog w = .ok (.bool (ruleB a b)) w := by
 have h := rulq_eq_run a b w
 unfold rulq at h ⊢
 rw [run_eql_struct, h]
 rfl
theorem rulq_guard (x y : Operand) (a b : Rul) (w : World) : (eqGuard .eql 42 x y (rulq a) (rulq b)).run Tryz.prog w = .ok () w := run_eqGuard_agg w .eql _ x y _ _ (by kernel_rfl)
theorem askq_eql (a b : Ask) (w : World) : (binOp .eql 46 (askq a) (askq b)).run Tryz.prog w = .ok (.bool (askB a b)) w := by
 have h := askq_eq_run a b w
 unfold askq at h ⊢
 rw [run_eql_struct, h]
 rfl
theorem askq_guard (x y : Operand) (a b : Ask) (w : World) : (eqGuard .eql 46 x y (askq a) (askq b)).run Tryz.prog w = .ok () w := run_eqGuard_agg w .eql _ x y _ _ (by kernel_rfl)
section
variable {P : Program} {E : Env} {σ : St} {o : Oper}
theorem cmpq_does {bo : BinOp} {ty t2 : TypeId} {x y : Operand} {vx vy : SV} {r : Bool} (ho : o.op = .binOp bo ty x y t2) (hx : ev σ x = some vx) (hy : ev σ y = some vy)
  (hg : ∀ w, (eqGuard bo ty x y vx.den vy.den).run P w = .ok () w) (hb : ∀ w, (binOp bo ty vx.den vy.den).run P w = .ok (.bool r) w) (hd : dOk E o.dst) :
  Does P E σ o (fun σ' => σ' = σ.put o.dst (.c (.v (.bool r)))) := by
 intro ac w Q next hr hn
 have hx' : ac.eval x = vx.den := ev_den hr.see hx
 have hy' : ac.eval y = vy.den := ev_den hr.see hy
 have hrun : (execOp ac.eval o).run P w = .ok (.value (.bool r)) w := by
  unfold execOp
  simp only [ho, hx', hy', hg, hb, Sem.run_bind, Sem.run_pure, Result.andThen_ok]
 exact wp_of_value hrun (hn _ _ _ rfl (hr.put o.dst (.c (.v _)) (dOk_lt hd)))
theorem wgXq_do {rec_ : Cmd → St → Prop} {k : Cont} {ops : Array Oper} {rest : List Oper} {ctx : List Bool} {z : Option (Prop × SC)} (hz : z = none) (hs : stepO P o σ = .no) (hc : ctx.all id = true) (h : Ok E σ (wpList P ops (k.den P) (o :: rest))) : WgX P E rec_ k ops rest o σ ctx z := by
 rw [hz]
 refine ⟨fun _ => ?_, fun q => by rw [hc] at q; cases q⟩
 rw [hs]
 exact h
end
/-- a record, as what holds of its slices is known -/
structure RxG (G : GW) (r : Rec) (vs ps ss : Value) : Prop where
 v : IntsG G vs r.ver.secs
 p : IntsG G ps r.part.secs
 s : IntsG G ss r.secs
theorem RxG.mono {G G' : GW} {r : Rec} {vs ps ss : Value} (h : RxG G r vs ps ss) (hl : G.Le G') : RxG G' r vs ps ss := ⟨h.v.mono hl, h.p.mono hl, h.s.mono hl⟩
def b4B (k : Kd) (r : Rec) : Bool := (((k.id || decide (r.id = 0)) && (k.n || decide (r.n = 0))) && (k.name || r.name.toList == noT.toList)) && (k.key || r.key.toList == noT.toList)
def bareB (k : Kd) (r : Rec) : Bool := ((((((b4B k r && (k.rule || ruleB r.rule noR)) && (k.ver || emptyB r.ver)) && (k.ask || askB r.ask noAq)) && (k.part || nothingB r.part)) && (k.secs || decide ((r.secs.length : Int) = 0))) && (k.vol || decide (r.vol = 0))) && (k.at_ || decide (r.at_ = 0))
theorem kd_one {m : Nat} (hm : m < 15) : ((kd (m : Int)).rule = true → (kd (m : Int)).ver = false ∧ (kd (m : Int)).ask = false ∧ (kd (m : Int)).part = false) ∧ ((kd (m : Int)).ver = true → (kd (m : Int)).ask = false ∧ (kd (m : Int)).part = false) ∧ ((kd (m : Int)).ask = true → (kd (m : Int)).part = false) := by
 have : ∀ m : Fin 15, ((kd (m.1 : Int)).rule = true → (kd (m.1 : Int)).ver = false ∧ (kd (m.1 : Int)).ask = false ∧ (kd (m.1 : Int)).part = false) ∧ ((kd (m.1 : Int)).ver = true → (kd (m.1 : Int)).ask = false ∧ (kd (m.1 : Int)).part = false) ∧ ((kd (m.1 : Int)).ask = true → (kd (m.1 : Int)).part = false) := by decide
 exact this ⟨m, hm⟩
set_option maxRecDepth 100000 in
set_option maxHeartbeats 64000000 in
theorem bare_does {r : Rec} {vs ps ss : Value} {G0 : GW} (hW : G0.Wf) (h : RxG G0 r vs ps ss) (hK : KindsG G0) (hk : 1 ≤ r.kind ∧ r.kind ≤ 14) :
  Calls Tryz.prog 25 #[.agg (recV r vs ps ss).toArray] G0.w (Ret G0 fun y _ => y = .bool (bareB (kd r.kind) r)) := by
 obtain ⟨A, c, rfl, hc1, hc2⟩ := Sq.form h.v
 obtain ⟨B, d, rfl, hd1, hd2⟩ := Sq.form h.p
 obtain ⟨C, e, rfl, he1, he2⟩ := Sq.form h.s
 have hml := max_le
 obtain ⟨m, hm⟩ : ∃ m : Nat, r.kind = (m : Int) := ⟨r.kind.toNat, by omega⟩
 have hx := kd_one (show m < 15 by omega)
 rw [hm]
 refine enterS (G := G0) (n := 108) 3000 hW Tryz.func25 rfl Tryz.ntmps25 (by simp) ?_
 simp only [go_sem, simprocAttr, recV, hm]
 intro g
 refine pk (globElem_does (m := m) (cs := kdC (kd (m : Int))) rfl Tryz.underlying93 tySize92 rfl (dk rfl) rfl (by omega) (by decide) (fun G hG => kinds_at (BlkG.mono hK (hG.le G0 (by simp))) (by omega))) ?_
 rintro _ ⟨G1, rfl⟩
 generalize kd (m : Int) = k at hx ⊢
 obtain ⟨k1, k2, k3, k4, k5, k6, k7, k8, k9, k10, k11⟩ := k
 dsimp only at hx
 have hcomb : (k5 = true ∧ k6 = false ∧ k7 = false ∧ k8 = false) ∨ (k5 = false ∧ k6 = true ∧ k7 = false ∧ k8 = false) ∨ (k5 = false ∧ k6 = false ∧ k7 = true ∧ k8 = false) ∨ (k5 = false ∧ k6 = false ∧ k7 = false ∧ k8 = true) ∨ (k5 = false ∧ k6 = false ∧ k7 = false ∧ k8 = false) := by
  obtain ⟨x1, x2, x3⟩ := hx
  cases k5 <;> cases k6 <;> cases k7 <;> cases k8 <;> simp_all
 clear hx
 rcases hcomb with ⟨rfl, rfl, rfl, rfl⟩ | ⟨rfl, rfl, rfl, rfl⟩ | ⟨rfl, rfl, rfl, rfl⟩ | ⟨rfl, rfl, rfl, rfl⟩ | ⟨rfl, rfl, rfl, rfl⟩
 ·simp only [go_sem, simprocAttr, kdC]
  intro g2
  simp only [go_sem, simprocAttr, List.append_eq, List.cons_append, List.nil_append]
  unfold bareB
  dsimp only
  generalize hb4 : b4B ⟨k1, k2, k3, k4, true, false, false, false, k9, k10, k11⟩ r = b4
  have hb4' : ((((k1 || decide (r.id = 0)) && (k2 || decide (r.n = 0))) && (k3 || r.name.toList == (⟨#[]⟩ : ByteArray).toList)) && (k4 || r.key.toList == (⟨#[]⟩ : ByteArray).toList)) = b4 := hb4
  rw [hb4']
  clear hb4 hb4'
  cases b4 with
  | false =>
   simp only [go_sem, simprocAttr, List.append_eq, List.cons_append, List.nil_append, Bool.true_and, Bool.false_and, Bool.and_true, Bool.and_false, Bool.or_true, Bool.true_or, Bool.false_or, Bool.not_true, Bool.not_false]
   refine fin_ret (G := G0) Tryz.results25 ?_
   simp only [go_sem, simprocAttr]
   intro aa w' _ _
   rfl
  | true =>
   simp only [go_sem, simprocAttr, List.append_eq, List.cons_append, List.nil_append, Bool.true_and, Bool.false_and, Bool.and_true, Bool.and_false, Bool.or_true, Bool.true_or, Bool.false_or, Bool.not_true, Bool.not_false]
   refine pk (call_does (fun y _ => y = .bool (emptyB r.ver)) rfl rfl (by kernel_rfl) rfl (dk rfl) (fun G hG => empty_does (x := r.ver) hG.wf (h.v.mono (hG.le G0 (by simp))))) ?_
   rintro _ ⟨_, G2, rfl, hn2, rfl⟩
   clear hn2
   cases emptyB r.ver with
   | false =>
    simp only [go_sem, simprocAttr, List.append_eq, List.cons_append, List.nil_append, Bool.true_and, Bool.false_and, Bool.and_true, Bool.and_false, Bool.or_true, Bool.true_or, Bool.false_or, Bool.not_true, Bool.not_false]
    refine fin_ret (G := G0) Tryz.results25 ?_
    simp only [go_sem, simprocAttr]
    intro aa w' _ _
    rfl
   | true =>
    simp only [go_sem, simprocAttr, List.append_eq, List.cons_append, List.nil_append, Bool.true_and, Bool.false_and, Bool.and_true, Bool.and_false, Bool.or_true, Bool.true_or, Bool.false_or, Bool.not_true, Bool.not_false]
    refine wgXq_do rfl rfl rfl ?_
    refine pk (cmpq_does (vx := .a [.v (.int .i64 r.ask.ver), .v (.int .i64 r.ask.days), .v (.int .i64 r.ask.cls)]) (vy := .a [.v (.int .i64 0), .v (.int .i64 0), .v (.int .i64 0)]) (r := askB r.ask noAq) rfl rfl rfl (fun w => askq_guard _ _ r.ask noAq w) (fun w => askq_eql r.ask noAq w) (dk rfl)) ?_
    rintro _ rfl
    cases askB r.ask noAq with
    | false =>
     simp only [go_sem, simprocAttr, List.append_eq, List.cons_append, List.nil_append, Bool.true_and, Bool.false_and, Bool.and_true, Bool.and_false, Bool.or_true, Bool.true_or, Bool.false_or, Bool.not_true, Bool.not_false]
     refine fin_ret (G := G0) Tryz.results25 ?_
     simp only [go_sem, simprocAttr]
     intro aa w' _ _
     rfl
    | true =>
     simp only [go_sem, simprocAttr, List.append_eq, List.cons_append, List.nil_append, Bool.true_and, Bool.false_and, Bool.and_true, Bool.and_false, Bool.or_true, Bool.true_or, Bool.false_or, Bool.not_true, Bool.not_false]
     refine pk (call_does (fun y _ => y = .bool (nothingB r.part)) rfl rfl (by kernel_rfl) rfl (dk rfl) (fun G hG => nothing_does (x := r.part) hG.wf (h.p.mono (hG.le G0 (by simp))))) ?_
     rintro _ ⟨_, G3, rfl, hn3, rfl⟩
     clear hn3
     cases nothingB r.part with
     | false =>
      simp only [go_sem, simprocAttr, List.append_eq, List.cons_append, List.nil_append, Bool.true_and, Bool.false_and, Bool.and_true, Bool.and_false, Bool.or_true, Bool.true_or, Bool.false_or, Bool.not_true, Bool.not_false]
      refine fin_ret (G := G0) Tryz.results25 ?_
      simp only [go_sem, simprocAttr]
      intro aa w' _ _
      rfl
     | true =>
      simp only [go_sem, simprocAttr, List.append_eq, List.cons_append, List.nil_append, Bool.true_and, Bool.false_and, Bool.and_true, Bool.and_false, Bool.or_true, Bool.true_or, Bool.false_or, Bool.not_true, Bool.not_false]
      refine fin_ret (G := G0) Tryz.results25 ?_
      simp only [go_sem, simprocAttr]
      intro aa w' _ _
      rfl
 ·simp only [go_sem, simprocAttr, kdC]
  intro g2
  simp only [go_sem, simprocAttr, List.append_eq, List.cons_append, List.nil_append]
  unfold bareB
  dsimp only
  generalize hb4 : b4B ⟨k1, k2, k3, k4, false, true, false, false, k9, k10, k11⟩ r = b4
  have hb4' : ((((k1 || decide (r.id = 0)) && (k2 || decide (r.n = 0))) && (k3 || r.name.toList == (⟨#[]⟩ : ByteArray).toList)) && (k4 || r.key.toList == (⟨#[]⟩ : ByteArray).toList)) = b4 := hb4
  rw [hb4']
  clear hb4 hb4'
  cases b4 with
  | false =>
   simp only [go_sem, simprocAttr, List.append_eq, List.cons_append, List.nil_append, Bool.true_and, Bool.false_and, Bool.and_true, Bool.and_false, Bool.or_true, Bool.true_or, Bool.false_or, Bool.not_true, Bool.not_false]
   refine fin_ret (G := G0) Tryz.results25 ?_
   simp only [go_sem, simprocAttr]
   intro aa w' _ _
   rfl
  | true =>
   simp only [go_sem, simprocAttr, List.append_eq, List.cons_append, List.nil_append, Bool.true_and, Bool.false_and, Bool.and_true, Bool.and_false, Bool.or_true, Bool.true_or, Bool.false_or, Bool.not_true, Bool.not_false]
   refine wgXq_do rfl rfl rfl ?_
   refine pk (cmpq_does (vx := .a [.v (.string r.rule.pre), .v (.int .i64 r.rule.freeze), .v (.int .i64 r.rule.drop)]) (vy := .a [.v (.string noT), .v (.int .i64 0), .v (.int .i64 0)]) (r := ruleB r.rule noR) rfl rfl rfl (fun w => rulq_guard _ _ r.rule noR w) (fun w => rulq_eql r.rule noR w) (dk rfl)) ?_
   rintro _ rfl
   cases ruleB r.rule noR with
   | false =>
    simp only [go_sem, simprocAttr, List.append_eq, List.cons_append, List.nil_append, Bool.true_and, Bool.false_and, Bool.and_true, Bool.and_false, Bool.or_true, Bool.true_or, Bool.false_or, Bool.not_true, Bool.not_false]
    refine fin_ret (G := G0) Tryz.results25 ?_
    simp only [go_sem, simprocAttr]
    intro aa w' _ _
    rfl
   | true =>
    simp only [go_sem, simprocAttr, List.append_eq, List.cons_append, List.nil_append, Bool.true_and, Bool.false_and, Bool.and_true, Bool.and_false, Bool.or_true, Bool.true_or, Bool.false_or, Bool.not_true, Bool.not_false]
    refine wgXq_do rfl rfl rfl ?_
    refine pk (cmpq_does (vx := .a [.v (.int .i64 r.ask.ver), .v (.int .i64 r.ask.days), .v (.int .i64 r.ask.cls)]) (vy := .a [.v (.int .i64 0), .v (.int .i64 0), .v (.int .i64 0)]) (r := askB r.ask noAq) rfl rfl rfl (fun w => askq_guard _ _ r.ask noAq w) (fun w => askq_eql r.ask noAq w) (dk rfl)) ?_
    rintro _ rfl
    cases askB r.ask noAq with
    | false =>
     simp only [go_sem, simprocAttr, List.append_eq, List.cons_append, List.nil_append, Bool.true_and, Bool.false_and, Bool.and_true, Bool.and_false, Bool.or_true, Bool.true_or, Bool.false_or, Bool.not_true, Bool.not_false]
     refine fin_ret (G := G0) Tryz.results25 ?_
     simp only [go_sem, simprocAttr]
     intro aa w' _ _
     rfl
    | true =>
     simp only [go_sem, simprocAttr, List.append_eq, List.cons_append, List.nil_append, Bool.true_and, Bool.false_and, Bool.and_true, Bool.and_false, Bool.or_true, Bool.true_or, Bool.false_or, Bool.not_true, Bool.not_false]
     refine pk (call_does (fun y _ => y = .bool (nothingB r.part)) rfl rfl (by kernel_rfl) rfl (dk rfl) (fun G hG => nothing_does (x := r.part) hG.wf (h.p.mono (hG.le G0 (by simp))))) ?_
     rintro _ ⟨_, G3, rfl, hn3, rfl⟩
     clear hn3
     cases nothingB r.part with
     | false =>
      simp only [go_sem, simprocAttr, List.append_eq, List.cons_append, List.nil_append, Bool.true_and, Bool.false_and, Bool.and_true, Bool.and_false, Bool.or_true, Bool.true_or, Bool.false_or, Bool.not_true, Bool.not_false]
      refine fin_ret (G := G0) Tryz.results25 ?_
      simp only [go_sem, simprocAttr]
      intro aa w' _ _
      rfl
     | true =>
      simp only [go_sem, simprocAttr, List.append_eq, List.cons_append, List.nil_append, Bool.true_and, Bool.false_and, Bool.and_true, Bool.and_false, Bool.or_true, Bool.true_or, Bool.false_or, Bool.not_true, Bool.not_false]
      refine fin_ret (G := G0) Tryz.results25 ?_
      simp only [go_sem, simprocAttr]
      intro aa w' _ _
      rfl
 ·simp only [go_sem, simprocAttr, kdC]
  intro g2
  simp only [go_sem, simprocAttr, List.append_eq, List.cons_append, List.nil_append]
  unfold bareB
  dsimp only
  generalize hb4 : b4B ⟨k1, k2, k3, k4, false, false, true, false, k9, k10, k11⟩ r = b4
  have hb4' : ((((k1 || decide (r.id = 0)) && (k2 || decide (r.n = 0))) && (k3 || r.name.toList == (⟨#[]⟩ : ByteArray).toList)) && (k4 || r.key.toList == (⟨#[]⟩ : ByteArray).toList)) = b4 := hb4
  rw [hb4']
  clear hb4 hb4'
  cases b4 with
  | false =>
   simp only [go_sem, simprocAttr, List.append_eq, List.cons_append, List.nil_append, Bool.true_and, Bool.false_and, Bool.and_true, Bool.and_false, Bool.or_true, Bool.true_or, Bool.false_or, Bool.not_true, Bool.not_false]
   refine fin_ret (G := G0) Tryz.results25 ?_
   simp only [go_sem, simprocAttr]
   intro aa w' _ _
   rfl
  | true =>
   simp only [go_sem, simprocAttr, List.append_eq, List.cons_append, List.nil_append, Bool.true_and, Bool.false_and, Bool.and_true, Bool.and_false, Bool.or_true, Bool.true_or, Bool.false_or, Bool.not_true, Bool.not_false]
   refine wgXq_do rfl rfl rfl ?_
   refine pk (cmpq_does (vx := .a [.v (.string r.rule.pre), .v (.int .i64 r.rule.freeze), .v (.int .i64 r.rule.drop)]) (vy := .a [.v (.string noT), .v (.int .i64 0), .v (.int .i64 0)]) (r := ruleB r.rule noR) rfl rfl rfl (fun w => rulq_guard _ _ r.rule noR w) (fun w => rulq_eql r.rule noR w) (dk rfl)) ?_
   rintro _ rfl
   cases ruleB r.rule noR with
   | false =>
    simp only [go_sem, simprocAttr, List.append_eq, List.cons_append, List.nil_append, Bool.true_and, Bool.false_and, Bool.and_true, Bool.and_false, Bool.or_true, Bool.true_or, Bool.false_or, Bool.not_true, Bool.not_false]
    refine fin_ret (G := G0) Tryz.results25 ?_
    simp only [go_sem, simprocAttr]
    intro aa w' _ _
    rfl
   | true =>
    simp only [go_sem, simprocAttr, List.append_eq, List.cons_append, List.nil_append, Bool.true_and, Bool.false_and, Bool.and_true, Bool.and_false, Bool.or_true, Bool.true_or, Bool.false_or, Bool.not_true, Bool.not_false]
    refine pk (call_does (fun y _ => y = .bool (emptyB r.ver)) rfl rfl (by kernel_rfl) rfl (dk rfl) (fun G hG => empty_does (x := r.ver) hG.wf (h.v.mono (hG.le G0 (by simp))))) ?_
    rintro _ ⟨_, G2, rfl, hn2, rfl⟩
    clear hn2
    cases emptyB r.ver with
    | false =>
     simp only [go_sem, simprocAttr, List.append_eq, List.cons_append, List.nil_append, Bool.true_and, Bool.false_and, Bool.and_true, Bool.and_false, Bool.or_true, Bool.true_or, Bool.false_or, Bool.not_true, Bool.not_false]
     refine fin_ret (G := G0) Tryz.results25 ?_
     simp only [go_sem, simprocAttr]
     intro aa w' _ _
     rfl
    | true =>
     simp only [go_sem, simprocAttr, List.append_eq, List.cons_append, List.nil_append, Bool.true_and, Bool.false_and, Bool.and_true, Bool.and_false, Bool.or_true, Bool.true_or, Bool.false_or, Bool.not_true, Bool.not_false]
     refine pk (call_does (fun y _ => y = .bool (nothingB r.part)) rfl rfl (by kernel_rfl) rfl (dk rfl) (fun G hG => nothing_does (x := r.part) hG.wf (h.p.mono (hG.le G0 (by simp))))) ?_
     rintro _ ⟨_, G3, rfl, hn3, rfl⟩
     clear hn3
     cases nothingB r.part with
     | false =>
      simp only [go_sem, simprocAttr, List.append_eq, List.cons_append, List.nil_append, Bool.true_and, Bool.false_and, Bool.and_true, Bool.and_false, Bool.or_true, Bool.true_or, Bool.false_or, Bool.not_true, Bool.not_false]
      refine fin_ret (G := G0) Tryz.results25 ?_
      simp only [go_sem, simprocAttr]
      intro aa w' _ _
      rfl
     | true =>
      simp only [go_sem, simprocAttr, List.append_eq, List.cons_append, List.nil_append, Bool.true_and, Bool.false_and, Bool.and_true, Bool.and_false, Bool.or_true, Bool.true_or, Bool.false_or, Bool.not_true, Bool.not_false]
      refine fin_ret (G := G0) Tryz.results25 ?_
      simp only [go_sem, simprocAttr]
      intro aa w' _ _
      rfl
 ·simp only [go_sem, simprocAttr, kdC]
  intro g2
  simp only [go_sem, simprocAttr, List.append_eq, List.cons_append, List.nil_append]
  unfold bareB
  dsimp only
  generalize hb4 : b4B ⟨k1, k2, k3, k4, false, false, false, true, k9, k10, k11⟩ r = b4
  have hb4' : ((((k1 || decide (r.id = 0)) && (k2 || decide (r.n = 0))) && (k3 || r.name.toList == (⟨#[]⟩ : ByteArray).toList)) && (k4 || r.key.toList == (⟨#[]⟩ : ByteArray).toList)) = b4 := hb4
  rw [hb4']
  clear hb4 hb4'
  cases b4 with
  | false =>
   simp only [go_sem, simprocAttr, List.append_eq, List.cons_append, List.nil_append, Bool.true_and, Bool.false_and, Bool.and_true, Bool.and_false, Bool.or_true, Bool.true_or, Bool.false_or, Bool.not_true, Bool.not_false]
   refine fin_ret (G := G0) Tryz.results25 ?_
   simp only [go_sem, simprocAttr]
   intro aa w' _ _
   rfl
  | true =>
   simp only [go_sem, simprocAttr, List.append_eq, List.cons_append, List.nil_append, Bool.true_and, Bool.false_and, Bool.and_true, Bool.and_false, Bool.or_true, Bool.true_or, Bool.false_or, Bool.not_true, Bool.not_false]
   refine wgXq_do rfl rfl rfl ?_
   refine pk (cmpq_does (vx := .a [.v (.string r.rule.pre), .v (.int .i64 r.rule.freeze), .v (.int .i64 r.rule.drop)]) (vy := .a [.v (.string noT), .v (.int .i64 0), .v (.int .i64 0)]) (r := ruleB r.rule noR) rfl rfl rfl (fun w => rulq_guard _ _ r.rule noR w) (fun w => rulq_eql r.rule noR w) (dk rfl)) ?_
   rintro _ rfl
   cases ruleB r.rule noR with
   | false =>
    simp only [go_sem, simprocAttr, List.append_eq, List.cons_append, List.nil_append, Bool.true_and, Bool.false_and, Bool.and_true, Bool.and_false, Bool.or_true, Bool.true_or, Bool.false_or, Bool.not_true, Bool.not_false]
    refine fin_ret (G := G0) Tryz.results25 ?_
    simp only [go_sem, simprocAttr]
    intro aa w' _ _
    rfl
   | true =>
    simp only [go_sem, simprocAttr, List.append_eq, List.cons_append, List.nil_append, Bool.true_and, Bool.false_and, Bool.and_true, Bool.and_false, Bool.or_true, Bool.true_or, Bool.false_or, Bool.not_true, Bool.not_false]
    refine pk (call_does (fun y _ => y = .bool (emptyB r.ver)) rfl rfl (by kernel_rfl) rfl (dk rfl) (fun G hG => empty_does (x := r.ver) hG.wf (h.v.mono (hG.le G0 (by simp))))) ?_
    rintro _ ⟨_, G2, rfl, hn2, rfl⟩
    clear hn2
    cases emptyB r.ver with
    | false =>
     simp only [go_sem, simprocAttr, List.append_eq, List.cons_append, List.nil_append, Bool.true_and, Bool.false_and, Bool.and_true, Bool.and_false, Bool.or_true, Bool.true_or, Bool.false_or, Bool.not_true, Bool.not_false]
     refine fin_ret (G := G0) Tryz.results25 ?_
     simp only [go_sem, simprocAttr]
     intro aa w' _ _
     rfl
    | true =>
     simp only [go_sem, simprocAttr, List.append_eq, List.cons_append, List.nil_append, Bool.true_and, Bool.false_and, Bool.and_true, Bool.and_false, Bool.or_true, Bool.true_or, Bool.false_or, Bool.not_true, Bool.not_false]
     refine wgXq_do rfl rfl rfl ?_
     refine pk (cmpq_does (vx := .a [.v (.int .i64 r.ask.ver), .v (.int .i64 r.ask.days), .v (.int .i64 r.ask.cls)]) (vy := .a [.v (.int .i64 0), .v (.int .i64 0), .v (.int .i64 0)]) (r := askB r.ask noAq) rfl rfl rfl (fun w => askq_guard _ _ r.ask noAq w) (fun w => askq_eql r.ask noAq w) (dk rfl)) ?_
     rintro _ rfl
     cases askB r.ask noAq with
     | false =>
      simp only [go_sem, simprocAttr, List.append_eq, List.cons_append, List.nil_append, Bool.true_and, Bool.false_and, Bool.and_true, Bool.and_false, Bool.or_true, Bool.true_or, Bool.false_or, Bool.not_true, Bool.not_false]
      refine fin_ret (G := G0) Tryz.results25 ?_
      simp only [go_sem, simprocAttr]
      intro aa w' _ _
      rfl
     | true =>
      simp only [go_sem, simprocAttr, List.append_eq, List.cons_append, List.nil_append, Bool.true_and, Bool.false_and, Bool.and_true, Bool.and_false, Bool.or_true, Bool.true_or, Bool.false_or, Bool.not_true, Bool.not_false]
      refine fin_ret (G := G0) Tryz.results25 ?_
      simp only [go_sem, simprocAttr]
      intro aa w' _ _
      rfl
 ·simp only [go_sem, simprocAttr, kdC]
  intro g2
  simp only [go_sem, simprocAttr, List.append_eq, List.cons_append, List.nil_append]
  unfold bareB
  dsimp only
  generalize hb4 : b4B ⟨k1, k2, k3, k4, false, false, false, false, k9, k10, k11⟩ r = b4
  have hb4' : ((((k1 || decide (r.id = 0)) && (k2 || decide (r.n = 0))) && (k3 || r.name.toList == (⟨#[]⟩ : ByteArray).toList)) && (k4 || r.key.toList == (⟨#[]⟩ : ByteArray).toList)) = b4 := hb4
  rw [hb4']
  clear hb4 hb4'
  cases b4 with
  | false =>
   simp only [go_sem, simprocAttr, List.append_eq, List.cons_append, List.nil_append, Bool.true_and, Bool.false_and, Bool.and_true, Bool.and_false, Bool.or_true, Bool.true_or, Bool.false_or, Bool.not_true, Bool.not_false]
   refine fin_ret (G := G0) Tryz.results25 ?_
   simp only [go_sem, simprocAttr]
   intro aa w' _ _
   rfl
  | true =>
   simp only [go_sem, simprocAttr, List.append_eq, List.cons_append, List.nil_append, Bool.true_and, Bool.false_and, Bool.and_true, Bool.and_false, Bool.or_true, Bool.true_or, Bool.false_or, Bool.not_true, Bool.not_false]
   refine wgXq_do rfl rfl rfl ?_
   refine pk (cmpq_does (vx := .a [.v (.string r.rule.pre), .v (.int .i64 r.rule.freeze), .v (.int .i64 r.rule.drop)]) (vy := .a [.v (.string noT), .v (.int .i64 0), .v (.int .i64 0)]) (r := ruleB r.rule noR) rfl rfl rfl (fun w => rulq_guard _ _ r.rule noR w) (fun w => rulq_eql r.rule noR w) (dk rfl)) ?_
   rintro _ rfl
   cases ruleB r.rule noR with
   | false =>
    simp only [go_sem, simprocAttr, List.append_eq, List.cons_append, List.nil_append, Bool.true_and, Bool.false_and, Bool.and_true, Bool.and_false, Bool.or_true, Bool.true_or, Bool.false_or, Bool.not_true, Bool.not_false]
    refine fin_ret (G := G0) Tryz.results25 ?_
    simp only [go_sem, simprocAttr]
    intro aa w' _ _
    rfl
   | true =>
    simp only [go_sem, simprocAttr, List.append_eq, List.cons_append, List.nil_append, Bool.true_and, Bool.false_and, Bool.and_true, Bool.and_false, Bool.or_true, Bool.true_or, Bool.false_or, Bool.not_true, Bool.not_false]
    refine pk (call_does (fun y _ => y = .bool (emptyB r.ver)) rfl rfl (by kernel_rfl) rfl (dk rfl) (fun G hG => empty_does (x := r.ver) hG.wf (h.v.mono (hG.le G0 (by simp))))) ?_
    rintro _ ⟨_, G2, rfl, hn2, rfl⟩
    clear hn2
    cases emptyB r.ver with
    | false =>
     simp only [go_sem, simprocAttr, List.append_eq, List.cons_append, List.nil_append, Bool.true_and, Bool.false_and, Bool.and_true, Bool.and_false, Bool.or_true, Bool.true_or, Bool.false_or, Bool.not_true, Bool.not_false]
     refine fin_ret (G := G0) Tryz.results25 ?_
     simp only [go_sem, simprocAttr]
     intro aa w' _ _
     rfl
    | true =>
     simp only [go_sem, simprocAttr, List.append_eq, List.cons_append, List.nil_append, Bool.true_and, Bool.false_and, Bool.and_true, Bool.and_false, Bool.or_true, Bool.true_or, Bool.false_or, Bool.not_true, Bool.not_false]
     refine wgXq_do rfl rfl rfl ?_
     refine pk (cmpq_does (vx := .a [.v (.int .i64 r.ask.ver), .v (.int .i64 r.ask.days), .v (.int .i64 r.ask.cls)]) (vy := .a [.v (.int .i64 0), .v (.int .i64 0), .v (.int .i64 0)]) (r := askB r.ask noAq) rfl rfl rfl (fun w => askq_guard _ _ r.ask noAq w) (fun w => askq_eql r.ask noAq w) (dk rfl)) ?_
     rintro _ rfl
     cases askB r.ask noAq with
     | false =>
      simp only [go_sem, simprocAttr, List.append_eq, List.cons_append, List.nil_append, Bool.true_and, Bool.false_and, Bool.and_true, Bool.and_false, Bool.or_true, Bool.true_or, Bool.false_or, Bool.not_true, Bool.not_false]
      refine fin_ret (G := G0) Tryz.results25 ?_
      simp only [go_sem, simprocAttr]
      intro aa w' _ _
      rfl
     | true =>
      simp only [go_sem, simprocAttr, List.append_eq, List.cons_append, List.nil_append, Bool.true_and, Bool.false_and, Bool.and_true, Bool.and_false, Bool.or_true, Bool.true_or, Bool.false_or, Bool.not_true, Bool.not_false]
      refine pk (call_does (fun y _ => y = .bool (nothingB r.part)) rfl rfl (by kernel_rfl) rfl (dk rfl) (fun G hG => nothing_does (x := r.part) hG.wf (h.p.mono (hG.le G0 (by simp))))) ?_
      rintro _ ⟨_, G3, rfl, hn3, rfl⟩
      clear hn3
      cases nothingB r.part with
      | false =>
       simp only [go_sem, simprocAttr, List.append_eq, List.cons_append, List.nil_append, Bool.true_and, Bool.false_and, Bool.and_true, Bool.and_false, Bool.or_true, Bool.true_or, Bool.false_or, Bool.not_true, Bool.not_false]
       refine fin_ret (G := G0) Tryz.results25 ?_
       simp only [go_sem, simprocAttr]
       intro aa w' _ _
       rfl
      | true =>
       simp only [go_sem, simprocAttr, List.append_eq, List.cons_append, List.nil_append, Bool.true_and, Bool.false_and, Bool.and_true, Bool.and_false, Bool.or_true, Bool.true_or, Bool.false_or, Bool.not_true, Bool.not_false]
       refine fin_ret (G := G0) Tryz.results25 ?_
       simp only [go_sem, simprocAttr]
       intro aa w' _ _
       rfl
end Go.Proofs.YtohdfcnjcpjdcaaGreatDoor
/- CheckRecord: may a record be written? Conditions: as each law states them. -/
namespace Go.Proofs.YtohdfcnjcpjdcaaGreatDoor
open Go.RowKit
set_option linter.unusedSimpArgs false
def threeB (r : Rec) : Bool := fitsB 16777215 [r.id, r.ver.id, r.ask.ver]
def twoB (r : Rec) : Bool := fitsB 65535 [r.at_, r.ver.size, r.ver.at_, r.ask.days, r.part.size]
def oneB (r : Rec) : Bool := fitsB 255 [r.vol, r.ver.tier, r.ver.vol, r.ask.cls, r.part.n]
def fourB (r : Rec) : Bool := (fitsB 4294967295 [r.n, r.rule.freeze + 1, r.rule.drop + 1, r.ver.time, r.ver.till] && decide (-1 ≤ r.rule.freeze)) && decide (-1 ≤ r.rule.drop)
def kindB (r : Rec) : Bool := decide (r.kind < 1) || decide (14 < r.kind)
def rangeB (r : Rec) : Bool := ((!oneB r || !twoB r) || !threeB r) || !fourB r
/-- what CheckRecord answers -/
def chk (r : Rec) : Int := if kindB r = true then 3 else if rangeB r = true then 2 else if ((!namesB r.secs [r.name, r.key, r.rule.pre, r.ver.bucket, r.ver.key] || !namesB r.ver.secs []) || !namesB r.part.secs []) = true then 1 else if bareB (kd r.kind) r = false then 4 else 0
set_option maxRecDepth 100000 in
set_option maxHeartbeats 64000000 in
theorem chkRec_does {r : Rec} {vs ps ss : Value} {G0 : GW} (hW : G0.Wf) (h : RxG G0 r vs ps ss) (hK : KindsG G0) (hf : i64 (r.rule.freeze + 1)) (hd : i64 (r.rule.drop + 1)) :
  Calls Tryz.prog 10 #[.agg (recV r vs ps ss).toArray] G0.w (Ret G0 fun y _ => y = .int .i64 (chk r)) := by
 obtain ⟨A, c, rfl, hc1, hc2⟩ := Sq.form h.v
 obtain ⟨B, d, rfl, hd1, hd2⟩ := Sq.form h.p
 obtain ⟨C, e, rfl, he1, he2⟩ := Sq.form h.s
 have hml := max_le
 obtain ⟨hf1, hf2⟩ := hf
 obtain ⟨hd3, hd4⟩ := hd
 refine enterS (G := G0) (n := 129) 3000 hW Tryz.func10 rfl Tryz.ntmps10 (by simp) ?_
 simp only [go_sem, simprocAttr, recV]
 intro g
 refine Wb_mk (fun hkb => ?_) (fun hkb => ?_)
 ·refine fin_ret (G := G0) Tryz.results10 ?_
  simp only [go_sem, simprocAttr]
  intro aa w' _ _
  unfold chk
  have hkb' : kindB r = true := hkb
  rw [if_pos hkb']
  rfl
 refine draw_ok (N := 3000) (.take 0 (.take 1 (.take 2 (.take 3 (.alt 4 (.alt 5 (.alt 6 (.alt 7 .done .last) .last) .last) (.alt 5 (.alt 4 (.alt 6 (.alt 7 .done .last) .last) .last) .last)))))) [] (QOk_body _ _ _) follows_mixed (by kernel_rfl) (by kernel_rfl) ?_
 simp only [go_sem, simprocAttr]
 refine ⟨?_, ?_⟩
 ·intro g1 g2
  intro g3
  refine pk (call_does (fun y _ => y = .bool (fitsB 16777215 [r.id, r.ver.id, r.ask.ver])) rfl rfl (by kernel_rfl) rfl (dk rfl) (fun G hG => Ret.anyM (M' := (G.sub [g3]).M) (fits_does (l := [r.id, r.ver.id, r.ask.ver]) (G0 := G.sub [g3]) (hG.wf.sub [g3]) (IntsG.of (l := [r.id, r.ver.id, r.ask.ver]) (hG.slG (b := ⟨3, g3, 3, [.v (.int .i64 r.id), .v (.int .i64 r.ver.id), .v (.int .i64 r.ask.ver)]⟩) (ks := [g3]) (by simp) (by simp) rfl (by show (3 : Nat) ≤ maxLen; unfold maxLen; omega)))))) ?_
  rintro _ ⟨_, G3, rfl, hn3, rfl⟩
  clear hn3
  simp only [go_sem, simprocAttr]
  intro g4
  refine pk (call_does (fun y _ => y = .bool (fitsB 65535 [r.at_, r.ver.size, r.ver.at_, r.ask.days, r.part.size])) rfl rfl (by kernel_rfl) rfl (dk rfl) (fun G hG => Ret.anyM (M' := (G.sub [g4]).M) (fits_does (l := [r.at_, r.ver.size, r.ver.at_, r.ask.days, r.part.size]) (G0 := G.sub [g4]) (hG.wf.sub [g4]) (IntsG.of (l := [r.at_, r.ver.size, r.ver.at_, r.ask.days, r.part.size]) (hG.slG (b := ⟨4, g4, 3, [.v (.int .i64 r.at_), .v (.int .i64 r.ver.size), .v (.int .i64 r.ver.at_), .v (.int .i64 r.ask.days), .v (.int .i64 r.part.size)]⟩) (ks := [g4]) (by simp) (by simp) rfl (by show (5 : Nat) ≤ maxLen; unfold maxLen; omega)))))) ?_
  rintro _ ⟨_, G4, rfl, hn4, rfl⟩
  clear hn4
  simp only [go_sem, simprocAttr]
  intro g5
  refine pk (call_does (fun y _ => y = .bool (fitsB 255 [r.vol, r.ver.tier, r.ver.vol, r.ask.cls, r.part.n])) rfl rfl (by kernel_rfl) rfl (dk rfl) (fun G hG => Ret.anyM (M' := (G.sub [g5]).M) (fits_does (l := [r.vol, r.ver.tier, r.ver.vol, r.ask.cls, r.part.n]) (G0 := G.sub [g5]) (hG.wf.sub [g5]) (IntsG.of (l := [r.vol, r.ver.tier, r.ver.vol, r.ask.cls, r.part.n]) (hG.slG (b := ⟨5, g5, 3, [.v (.int .i64 r.vol), .v (.int .i64 r.ver.tier), .v (.int .i64 r.ver.vol), .v (.int .i64 r.ask.cls), .v (.int .i64 r.part.n)]⟩) (ks := [g5]) (by simp) (by simp) rfl (by show (5 : Nat) ≤ maxLen; unfold maxLen; omega)))))) ?_
  rintro _ ⟨_, G5, rfl, hn5, rfl⟩
  clear hn5
  simp only [go_sem, simprocAttr]
  refine ⟨⟨by omega, by omega⟩, ?_⟩
  refine ⟨⟨by omega, by omega⟩, ?_⟩
  intro g6
  refine pk (call_does (fun y _ => y = .bool (fitsB 4294967295 [r.n, r.rule.freeze + 1, r.rule.drop + 1, r.ver.time, r.ver.till])) rfl rfl (by kernel_rfl) rfl (dk rfl) (fun G hG => Ret.anyM (M' := (G.sub [g6]).M) (fits_does (l := [r.n, r.rule.freeze + 1, r.rule.drop + 1, r.ver.time, r.ver.till]) (G0 := G.sub [g6]) (hG.wf.sub [g6]) (IntsG.of (l := [r.n, r.rule.freeze + 1, r.rule.drop + 1, r.ver.time, r.ver.till]) (hG.slG (b := ⟨6, g6, 3, [.v (.int .i64 r.n), .v (.int .i64 (r.rule.freeze + 1)), .v (.int .i64 (r.rule.drop + 1)), .v (.int .i64 r.ver.time), .v (.int .i64 r.ver.till)]⟩) (ks := [g6]) (by simp) (by simp) rfl (by show (5 : Nat) ≤ maxLen; unfold maxLen; omega)))))) ?_
  rintro _ ⟨_, G6, rfl, hn6, rfl⟩
  clear hn6
  simp only [go_sem, simprocAttr]
  refine Wb_mk (fun hrb => ?_) (fun hrb => ?_)
  ·refine fin_ret (G := G0) Tryz.results10 ?_
   simp only [go_sem, simprocAttr]
   intro aa w' _ _
   unfold chk
   have hkb' : ¬ kindB r = true := by rw [show kindB r = false from hkb]; decide
   have hrb' : rangeB r = true := hrb
   rw [if_neg hkb', if_pos hrb']
   rfl
  intro g7
  refine pk (call_does (fun y _ => y = .bool (namesB r.secs [r.name, r.key, r.rule.pre, r.ver.bucket, r.ver.key])) rfl rfl (by kernel_rfl) rfl (dk rfl) (fun G hG => Ret.anyM (M' := (G.sub [g7]).M) (names_does (l := [r.name, r.key, r.rule.pre, r.ver.bucket, r.ver.key]) (G0 := G.sub [g7]) (hG.wf.sub [g7]) (h.s.mono ((hG.le G0 (by simp)).trans (GW.le_sub _ _))) (StrsG.of (l := [r.name, r.key, r.rule.pre, r.ver.bucket, r.ver.key]) (hG.slG (b := ⟨7, g7, 9, [.v (.string r.name), .v (.string r.key), .v (.string r.rule.pre), .v (.string r.ver.bucket), .v (.string r.ver.key)]⟩) (ks := [g7]) (by simp) (by simp) rfl (by show (5 : Nat) ≤ maxLen; unfold maxLen; omega)))))) ?_
  rintro _ ⟨_, G7, rfl, hn7, rfl⟩
  clear hn7
  have hkb' : ¬ kindB r = true := by rw [show kindB r = false from hkb]; decide
  have hrb' : ¬ rangeB r = true := by rw [show rangeB r = false from hrb]; decide
  have nil_ : ∀ G : GW, StrsG G (.slice none 0 0) [] := fun G => StrsG.of (l := []) (Sl.nil _ _ _)
  cases hn1 : namesB r.secs [r.name, r.key, r.rule.pre, r.ver.bucket, r.ver.key] with
  | false =>
   simp only [go_sem, simprocAttr, Bool.not_false]
   refine fin_ret (G := G0) Tryz.results10 ?_
   simp only [go_sem, simprocAttr]
   intro aa w' _ _
   unfold chk
   rw [if_neg hkb', if_neg hrb', if_pos (by rw [hn1]; rfl)]
   rfl
  | true =>
   simp only [go_sem, simprocAttr, Bool.not_true]
   refine pk (call_does (fun y _ => y = .bool (namesB r.ver.secs [])) rfl rfl (by kernel_rfl) rfl (dk rfl) (fun G hG => names_does (l := []) hG.wf (h.v.mono (hG.le G0 (by simp))) (nil_ _))) ?_
   rintro _ ⟨_, G8, rfl, hn8, rfl⟩
   clear hn8
   cases hn2 : namesB r.ver.secs [] with
   | false =>
    simp only [go_sem, simprocAttr, Bool.not_false]
    refine fin_ret (G := G0) Tryz.results10 ?_
    simp only [go_sem, simprocAttr]
    intro aa w' _ _
    unfold chk
    rw [if_neg hkb', if_neg hrb', if_pos (by rw [hn1, hn2]; rfl)]
    rfl
   | true =>
    simp only [go_sem, simprocAttr, Bool.not_true]
    refine pk (call_does (fun y _ => y = .bool (namesB r.part.secs [])) rfl rfl (by kernel_rfl) rfl (dk rfl) (fun G hG => names_does (l := []) hG.wf (h.p.mono (hG.le G0 (by simp))) (nil_ _))) ?_
    rintro _ ⟨_, G9, rfl, hn9, rfl⟩
    clear hn9
    cases hn3 : namesB r.part.secs [] with
    | false =>
     simp only [go_sem, simprocAttr, Bool.not_false]
     refine fin_ret (G := G0) Tryz.results10 ?_
     simp only [go_sem, simprocAttr]
     intro aa w' _ _
     unfold chk
     rw [if_neg hkb', if_neg hrb', if_pos (by rw [hn1, hn2, hn3]; rfl)]
     rfl
    | true =>
     have hkd : 1 ≤ r.kind ∧ r.kind ≤ 14 := by
      unfold kindB at hkb'
      simp only [Bool.or_eq_true, decide_eq_true_eq] at hkb'
      omega
     have hns : ¬ ((!namesB r.secs [r.name, r.key, r.rule.pre, r.ver.bucket, r.ver.key] || !namesB r.ver.secs []) || !namesB r.part.secs []) = true := by rw [hn1, hn2, hn3]; decide
     simp only [go_sem, simprocAttr, Bool.not_true]
     refine pk (call_does (fun y _ => y = .bool (bareB (kd r.kind) r)) rfl rfl (by kernel_rfl) rfl (dk rfl) (fun G hG => bare_does hG.wf (h.mono (hG.le G0 (by simp))) (BlkG.mono hK (hG.le G0 (by simp))) hkd)) ?_
     rintro _ ⟨_, G10, rfl, hn10, rfl⟩
     clear hn10
     cases hbb : bareB (kd r.kind) r with
     | false =>
      simp only [go_sem, simprocAttr, Bool.not_false]
      refine fin_ret (G := G0) Tryz.results10 ?_
      simp only [go_sem, simprocAttr]
      intro aa w' _ _
      unfold chk
      rw [if_neg hkb', if_neg hrb', if_neg hns, if_pos hbb]
      rfl
     | true =>
      simp only [go_sem, simprocAttr, Bool.not_true]
      refine fin_ret (G := G0) Tryz.results10 ?_
      simp only [go_sem, simprocAttr]
      intro aa w' _ _
      unfold chk
      rw [if_neg hkb', if_neg hrb', if_neg hns, if_neg (by rw [hbb]; decide)]
      rfl
 ·intro g1 g2
  intro g3
  refine pk (call_does (fun y _ => y = .bool (fitsB 16777215 [r.id, r.ver.id, r.ask.ver])) rfl rfl (by kernel_rfl) rfl (dk rfl) (fun G hG => Ret.anyM (M' := (G.sub [g3]).M) (fits_does (l := [r.id, r.ver.id, r.ask.ver]) (G0 := G.sub [g3]) (hG.wf.sub [g3]) (IntsG.of (l := [r.id, r.ver.id, r.ask.ver]) (hG.slG (b := ⟨3, g3, 3, [.v (.int .i64 r.id), .v (.int .i64 r.ver.id), .v (.int .i64 r.ask.ver)]⟩) (ks := [g3]) (by simp) (by simp) rfl (by show (3 : Nat) ≤ maxLen; unfold maxLen; omega)))))) ?_
  rintro _ ⟨_, G3, rfl, hn3, rfl⟩
  clear hn3
  simp only [go_sem, simprocAttr]
  intro g4
  refine pk (call_does (fun y _ => y = .bool (fitsB 65535 [r.at_, r.ver.size, r.ver.at_, r.ask.days, r.part.size])) rfl rfl (by kernel_rfl) rfl (dk rfl) (fun G hG => Ret.anyM (M' := (G.sub [g4]).M) (fits_does (l := [r.at_, r.ver.size, r.ver.at_, r.ask.days, r.part.size]) (G0 := G.sub [g4]) (hG.wf.sub [g4]) (IntsG.of (l := [r.at_, r.ver.size, r.ver.at_, r.ask.days, r.part.size]) (hG.slG (b := ⟨4, g4, 3, [.v (.int .i64 r.at_), .v (.int .i64 r.ver.size), .v (.int .i64 r.ver.at_), .v (.int .i64 r.ask.days), .v (.int .i64 r.part.size)]⟩) (ks := [g4]) (by simp) (by simp) rfl (by show (5 : Nat) ≤ maxLen; unfold maxLen; omega)))))) ?_
  rintro _ ⟨_, G4, rfl, hn4, rfl⟩
  clear hn4
  simp only [go_sem, simprocAttr]
  intro g5
  refine pk (call_does (fun y _ => y = .bool (fitsB 255 [r.vol, r.ver.tier, r.ver.vol, r.ask.cls, r.part.n])) rfl rfl (by kernel_rfl) rfl (dk rfl) (fun G hG => Ret.anyM (M' := (G.sub [g5]).M) (fits_does (l := [r.vol, r.ver.tier, r.ver.vol, r.ask.cls, r.part.n]) (G0 := G.sub [g5]) (hG.wf.sub [g5]) (IntsG.of (l := [r.vol, r.ver.tier, r.ver.vol, r.ask.cls, r.part.n]) (hG.slG (b := ⟨5, g5, 3, [.v (.int .i64 r.vol), .v (.int .i64 r.ver.tier), .v (.int .i64 r.ver.vol), .v (.int .i64 r.ask.cls), .v (.int .i64 r.part.n)]⟩) (ks := [g5]) (by simp) (by simp) rfl (by show (5 : Nat) ≤ maxLen; unfold maxLen; omega)))))) ?_
  rintro _ ⟨_, G5, rfl, hn5, rfl⟩
  clear hn5
  simp only [go_sem, simprocAttr]
  refine ⟨⟨by omega, by omega⟩, ?_⟩
  refine ⟨⟨by omega, by omega⟩, ?_⟩
  intro g6
  refine pk (call_does (fun y _ => y = .bool (fitsB 4294967295 [r.n, r.rule.freeze + 1, r.rule.drop + 1, r.ver.time, r.ver.till])) rfl rfl (by kernel_rfl) rfl (dk rfl) (fun G hG => Ret.anyM (M' := (G.sub [g6]).M) (fits_does (l := [r.n, r.rule.freeze + 1, r.rule.drop + 1, r.ver.time, r.ver.till]) (G0 := G.sub [g6]) (hG.wf.sub [g6]) (IntsG.of (l := [r.n, r.rule.freeze + 1, r.rule.drop + 1, r.ver.time, r.ver.till]) (hG.slG (b := ⟨6, g6, 3, [.v (.int .i64 r.n), .v (.int .i64 (r.rule.freeze + 1)), .v (.int .i64 (r.rule.drop + 1)), .v (.int .i64 r.ver.time), .v (.int .i64 r.ver.till)]⟩) (ks := [g6]) (by simp) (by simp) rfl (by show (5 : Nat) ≤ maxLen; unfold maxLen; omega)))))) ?_
  rintro _ ⟨_, G6, rfl, hn6, rfl⟩
  clear hn6
  simp only [go_sem, simprocAttr]
  refine Wb_mk (fun hrb => ?_) (fun hrb => ?_)
  ·refine fin_ret (G := G0) Tryz.results10 ?_
   simp only [go_sem, simprocAttr]
   intro aa w' _ _
   unfold chk
   have hkb' : ¬ kindB r = true := by rw [show kindB r = false from hkb]; decide
   have hrb' : rangeB r = true := hrb
   rw [if_neg hkb', if_pos hrb']
   rfl
  intro g7
  refine pk (call_does (fun y _ => y = .bool (namesB r.secs [r.name, r.key, r.rule.pre, r.ver.bucket, r.ver.key])) rfl rfl (by kernel_rfl) rfl (dk rfl) (fun G hG => Ret.anyM (M' := (G.sub [g7]).M) (names_does (l := [r.name, r.key, r.rule.pre, r.ver.bucket, r.ver.key]) (G0 := G.sub [g7]) (hG.wf.sub [g7]) (h.s.mono ((hG.le G0 (by simp)).trans (GW.le_sub _ _))) (StrsG.of (l := [r.name, r.key, r.rule.pre, r.ver.bucket, r.ver.key]) (hG.slG (b := ⟨7, g7, 9, [.v (.string r.name), .v (.string r.key), .v (.string r.rule.pre), .v (.string r.ver.bucket), .v (.string r.ver.key)]⟩) (ks := [g7]) (by simp) (by simp) rfl (by show (5 : Nat) ≤ maxLen; unfold maxLen; omega)))))) ?_
  rintro _ ⟨_, G7, rfl, hn7, rfl⟩
  clear hn7
  have hkb' : ¬ kindB r = true := by rw [show kindB r = false from hkb]; decide
  have hrb' : ¬ rangeB r = true := by rw [show rangeB r = false from hrb]; decide
  have nil_ : ∀ G : GW, StrsG G (.slice none 0 0) [] := fun G => StrsG.of (l := []) (Sl.nil _ _ _)
  cases hn1 : namesB r.secs [r.name, r.key, r.rule.pre, r.ver.bucket, r.ver.key] with
  | false =>
   simp only [go_sem, simprocAttr, Bool.not_false]
   refine fin_ret (G := G0) Tryz.results10 ?_
   simp only [go_sem, simprocAttr]
   intro aa w' _ _
   unfold chk
   rw [if_neg hkb', if_neg hrb', if_pos (by rw [hn1]; rfl)]
   rfl
  | true =>
   simp only [go_sem, simprocAttr, Bool.not_true]
   refine pk (call_does (fun y _ => y = .bool (namesB r.ver.secs [])) rfl rfl (by kernel_rfl) rfl (dk rfl) (fun G hG => names_does (l := []) hG.wf (h.v.mono (hG.le G0 (by simp))) (nil_ _))) ?_
   rintro _ ⟨_, G8, rfl, hn8, rfl⟩
   clear hn8
   cases hn2 : namesB r.ver.secs [] with
   | false =>
    simp only [go_sem, simprocAttr, Bool.not_false]
    refine fin_ret (G := G0) Tryz.results10 ?_
    simp only [go_sem, simprocAttr]
    intro aa w' _ _
    unfold chk
    rw [if_neg hkb', if_neg hrb', if_pos (by rw [hn1, hn2]; rfl)]
    rfl
   | true =>
    simp only [go_sem, simprocAttr, Bool.not_true]
    refine pk (call_does (fun y _ => y = .bool (namesB r.part.secs [])) rfl rfl (by kernel_rfl) rfl (dk rfl) (fun G hG => names_does (l := []) hG.wf (h.p.mono (hG.le G0 (by simp))) (nil_ _))) ?_
    rintro _ ⟨_, G9, rfl, hn9, rfl⟩
    clear hn9
    cases hn3 : namesB r.part.secs [] with
    | false =>
     simp only [go_sem, simprocAttr, Bool.not_false]
     refine fin_ret (G := G0) Tryz.results10 ?_
     simp only [go_sem, simprocAttr]
     intro aa w' _ _
     unfold chk
     rw [if_neg hkb', if_neg hrb', if_pos (by rw [hn1, hn2, hn3]; rfl)]
     rfl
    | true =>
     have hkd : 1 ≤ r.kind ∧ r.kind ≤ 14 := by
      unfold kindB at hkb'
      simp only [Bool.or_eq_true, decide_eq_true_eq] at hkb'
      omega
     have hns : ¬ ((!namesB r.secs [r.name, r.key, r.rule.pre, r.ver.bucket, r.ver.key] || !namesB r.ver.secs []) || !namesB r.part.secs []) = true := by rw [hn1, hn2, hn3]; decide
     simp only [go_sem, simprocAttr, Bool.not_true]
     refine pk (call_does (fun y _ => y = .bool (bareB (kd r.kind) r)) rfl rfl (by kernel_rfl) rfl (dk rfl) (fun G hG => bare_does hG.wf (h.mono (hG.le G0 (by simp))) (BlkG.mono hK (hG.le G0 (by simp))) hkd)) ?_
     rintro _ ⟨_, G10, rfl, hn10, rfl⟩
     clear hn10
     cases hbb : bareB (kd r.kind) r with
     | false =>
      simp only [go_sem, simprocAttr, Bool.not_false]
      refine fin_ret (G := G0) Tryz.results10 ?_
      simp only [go_sem, simprocAttr]
      intro aa w' _ _
      unfold chk
      rw [if_neg hkb', if_neg hrb', if_neg hns, if_pos hbb]
      rfl
     | true =>
      simp only [go_sem, simprocAttr, Bool.not_true]
      refine fin_ret (G := G0) Tryz.results10 ?_
      simp only [go_sem, simprocAttr]
      intro aa w' _ _
      unfold chk
      rw [if_neg hkb', if_neg hrb', if_neg hns, if_neg (by rw [hbb]; decide)]
      rfl
end Go.Proofs.YtohdfcnjcpjdcaaGreatDoor
/- Which records may be written, in plain words; lists of records as bytes. Conditions: as each law states them. -/
namespace Go.Proofs.YtohdfcnjcpjdcaaGreatDoor
open Go.RowKit
theorem fitsB_iff {m : Int} {l : List Int} : fitsB m l = true ↔ ∀ n ∈ l, 0 ≤ n ∧ n ≤ m := by
 unfold fitsB
 rw [Bool.not_eq_true', List.any_eq_false]
 constructor
 ·intro h n hn
  have := h n hn
  simp only [Bool.or_eq_true, decide_eq_true_eq] at this
  omega
 ·intro h n hn
  have := h n hn
  simp only [Bool.or_eq_true, decide_eq_true_eq]
  omega
theorem namesB_iff {s : List Int} {l : List ByteArray} : namesB s l = true ↔ (s.length < 256 ∧ ∀ z ∈ s, 0 ≤ z ∧ z < 256) ∧ ∀ t ∈ l, t.size < 256 := by
 unfold namesB
 rw [Bool.and_eq_true, Bool.and_eq_true, decide_eq_true_eq, fitsB_iff, Bool.not_eq_true', List.any_eq_false]
 constructor
 ·rintro ⟨⟨h1, h2⟩, h3⟩
  refine ⟨⟨by omega, fun z hz => ?_⟩, fun t ht => ?_⟩
  ·have := h2 z hz; omega
  ·have := h3 t ht
   simp only [decide_eq_true_eq] at this
   omega
 ·rintro ⟨⟨h1, h2⟩, h3⟩
  refine ⟨⟨by omega, fun z hz => ?_⟩, fun t ht => ?_⟩
  ·have := h2 z hz; omega
  ·have := h3 t ht
   simp only [decide_eq_true_eq]
   omega
theorem mem3 {α : Type} {p : α → Prop} {a b c : α} : (∀ x ∈ [a, b, c], p x) ↔ p a ∧ p b ∧ p c := by simp
theorem mem5 {α : Type} {p : α → Prop} {a b c d e : α} : (∀ x ∈ [a, b, c, d, e], p x) ↔ p a ∧ p b ∧ p c ∧ p d ∧ p e := by simp
theorem noT_iff (t : ByteArray) : (t.toList == noT.toList) = true ↔ t = noT := by rw [strE, decide_eq_true_eq, strE_iff]
theorem toL_inj {a b : ByteArray} (h : a.toList = b.toList) : a = b := by
 rw [ByteArray.toList_eq, ByteArray.toList_eq] at h
 obtain ⟨⟨x⟩⟩ := a
 obtain ⟨⟨y⟩⟩ := b
 exact congrArg (fun l => ByteArray.mk (Array.mk l)) h
theorem ruleB_iff (a b : Rul) : ruleB a b = true ↔ a = b := by
 obtain ⟨a1, a2, a3⟩ := a
 obtain ⟨b1, b2, b3⟩ := b
 unfold ruleB
 simp only [Bool.and_eq_true, beq_iff_eq, Rul.mk.injEq]
 constructor
 ·rintro ⟨h1, h2, h3⟩
  exact ⟨toL_inj h1, h2, h3⟩
 ·rintro ⟨rfl, rfl, rfl⟩
  exact ⟨rfl, rfl, rfl⟩
theorem askB_iff (a b : Ask) : askB a b = true ↔ a = b := by
 obtain ⟨a1, a2, a3⟩ := a
 obtain ⟨b1, b2, b3⟩ := b
 unfold askB
 simp only [Bool.and_eq_true, beq_iff_eq, Ask.mk.injEq]
theorem or_imp {a b : Bool} {p : Prop} (h : b = true ↔ p) : (a || b) = true ↔ (a = false → p) := by
 rw [Bool.or_eq_true, h]
 cases a <;> simp
theorem secs_nil_iff (l : List Int) : decide ((l.length : Int) = 0) = true ↔ l = [] := by
 rw [decide_eq_true_iff]
 constructor
 ·intro h
  exact List.eq_nil_of_length_eq_zero (by omega)
 ·intro h
  rw [h]
  rfl
theorem bareB_iff {r : Rec} : bareB (kd r.kind) r = true ↔ Bare r := by
 unfold bareB b4B
 simp only [Bool.and_eq_true]
 rw [or_imp (p := r.id = 0) decide_eq_true_iff, or_imp (p := r.n = 0) decide_eq_true_iff, or_imp (noT_iff r.name), or_imp (noT_iff r.key), or_imp (ruleB_iff r.rule noR), or_imp (empty_iff r.ver), or_imp (askB_iff r.ask noAq), or_imp (nothing_iff r.part),
  or_imp (secs_nil_iff r.secs), or_imp (p := r.vol = 0) decide_eq_true_iff, or_imp (p := r.at_ = 0) decide_eq_true_iff]
 constructor
 ·rintro ⟨⟨⟨⟨⟨⟨⟨⟨⟨⟨h1, h2⟩, h3⟩, h4⟩, h5⟩, h6⟩, h7⟩, h8⟩, h9⟩, h10⟩, h11⟩
  exact ⟨h1, h3, h4, h2, h5, h6, h7, h8, h9, h10, h11⟩
 ·rintro ⟨h1, h3, h4, h2, h5, h6, h7, h8, h9, h10, h11⟩
  exact ⟨⟨⟨⟨⟨⟨⟨⟨⟨⟨h1, h2⟩, h3⟩, h4⟩, h5⟩, h6⟩, h7⟩, h8⟩, h9⟩, h10⟩, h11⟩
theorem kindB_iff {r : Rec} : kindB r = false ↔ 1 ≤ r.kind ∧ r.kind ≤ 14 := by
 unfold kindB
 rw [Bool.or_eq_false_iff, decide_eq_false_iff_not, decide_eq_false_iff_not]
 omega
theorem chk_iff {r : Rec} : chk r = 0 ↔ okRc r := by
 rw [okRc_iff]
 have hbf : ∀ b : Bool, b = false ∨ b = true := fun b => by cases b <;> simp
 constructor
 ·intro h
  unfold chk at h
  rcases hbf (kindB r) with hk | hk
  ·rw [if_neg (by rw [hk]; decide)] at h
   rcases hbf (rangeB r) with hr | hr
   ·rw [if_neg (by rw [hr]; decide)] at h
    split at h
    ·exact absurd h (by decide)
    ·rename_i hn
     split at h
     ·exact absurd h (by decide)
     ·rename_i hb
      have hb' : bareB (kd r.kind) r = true := (hbf _).resolve_left hb
      refine ⟨kindB_iff.1 hk, ?_, bareB_iff.1 hb'⟩
      unfold rangeB at hr
      simp only [Bool.or_eq_false_iff, Bool.not_eq_false'] at hr
      obtain ⟨⟨⟨h1, h2⟩, h3⟩, h4⟩ := hr
      unfold oneB at h1
      unfold twoB at h2
      unfold threeB at h3
      unfold fourB at h4
      rw [Bool.and_eq_true, Bool.and_eq_true, decide_eq_true_eq, decide_eq_true_eq] at h4
      rw [fitsB_iff, mem5] at h1 h2
      rw [fitsB_iff, mem3] at h3
      rw [fitsB_iff, mem5] at h4
      simp only [Bool.not_eq_true, Bool.or_eq_false_iff, Bool.not_eq_false'] at hn
      obtain ⟨⟨n1, n2⟩, n3⟩ := hn
      obtain ⟨m1, m2⟩ := namesB_iff.1 n1
      obtain ⟨m3, _⟩ := namesB_iff.1 n2
      obtain ⟨m4, _⟩ := namesB_iff.1 n3
      rw [mem5] at m2
      obtain ⟨a1, a2, a3, a4, a5⟩ := h1
      obtain ⟨b1, b2, b3, b4, b5⟩ := h2
      obtain ⟨c1, c2, c3⟩ := h3
      obtain ⟨⟨⟨d1, d2, d3, d4, d5⟩, d6⟩, d7⟩ := h4
      obtain ⟨t1, t2, t3, t4, t5⟩ := m2
      exact ⟨by omega, t1, t2, by omega, ⟨t3, by omega, by omega⟩, ⟨by omega, t4, t5, trivial, trivial, by omega, by omega, by omega, m3, by omega, by omega, by omega⟩, ⟨by omega, by omega, by omega⟩, ⟨by omega, by omega, m4⟩, m1, by omega, by omega⟩
   ·rw [if_pos hr] at h
    exact absurd h (by decide)
  ·rw [if_pos hk] at h
   exact absurd h (by decide)
 ·rintro ⟨hk, f, b⟩
  have hk' := kindB_iff.2 hk
  obtain ⟨f1, f2, f3, f4, ⟨g1, g2, g3⟩, ⟨v1, v2, v3, _, _, v4, v5, v6, v7, v8, v9, v10⟩, ⟨a1, a2, a3⟩, ⟨p1, p2, p3⟩, f9, f10, f11⟩ := f
  have hr : rangeB r = false := by
   have h1 : oneB r = true := by unfold oneB; rw [fitsB_iff, mem5]; exact ⟨by omega, by omega, by omega, by omega, by omega⟩
   have h2 : twoB r = true := by unfold twoB; rw [fitsB_iff, mem5]; exact ⟨by omega, by omega, by omega, by omega, by omega⟩
   have h3 : threeB r = true := by unfold threeB; rw [fitsB_iff, mem3]; exact ⟨by omega, by omega, by omega⟩
   have h4 : fourB r = true := by
    unfold fourB
    rw [Bool.and_eq_true, Bool.and_eq_true, decide_eq_true_eq, decide_eq_true_eq, fitsB_iff, mem5]
    exact ⟨⟨⟨by omega, by omega, by omega, by omega, by omega⟩, by omega⟩, by omega⟩
   unfold rangeB
   rw [h1, h2, h3, h4]
   rfl
  have n1 : namesB r.secs [r.name, r.key, r.rule.pre, r.ver.bucket, r.ver.key] = true := namesB_iff.2 ⟨f9, by rw [mem5]; exact ⟨f2, f3, g1, v2, v3⟩⟩
  have n2 : namesB r.ver.secs [] = true := namesB_iff.2 ⟨v7, fun _ h => absurd h List.not_mem_nil⟩
  have n3 : namesB r.part.secs [] = true := namesB_iff.2 ⟨p3, fun _ h => absurd h List.not_mem_nil⟩
  unfold chk
  rw [if_neg (by rw [hk']; decide), if_neg (by rw [hr]; decide), if_neg (by rw [n1, n2, n3]; decide), if_neg (by rw [bareB_iff.2 b]; decide)]
end Go.Proofs.YtohdfcnjcpjdcaaGreatDoor
