/- Records as bytes: which may be written; lists of them: in plain words. Conditions: as each law states them. -/
import Derived.Test.YtohdfcnjcpjdcaaDoorQ1q
namespace Go.Proofs.YtohdfcnjcpjdcaaDoor
/-- all numbers, texts and lists of a record are small enough -/
structure Fits (r : Rec) : Prop where
  id : 0 ≤ r.id ∧ r.id < 16777216
  name : r.name.size < 256
  key : r.key.size < 256
  n : 0 ≤ r.n ∧ r.n < 4294967296
  rule : okRl r.rule
  ver : okVr r.ver
  ask : okAk r.ask
  part : okPt r.part
  secs : r.secs.length < 256 ∧ ∀ z ∈ r.secs, 0 ≤ z ∧ z < 256
  vol : 0 ≤ r.vol ∧ r.vol < 256
  at_ : 0 ≤ r.at_ ∧ r.at_ < 65536
/-- a record has what its kind has, and nothing more -/
structure Bare (r : Rec) : Prop where
  id : (kd r.kind).id = false → r.id = 0
  name : (kd r.kind).name = false → r.name = ⟨#[]⟩
  key : (kd r.kind).key = false → r.key = ⟨#[]⟩
  n : (kd r.kind).n = false → r.n = 0
  rule : (kd r.kind).rule = false → r.rule = noR
  ver : (kd r.kind).ver = false → r.ver = noV
  ask : (kd r.kind).ask = false → r.ask = noA
  part : (kd r.kind).part = false → r.part = noP
  secs : (kd r.kind).secs = false → r.secs = []
  vol : (kd r.kind).vol = false → r.vol = 0
  at_ : (kd r.kind).at_ = false → r.at_ = 0
theorem okO_of {α : Type} {b : Bool} {ok : α → Prop} {d x : α} (h : ok x) (hb : b = false → x = d) : okO b ok d x := by
  cases b with
  | true => exact h
  | false => exact hb rfl
theorem okO_ok {α : Type} {b : Bool} {ok : α → Prop} {d x : α} (h : okO b ok d x) (hd : ok d) : ok x := by
  cases b with
  | true => exact h
  | false => rw [show x = d from h]; exact hd
theorem okO_bare {α : Type} {b : Bool} {ok : α → Prop} {d x : α} (h : okO b ok d x) (hb : b = false) : x = d := by
  subst hb
  exact h
theorem okRl_no : okRl noR := ⟨by decide, ⟨by decide, by decide⟩, ⟨by decide, by decide⟩⟩
theorem okVr_no : okVr noV := ⟨⟨by decide, by decide⟩, by decide, by decide, trivial, trivial, ⟨by decide, by decide⟩, ⟨by decide, by decide⟩, ⟨by decide, by decide⟩, ⟨by decide, fun _ h => absurd h List.not_mem_nil⟩, ⟨by decide, by decide⟩, ⟨by decide, by decide⟩, ⟨by decide, by decide⟩⟩
theorem okAk_no : okAk noA := ⟨⟨by decide, by decide⟩, ⟨by decide, by decide⟩, ⟨by decide, by decide⟩⟩
theorem okPt_no : okPt noP := ⟨⟨by decide, by decide⟩, ⟨by decide, by decide⟩, ⟨by decide, fun _ h => absurd h List.not_mem_nil⟩⟩
theorem okRc_iff {r : Rec} : okRc r ↔ (1 ≤ r.kind ∧ r.kind ≤ 14) ∧ Fits r ∧ Bare r := by
  constructor
  · rintro ⟨hk, h1, h2, h3, h4, h5, h6, h7, h8, h9, h10, h11⟩
    have g1 := okO_ok h1 ⟨by decide, by decide⟩
    have g2 := okO_ok h2 (by show (0 : Nat) < 256; decide)
    have g3 := okO_ok h3 (by show (0 : Nat) < 256; decide)
    have g4 := okO_ok h4 ⟨by decide, by decide⟩
    have g5 := okO_ok h5 okRl_no
    have g6 := okO_ok h6 okVr_no
    have g7 := okO_ok h7 okAk_no
    have g8 := okO_ok h8 okPt_no
    have g9 := okO_ok h9 ⟨by decide, fun _ h => absurd h List.not_mem_nil⟩
    have g10 := okO_ok h10 ⟨by decide, by decide⟩
    have g11 := okO_ok h11 ⟨by decide, by decide⟩
    exact ⟨hk, ⟨g1, g2, g3, g4, g5, g6, g7, g8, g9, g10, g11⟩, ⟨okO_bare h1, okO_bare h2, okO_bare h3, okO_bare h4, okO_bare h5, okO_bare h6, okO_bare h7, okO_bare h8, okO_bare h9, okO_bare h10, okO_bare h11⟩⟩
  · rintro ⟨hk, f, b⟩
    exact ⟨hk, okO_of f.id b.id, okO_of f.name b.name, okO_of f.key b.key, okO_of f.n b.n, okO_of f.rule b.rule, okO_of f.ver b.ver, okO_of f.ask b.ask, okO_of f.part b.part, okO_of f.secs b.secs, okO_of f.vol b.vol, okO_of f.at_ b.at_⟩
/-! ### what is read is small enough -/
def Bd {α : Type} (rd : RS → α × RS) (ok : α → Prop) : Prop := ∀ s, ok (rd s).1
theorem Bd.op {α : Type} {rd : RS → α × RS} {ok : α → Prop} (h : Bd rd ok) (b : Bool) (d : α) (s : RS) : okO b ok d (opR b rd d s).1 := by
  cases b with
  | true => exact h s
  | false => rfl
theorem bd_tk {k : Nat} (M : Nat) (hM : 256 ^ k ≤ M) : Bd (tk k) (fun n => 0 ≤ n ∧ n < (M : Int)) := by
  intro s
  unfold tk
  have hM0 : 0 < M := Nat.lt_of_lt_of_le (Nat.pos_of_ne_zero (by simp)) hM
  split
  · exact ⟨Int.le_refl _, by show (0 : Int) < _; omega⟩
  · have h := valB_bd (s.l.take k)
    have h1 : (256 : Nat) ^ (s.l.take k).length ≤ 256 ^ k := Nat.pow_le_pow_right (by omega) (by rw [List.length_take]; omega)
    exact ⟨h.1, by show valB _ < _; omega⟩
theorem bd_tk1 : Bd (tk 1) (fun n => 0 ≤ n ∧ n < 256) := bd_tk 256 (by decide)
theorem bd_tk2 : Bd (tk 2) (fun n => 0 ≤ n ∧ n < 65536) := bd_tk 65536 (by decide)
theorem bd_tk3 : Bd (tk 3) (fun n => 0 ≤ n ∧ n < 16777216) := bd_tk 16777216 (by decide)
theorem bd_tk4 : Bd (tk 4) (fun n => 0 ≤ n ∧ n < 4294967296) := bd_tk 4294967296 (by decide)
theorem bd_tx : Bd tx (fun t => t.size < 256) := by
  intro s
  have h := bd_tk1 s
  unfold tx
  split
  · exact (by decide : (0 : Nat) < 256)
  · show ((tk 1 s).2.l.take (tk 1 s).1.toNat).toArray.size < 256
    rw [List.size_toArray, List.length_take]
    dsimp only at h
    omega
theorem mn_its : ∀ (n : Nat) (a : List Int) (s : RS), (∀ z ∈ a, 0 ≤ z ∧ z < 256) → ((mn itS n a s).1.length ≤ a.length + n ∧ ∀ z ∈ (mn itS n a s).1, 0 ≤ z ∧ z < 256)
  | 0, a, s, h => ⟨by simp [mn], h⟩
  | n + 1, a, s, h => by
    rw [mn]
    split
    · have h1 := mn_its n (itS a s).1 (itS a s).2 (by
        intro z hz
        rcases List.mem_append.1 hz with hz | hz
        · exact h z hz
        · rw [List.mem_singleton.1 hz]
          exact bd_tk1 s)
      refine ⟨?_, h1.2⟩
      have h2 : (itS a s).1.length = a.length + 1 := by simp [itS]
      omega
    · exact ⟨by simp, h⟩
theorem bd_its : Bd its (fun l => l.length < 256 ∧ ∀ z ∈ l, 0 ≤ z ∧ z < 256) := by
  intro s
  have h := bd_tk1 s
  dsimp only at h
  have h1 := mn_its (tk 1 s).1.toNat [] (tk 1 s).2 (fun _ h => absurd h List.not_mem_nil)
  refine ⟨?_, h1.2⟩
  have h2 : (its s).1.length ≤ (tk 1 s).1.toNat := by
    have := h1.1
    rw [List.length_nil, Nat.zero_add] at this
    exact this
  omega
theorem bd_rl : Bd rl okRl := fun s => ⟨bd_tx s, by have := bd_tk4 (tx s).2; dsimp only [rl]; omega, by have := bd_tk4 (tk 4 (tx s).2).2; dsimp only [rl]; omega⟩
theorem bd_pt : Bd pt okPt := fun s => ⟨bd_tk1 _, bd_tk2 _, bd_its _⟩
theorem bd_ak : Bd ak okAk := fun s => ⟨bd_tk3 _, bd_tk2 _, bd_tk1 _⟩
theorem Bd.at_ {α : Type} {rd : RS → α × RS} {ok : α → Prop} (h : Bd rd ok) (s : RS) {x : α} (e : x = (rd s).1) : ok x := e ▸ h s
theorem bd_vr : Bd vr okVr := fun s => by
  have h1 := bd_tk3.at_ s (x := (vr s).1.id) (by simp only [vr, vr1])
  have h2 := bd_tx.at_ (vr1 s).2 (x := (vr s).1.bucket) (by simp only [vr, vr2])
  have h3 := bd_tx.at_ (vr2 s).2 (x := (vr s).1.key) (by simp only [vr, vr3])
  have h6 := bd_tk2.at_ (vr5 s).2 (x := (vr s).1.size) (by simp only [vr, vr6])
  have h7 := bd_tk4.at_ (vr6 s).2 (x := (vr s).1.time) (by simp only [vr, vr7])
  have h8 := bd_tk1.at_ (vr7 s).2 (x := (vr s).1.tier) (by simp only [vr, vr8])
  have h9 := bd_its.at_ (vr8 s).2 (x := (vr s).1.secs) (by simp only [vr, vr9])
  have h10 := bd_tk1.at_ (vr9 s).2 (x := (vr s).1.vol) (by simp only [vr, vr10])
  have h11 := bd_tk2.at_ (vr10 s).2 (x := (vr s).1.at_) (by simp only [vr, vr11])
  have h12 := bd_tk4.at_ (vr11 s).2 (x := (vr s).1.till) (by simp only [vr, vr12])
  obtain ⟨v, hv⟩ : ∃ v, v = (vr s).1 := ⟨_, rfl⟩
  show okVr (vr s).1
  rw [← hv] at h1 h2 h3 h6 h7 h8 h9 h10 h11 h12 ⊢
  exact ⟨h1, h2, h3, trivial, trivial, h6, h7, h8, h9, h10, h11, h12⟩
theorem bd_rcT (i : Int) (s : RS) : okTl (kd i) (rcT i s).1 :=
  ⟨bd_tk3.op _ _ s, bd_tx.op _ _ (rc1 (kd i) s).2, bd_tx.op _ _ (rc2 (kd i) s).2, bd_tk4.op _ _ (rc3 (kd i) s).2, bd_rl.op _ _ (rc4 (kd i) s).2, bd_vr.op _ _ (rc5 (kd i) s).2, bd_ak.op _ _ (rc6 (kd i) s).2, bd_pt.op _ _ (rc7 (kd i) s).2, bd_its.op _ _ (rc8 (kd i) s).2, bd_tk1.op _ _ (rc9 (kd i) s).2, bd_tk2.op _ _ (rc10 (kd i) s).2⟩
theorem bd_rc {s : RS} (h : (rc s).2.f = 0) : okRc (rc s).1 := by
  unfold rc at h ⊢
  by_cases hk : (rcK (tk 1 s)).f = 0
  · rw [if_pos hk]
    refine ⟨?_, bd_rcT _ _⟩
    show 1 ≤ (tk 1 s).1 ∧ (tk 1 s).1 ≤ 14
    unfold rcK at hk
    by_cases q : (tk 1 s).2.f = 0 ∧ ((tk 1 s).1 < 1 ∨ 14 < (tk 1 s).1)
    · rw [if_pos q] at hk
      exact absurd hk (by show ¬ (3 : Int) = 0; decide)
    · rw [if_neg q] at hk
      omega
  · rw [if_neg hk] at h
    exact absurd h hk
end Go.Proofs.YtohdfcnjcpjdcaaDoor
