/- States and records in memory: what they are, and how they are read. Conditions: none. -/
import Derived.Test.YtohdfcnjcpjdcaaGreatTyw
import Derived.Test.YtohdfcnjcpjdcaaGreatPAw
namespace Go.Proofs.YtohdfcnjcpjdcaaGreat
open Go.RowKit
theorem max_le : maxLen ≤ 9223372036854775807 := by decide
abbrev i64 (x : Int) : Prop := -9223372036854775808 ≤ x ∧ x ≤ 9223372036854775807
structure Rul where
 pre : ByteArray
 freeze : Int
 drop : Int
structure Bkt where
 name : ByteArray
 mode : Int
 rule : Rul
structure Ver where
 id : Int
 bucket : ByteArray
 key : ByteArray
 null : Bool
 marker : Bool
 size : Int
 time : Int
 tier : Int
 secs : List Int
 vol : Int
 at_ : Int
 till : Int
structure Prt where
 n : Int
 size : Int
 secs : List Int
structure Upl where
 id : Int
 bucket : ByteArray
 key : ByteArray
 parts : List Prt
structure Ask where
 ver : Int
 days : Int
 cls : Int
structure Sta where
 next : Int
 clock : Int
 bkts : List Bkt
 vers : List Ver
 upls : List Upl
 queue : List Ask
 gone : List Int
structure Rec where
 kind : Int
 id : Int
 n : Int
 name : ByteArray
 key : ByteArray
 rule : Rul
 ver : Ver
 ask : Ask
 part : Prt
 secs : List Int
 vol : Int
 at_ : Int
/-! ### readings -/
def IntG (_ : GW) (x : Int) (cs : List Value) : Prop := cs = [.int .i64 x]
theorem intG_mono : MonoR IntG := fun _ _ _ _ _ h => h
def IntsG (G : GW) (v : Value) (l : List Int) : Prop := Sq IntG 3 1 G v l
theorem IntsG.mono {G G' : GW} {v : Value} {l : List Int} (h : IntsG G v l) (hl : G.Le G') : IntsG G' v l := Sq.mono h intG_mono hl
theorem ints_flat {G : GW} {css : List (List Value)} {l : List Int} (h : ElG IntG 1 G css l) : css.flatten = l.map (Value.int .i64) := by
 obtain ⟨h1, _, h3⟩ := h
 have : css = l.map fun x => [Value.int .i64 x] := by
  apply List.ext_getElem?
  intro i
  rw [List.getElem?_map]
  by_cases hi : i < l.length
  ·have hc : i < css.length := by omega
   have := h3 i css[i] l[i] (List.getElem?_eq_getElem hc) (List.getElem?_eq_getElem hi)
   rw [List.getElem?_eq_getElem hc, List.getElem?_eq_getElem hi, this]
   rfl
  ·rw [List.getElem?_eq_none (by omega), List.getElem?_eq_none (by omega)]
   rfl
 rw [this]
 clear h1 h3 this
 induction l with
 | nil => rfl
 | cons a r ih => simp [ih]
theorem IntsG.sl {G : GW} {v : Value} {l : List Int} (h : IntsG G v l) : Sl G 3 1 l.length v (l.map (Value.int .i64)) := by
 obtain ⟨css, he, hs⟩ := h
 rw [ints_flat he] at hs
 exact hs
theorem ints_els (G : GW) (l : List Int) : ElG IntG 1 G (l.map fun x => [Value.int .i64 x]) l ∧ (l.map fun x => [Value.int .i64 x]).flatten = l.map (Value.int .i64) := by
 refine ⟨⟨by simp, by simp, fun i cs x h1 h2 => ?_⟩, ?_⟩
 ·rw [List.getElem?_map, h2] at h1
  cases h1
  rfl
 ·induction l with
  | nil => rfl
  | cons a r ih => simp [ih]
theorem IntsG.of {G : GW} {v : Value} {l : List Int} (h : Sl G 3 1 l.length v (l.map (Value.int .i64))) : IntsG G v l :=
 ⟨_, (ints_els G l).1, by rw [(ints_els G l).2]; exact h⟩
def rulV (r : Rul) : List Value := [.string r.pre, .int .i64 r.freeze, .int .i64 r.drop]
def BktG (_ : GW) (x : Bkt) (cs : List Value) : Prop := cs = [.string x.name, .int .i64 x.mode, .string x.rule.pre, .int .i64 x.rule.freeze, .int .i64 x.rule.drop] ∧ x.name.size ≤ maxLen ∧ x.rule.pre.size ≤ maxLen
theorem bktG_mono : MonoR BktG := fun _ _ _ _ _ h => h
def verV (x : Ver) (sv : Value) : List Value := [.int .i64 x.id, .string x.bucket, .string x.key, .bool x.null, .bool x.marker, .int .i64 x.size, .int .i64 x.time, .int .i64 x.tier, sv, .int .i64 x.vol, .int .i64 x.at_, .int .i64 x.till]
def VerG (G : GW) (x : Ver) (cs : List Value) : Prop := ∃ sv, cs = verV x sv ∧ IntsG G sv x.secs ∧ x.bucket.size ≤ maxLen ∧ x.key.size ≤ maxLen
theorem verG_mono : MonoR VerG := fun _ _ _ _ hl ⟨sv, e, h, r⟩ => ⟨sv, e, h.mono hl, r⟩
def PrtG (G : GW) (x : Prt) (cs : List Value) : Prop := ∃ sv, cs = [.int .i64 x.n, .int .i64 x.size, sv] ∧ IntsG G sv x.secs
theorem prtG_mono : MonoR PrtG := fun _ _ _ _ hl ⟨sv, e, h⟩ => ⟨sv, e, h.mono hl⟩
def PrtsG (G : GW) (v : Value) (l : List Prt) : Prop := Sq PrtG 70 3 G v l
def UplG (G : GW) (x : Upl) (cs : List Value) : Prop := ∃ pv, cs = [.int .i64 x.id, .string x.bucket, .string x.key, pv] ∧ PrtsG G pv x.parts ∧ x.bucket.size ≤ maxLen ∧ x.key.size ≤ maxLen
theorem uplG_mono : MonoR UplG := fun _ _ _ _ hl ⟨sv, e, h, r⟩ => ⟨sv, e, Sq.mono h prtG_mono hl, r⟩
def AskG (_ : GW) (x : Ask) (cs : List Value) : Prop := cs = [.int .i64 x.ver, .int .i64 x.days, .int .i64 x.cls]
theorem askG_mono : MonoR AskG := fun _ _ _ _ _ h => h
def BktsG (G : GW) (v : Value) (l : List Bkt) : Prop := Sq BktG 42 5 G v l
def VersG (G : GW) (v : Value) (l : List Ver) : Prop := Sq VerG 38 12 G v l
def UplsG (G : GW) (v : Value) (l : List Upl) : Prop := Sq UplG 89 4 G v l
def AsksG (G : GW) (v : Value) (l : List Ask) : Prop := Sq AskG 68 3 G v l
def StaG (G : GW) (v : Value) (s : Sta) : Prop := ∃ b x u q g, v = .agg #[.int .i64 s.next, .int .i64 s.clock, b, x, u, q, g] ∧ BktsG G b s.bkts ∧ VersG G x s.vers ∧ UplsG G u s.upls ∧ AsksG G q s.queue ∧ IntsG G g s.gone
theorem StaG.mono {G G' : GW} {v : Value} {s : Sta} (h : StaG G v s) (hl : G.Le G') : StaG G' v s := by
 obtain ⟨b, x, u, q, g, rfl, h1, h2, h3, h4, h5⟩ := h
 exact ⟨b, x, u, q, g, rfl, Sq.mono h1 bktG_mono hl, Sq.mono h2 verG_mono hl, Sq.mono h3 uplG_mono hl, Sq.mono h4 askG_mono hl, h5.mono hl⟩
/-- a state's value, part by part -/
structure StaP (G : GW) (s : Sta) (A1 : Option Addr) (c1 : Nat) (A2 : Option Addr) (c2 : Nat) (A3 : Option Addr) (c3 : Nat) (A4 : Option Addr) (c4 : Nat) (A5 : Option Addr) (c5 : Nat) : Prop where
 bkts : BktsG G (.slice A1 s.bkts.length c1) s.bkts
 vers : VersG G (.slice A2 s.vers.length c2) s.vers
 upls : UplsG G (.slice A3 s.upls.length c3) s.upls
 queue : AsksG G (.slice A4 s.queue.length c4) s.queue
 gone : IntsG G (.slice A5 s.gone.length c5) s.gone
theorem StaP.mono {G G' : GW} {s : Sta} {A1 A2 A3 A4 A5 : Option Addr} {c1 c2 c3 c4 c5 : Nat} (h : StaP G s A1 c1 A2 c2 A3 c3 A4 c4 A5 c5) (hl : G.Le G') : StaP G' s A1 c1 A2 c2 A3 c3 A4 c4 A5 c5 :=
 ⟨Sq.mono h.bkts bktG_mono hl, Sq.mono h.vers verG_mono hl, Sq.mono h.upls uplG_mono hl, Sq.mono h.queue askG_mono hl, h.gone.mono hl⟩
theorem StaG.form {G : GW} {v : Value} {s : Sta} (h : StaG G v s) : ∃ A1 c1 A2 c2 A3 c3 A4 c4 A5 c5,
  v = .agg #[.int .i64 s.next, .int .i64 s.clock, .slice A1 s.bkts.length c1, .slice A2 s.vers.length c2, .slice A3 s.upls.length c3, .slice A4 s.queue.length c4, .slice A5 s.gone.length c5] ∧ StaP G s A1 c1 A2 c2 A3 c3 A4 c4 A5 c5 := by
 obtain ⟨b, x, u, q, g, rfl, h1, h2, h3, h4, h5⟩ := h
 obtain ⟨A1, c1, rfl, _⟩ := Sq.form h1
 obtain ⟨A2, c2, rfl, _⟩ := Sq.form h2
 obtain ⟨A3, c3, rfl, _⟩ := Sq.form h3
 obtain ⟨A4, c4, rfl, _⟩ := Sq.form h4
 obtain ⟨A5, c5, rfl, _⟩ := Sq.form h5
 exact ⟨A1, c1, A2, c2, A3, c3, A4, c4, A5, c5, rfl, h1, h2, h3, h4, h5⟩
theorem StaP.g {G : GW} {s : Sta} {A1 A2 A3 A4 A5 : Option Addr} {c1 c2 c3 c4 c5 : Nat} (h : StaP G s A1 c1 A2 c2 A3 c3 A4 c4 A5 c5) :
  StaG G (.agg #[.int .i64 s.next, .int .i64 s.clock, .slice A1 s.bkts.length c1, .slice A2 s.vers.length c2, .slice A3 s.upls.length c3, .slice A4 s.queue.length c4, .slice A5 s.gone.length c5]) s :=
 ⟨_, _, _, _, _, rfl, h.bkts, h.vers, h.upls, h.queue, h.gone⟩
end Go.Proofs.YtohdfcnjcpjdcaaGreat
