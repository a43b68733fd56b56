/- The driver of the laws of states, in plain words: raw things, records, states. Conditions: none. -/
import Derived.Test.YtefmffpidhdjoaaS23
namespace Go.Proofs.Ytefmffpidhdjoaa
open Go.RowKit
structure Raw where
  kind : Int
  a : Int
  b : Int
  c : Int
  d : Int
  text : ByteArray
def RawG (_ : GW) (x : Raw) (cs : List Value) : Prop := cs = [.int .i64 x.kind, .int .i64 x.a, .int .i64 x.b, .int .i64 x.c, .int .i64 x.d, .string x.text] ∧ i64 x.kind ∧ i64 x.a ∧ i64 x.b ∧ i64 x.c ∧ i64 x.d ∧ x.text.size ≤ maxLen
theorem rawG_mono : MonoR RawG := fun _ _ _ _ _ h => h
def RawsG (G : GW) (v : Value) (l : List Raw) : Prop := ScR RawG 6 G v l
/-! ### sectors that are free -/
def takenV (u : List Int) : List Ver → List Int
  | [] => u
  | v :: r => takenV (takeU u v.secs v.size).2 r
def takenP (u : List Int) : List Prt → List Int
  | [] => u
  | p :: r => takenP (takeU u p.secs p.size).2 r
def takenU (u : List Int) : List Upl → List Int
  | [] => u
  | x :: r => takenU (takenP u x.parts) r
def takenS (s : Sta) : List Int := takenU (takenV [] s.vers) s.upls
def frees (u : List Int) (n : Nat) : List Int := ((List.range n).map Int.ofNat).filter fun i => !decide (i ∈ u)
def freeS (s : Sta) (many : Int) : List Int × Int := if okSt s = true then (if (decide (many < 0) || decide (200 < many)) = true then ([], 2) else (frees (takenS s) many.toNat, 0)) else ([], 9)
def sectorsS (s : Sta) (size : Int) : List Int := (freeS s 200).1.take (secsOf size).toNat
/-! ### records -/
def nameS (n : Int) : ByteArray := if pick n 2 = 0 then ⟨#[97]⟩ else ⟨#[98]⟩
def keyS (n : Int) : ByteArray := if pick n 5 = 0 then ⟨#[120]⟩ else if pick n 5 = 1 then ⟨#[121, 47, 49]⟩ else if pick n 5 = 2 then ⟨#[121, 47, 50]⟩ else if pick n 5 = 3 then ⟨#[122, 47, 97, 47, 98]⟩ else ⟨#[121]⟩
def prefS (n : Int) : ByteArray := if pick n 3 = 0 then ⟨#[]⟩ else if pick n 3 = 1 then ⟨#[121]⟩ else ⟨#[122, 47]⟩
def idO (n : Int) : Option Ver → Int
  | some v => v.id
  | none => 1 + pick n 9
def idS (s : Sta) (n : Int) : Int := idO n s.vers[(pick n s.vers.length).toNat]?
def upidO : Option Upl → Int
  | some v => v.id
  | none => 1
def upidS (s : Sta) (n : Int) : Int := upidO s.upls[(pick n s.upls.length).toNat]?
def noV : Ver := ⟨0, ⟨#[]⟩, ⟨#[]⟩, false, false, 0, 0, 0, [], 0, 0, 0⟩
def rec0 (k : Int) : Rec := ⟨k, 0, 0, ⟨#[]⟩, ⟨#[]⟩, ⟨⟨#[]⟩, 0, 0⟩, noV, ⟨0, 0, 0⟩, ⟨0, 0, []⟩, [], 0, 0⟩
def newV (s : Sta) (r : Raw) : Ver := if pick r.d 5 = 0 then { noV with id := s.next, bucket := nameS r.a, key := keyS r.b, null := decide (pick r.d 3 = 0), time := pick r.c (s.clock + 1), marker := true }
  else { noV with id := s.next, bucket := nameS r.a, key := keyS r.b, null := decide (pick r.d 3 = 0), time := pick r.c (s.clock + 1), size := pick r.c 200, tier := 1, secs := sectorsS s (pick r.c 200) }
def thawL (s : Sta) (i : Int) (acc : List Int) : List Ver → List Int
  | [] => acc
  | v :: r => thawL s i (if v.id = i then sectorsS s v.size else acc) r
def recK (s : Sta) (r : Raw) (k : Int) : Rec :=
  if k = 1 then { rec0 k with name := nameS r.a }
  else if k = 2 then { rec0 k with name := nameS r.a, n := 1 + pick r.b 2 }
  else if k = 3 then { rec0 k with name := nameS r.a, rule := ⟨prefS r.b, pick r.c 12 - 1, pick r.d 30 - 1⟩ }
  else if k = 4 then { rec0 k with ver := newV s r }
  else if k = 5 ∨ k = 9 then { rec0 k with id := idS s r.a }
  else if k = 6 then { rec0 k with id := idS s r.a, vol := pick r.b 3, at_ := pick r.c 1000 }
  else if k = 7 then { rec0 k with ask := ⟨idS s r.a, 1 + pick r.b 9, pick r.c 3⟩ }
  else if k = 8 then { rec0 k with id := idS s r.a, n := s.clock + pick r.b 9, secs := thawL s (idS s r.a) [] s.vers }
  else if k = 10 then { rec0 k with id := s.next, name := nameS r.a, key := keyS r.b }
  else if k = 11 then { rec0 k with part := ⟨1 + pick r.b 5, pick r.c 200, sectorsS s (pick r.c 200)⟩, id := upidS s r.a }
  else if k = 12 then { rec0 k with id := upidS s r.a }
  else if k = 13 then { rec0 k with n := pick r.a 12 }
  else { rec0 k with vol := pick r.a 4 }
def recS (s : Sta) (r : Raw) : Rec := recK s r (1 + pick r.kind 14)
/-! ### states -/
def startS : Sta := ⟨1, 0, [], [], [], [], []⟩
def stepA (p : Sta × List Rec) (x : Rec) (a : Sta × Int) : Sta × List Rec := if a.2 = 0 then (a.1, p.2 ++ [x]) else p
def stepS (p : Sta × List Rec) (r : Raw) : Sta × List Rec := stepA p (recS p.1 r) (applyS p.1 (recS p.1 r))
def rawA (a : Int) : Raw := ⟨0, a, 0, 0, 0, ⟨#[]⟩⟩
def rawsOf (l : List Raw) (most : Nat) : List Raw := rawA 0 :: rawA 1 :: l.take most
def stateS (l : List Raw) (most : Nat) : Sta × List Rec := (rawsOf l most).foldl stepS (startS, [])
end Go.Proofs.Ytefmffpidhdjoaa
