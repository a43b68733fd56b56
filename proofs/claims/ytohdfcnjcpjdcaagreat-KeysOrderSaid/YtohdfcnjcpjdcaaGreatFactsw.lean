/- The closed facts of a law's row that hang on the program alone, each proved once. Conditions: none. -/
import Derived.Test.YtohdfcnjcpjdcaaGreatRows
import Derived.Test.YtohdfcnjcpjdcaaGreatA1w
namespace Go.Proofs.YtohdfcnjcpjdcaaGreat
open Go.RowKit
theorem and_true {a b : Bool} (ha : a = true) (hb : b = true) : (a && b) = true := by rw [ha, hb]; rfl
theorem peel (w r : List Char) (h : w.all (fun c => c != Char.ofNat 32) = true) : wordsSigns (w ++ Char.ofNat 32 :: r) = w :: wordsSigns r := by
 induction w with
 | nil => rfl
 | cons c w ih =>
  simp only [List.all_cons, Bool.and_eq_true, bne_iff_ne, ne_eq] at h
  have e : wordsSigns (c :: (w ++ Char.ofNat 32 :: r)) = match wordsSigns (w ++ Char.ofNat 32 :: r) with
    | x :: xs => (c :: x) :: xs
    | [] => [[c]] := by
   rw [wordsSigns.eq_def]
   split
   ·rename_i hh; simp at hh
   ·rename_i hh; simp only [List.cons.injEq] at hh; exact absurd hh.1 (fun q => h.1 q)
   ·rename_i hh; simp only [List.cons.injEq] at hh; obtain ⟨rfl, rfl⟩ := hh; rfl
  rw [List.cons_append, e, ih (by simpa using h.2)]
def word0 : List Char := ([104, 97, 114, 110, 101, 115, 115] : List Nat).map Char.ofNat
def word1 : List Char := ([54, 49, 100, 55, 97, 99, 101, 101, 101, 99, 57, 102, 52, 50, 97, 53, 100, 99, 52, 48, 102, 102, 52, 50, 56, 50, 54, 98, 49, 97, 51, 54, 102, 50, 55, 51, 99, 51, 50, 53, 101, 98, 53, 55, 53, 50, 98, 101, 55, 57, 52, 101, 99, 102, 97, 55, 51, 48, 100, 51, 57, 49, 49, 54] : List Nat).map Char.ofNat
def word2 : List Char := ([99, 117, 116] : List Nat).map Char.ofNat
def wordsMore : List Char := ([97, 116, 32, 105, 99, 101, 104, 111, 117, 115, 101, 47, 105, 99, 101, 104, 111, 117, 115, 101, 107, 101, 101, 112, 46, 70, 114, 101, 101, 122, 101, 79, 108, 100, 32, 105, 99, 101, 104, 111, 117, 115, 101, 47, 105, 99, 101, 104, 111, 117, 115, 101, 107, 101, 101, 112, 46, 83, 116, 97, 116, 101, 66, 97, 99, 107, 32, 105, 99, 101, 104, 111, 117, 115, 101, 47, 105, 99, 101, 104, 111, 117, 115, 101, 107, 101, 101, 112, 46, 75, 101, 121, 115, 67, 111, 109, 109, 111, 110, 32, 105, 99, 101, 104, 111, 117, 115, 101, 47, 105, 99, 101, 104, 111, 117, 115, 101, 107, 101, 101, 112, 46, 75, 101, 121, 115, 80, 97, 103, 101, 115, 32, 105, 99, 101, 104, 111, 117, 115, 101, 47, 105, 99, 101, 104, 111, 117, 115, 101, 107, 101, 101, 112, 46, 86, 101, 114, 115, 105, 111, 110, 115, 65, 108, 108, 32, 105, 99, 101, 104, 111, 117, 115, 101, 47, 105, 99, 101, 104, 111, 117, 115, 101, 107, 101, 101, 112, 46, 75, 101, 121, 115, 79, 114, 100, 101, 114] : List Nat).map Char.ofNat
theorem head_text : Tryz.prog.initOrder = String.ofList (word0 ++ Char.ofNat 32 :: (word1 ++ Char.ofNat 32 :: (word2 ++ Char.ofNat 32 :: wordsMore))) := by kernel_rfl
theorem head_words : wordsSigns Tryz.prog.initOrder.toList = word0 :: word1 :: word2 :: wordsSigns wordsMore := by
 rw [head_text, String.toList_ofList, peel _ _ (by kernel_rfl), peel _ _ (by kernel_rfl), peel _ _ (by kernel_rfl)]
theorem behind_words (R : List (List Char)) : behindMainWord (word0 :: word1 :: word2 :: R) = word2 :: R := by kernel_rfl
theorem strip_words (R : List (List Char)) : stripLifts liftWords (word2 :: R) = ([], word2 :: R) := by kernel_rfl
theorem head_behind : behindMainWord (wordsSigns Tryz.prog.initOrder.toList) = word2 :: wordsSigns wordsMore := by rw [head_words, behind_words]
theorem laysLater_ok : Tryz.prog.laysLater = false := by kernel_rfl
theorem bearsReflect_ok : Tryz.prog.bearsReflect = false := by kernel_rfl
theorem doorFits_ok : Tryz.prog.doorFits [] = true := by kernel_rfl
theorem mayEnter_of (P : Program) (R : List (List Char)) (h : behindMainWord (wordsSigns P.initOrder.toList) = word2 :: R) (h1 : P.laysLater = false) (h2 : P.bearsReflect = false) (h3 : P.doorFits [] = true) : P.mayEnter = true := by
 unfold Program.mayEnter
 rw [h, h1, h2]
 show ((_ && _) || (_ && _ && _ && _) || _) = true
 rw [strip_words]
 dsimp only
 rw [h3]
 kernel_rfl
theorem mayEnter_ok : Tryz.prog.mayEnter = true := mayEnter_of _ _ head_behind laysLater_ok bearsReflect_ok doorFits_ok
theorem headLifts_of (P : Program) (R : List (List Char)) (h : behindMainWord (wordsSigns P.initOrder.toList) = word2 :: R) : P.headLifts = [] := by
 unfold Program.headLifts
 rw [h, strip_words]
 kernel_rfl
theorem lifts_of (P : Program) (R : List (List Char)) (h : behindMainWord (wordsSigns P.initOrder.toList) = word2 :: R) : (false == P.liftsFinal) = true := by
 unfold Program.liftsFinal
 rw [h, headLifts_of P R h]
 kernel_rfl
theorem lifts_ok : (false == Tryz.prog.liftsFinal) = true := lifts_of _ _ head_behind
theorem make_of (P : Program) (R : List (List Char)) (h : behindMainWord (wordsSigns P.initOrder.toList) = word2 :: R) : (P.make == some .cut) = true := by
 unfold Program.make
 rw [h]
 kernel_rfl
theorem make_ok : (Tryz.prog.make == some .cut) = true := make_of _ _ head_behind
theorem laidOut_ok : laidOutB Tryz.prog = true := by kernel_rfl
theorem mapsRowed_ok : mapsRowed Tryz.prog = true := by kernel_rfl
theorem stops_ok : (Tryz.prog.stops == []) = true := by kernel_rfl
theorem stopKnobs_ok : (Tryz.prog.stopKnobs == []) = true := by kernel_rfl
theorem plainKeys_ok : (false == Tryz.prog.plainKeys) = true := by kernel_rfl
theorem stopsHeard_ok : Tryz.prog.stopsHeard = true := by kernel_rfl
theorem own_ok : ownKnob Tryz.prog.godebug = none := by kernel_rfl
end Go.Proofs.YtohdfcnjcpjdcaaGreat
