/- The closed facts of a law's row that hang on the program alone, each proved once. Conditions: none. -/
import Derived.Test.YtefmffpidhdjoaaRows
import Derived.Test.YtefmffpidhdjoaaA1
namespace Go.Proofs.Ytefmffpidhdjoaa
open Go.RowKit
theorem and_true {a b : Bool} (ha : a = true) (hb : b = true) : (a && b) = true := by rw [ha, hb]; rfl
theorem peel (w r : List Char) (h : w.all (fun c => c != Char.ofNat 32) = true) : wordsSigns (w ++ Char.ofNat 32 :: r) = w :: wordsSigns r := by
  induction w with
  | nil => rfl
  | cons c w ih =>
    simp only [List.all_cons, Bool.and_eq_true, bne_iff_ne, ne_eq] at h
    have e : wordsSigns (c :: (w ++ Char.ofNat 32 :: r)) = match wordsSigns (w ++ Char.ofNat 32 :: r) with
        | x :: xs => (c :: x) :: xs
        | [] => [[c]] := by
      rw [wordsSigns.eq_def]
      split
      · rename_i hh; simp at hh
      · rename_i hh; simp only [List.cons.injEq] at hh; exact absurd hh.1 (fun q => h.1 q)
      · rename_i hh; simp only [List.cons.injEq] at hh; obtain ⟨rfl, rfl⟩ := hh; rfl
    rw [List.cons_append, e, ih (by simpa using h.2)]
def word0 : List Char := ([104, 97, 114, 110, 101, 115, 115] : List Nat).map Char.ofNat
def word1 : List Char := ([48, 49, 48, 100, 101, 54, 55, 49, 98, 49, 98, 50, 101, 98, 55, 98, 50, 99, 97, 52, 52, 101, 101, 54, 99, 102, 49, 102, 54, 56, 51, 101, 101, 49, 50, 100, 102, 50, 57, 49, 55, 57, 98, 102, 53, 50, 101, 101, 53, 52, 48, 101, 50, 53, 55, 52, 54, 48, 55, 51, 52, 49, 99, 98] : List Nat).map Char.ofNat
def word2 : List Char := ([99, 117, 116] : List Nat).map Char.ofNat
def wordsMore : List Char := ([97, 116, 32, 105, 99, 101, 104, 111, 117, 115, 101, 47, 105, 99, 101, 104, 111, 117, 115, 101, 107, 101, 101, 112, 46, 83, 116, 97, 116, 101, 70, 105, 120, 101, 100, 32, 105, 99, 101, 104, 111, 117, 115, 101, 47, 105, 99, 101, 104, 111, 117, 115, 101, 107, 101, 101, 112, 46, 83, 116, 97, 116, 101, 71, 111, 111, 100, 32, 105, 99, 101, 104, 111, 117, 115, 101, 47, 105, 99, 101, 104, 111, 117, 115, 101, 107, 101, 101, 112, 46, 78, 101, 120, 116, 82, 105, 115, 101, 115, 32, 105, 99, 101, 104, 111, 117, 115, 101, 47, 105, 99, 101, 104, 111, 117, 115, 101, 107, 101, 101, 112, 46, 68, 114, 111, 112, 70, 111, 114, 103, 101, 116, 115, 32, 105, 99, 101, 104, 111, 117, 115, 101, 47, 105, 99, 101, 104, 111, 117, 115, 101, 107, 101, 101, 112, 46, 70, 114, 101, 101, 65, 112, 97, 114, 116, 32, 105, 99, 101, 104, 111, 117, 115, 101, 47, 105, 99, 101, 104, 111, 117, 115, 101, 107, 101, 101, 112, 46, 65, 115, 107, 67, 111, 108, 100, 32, 105, 99, 101, 104, 111, 117, 115, 101, 47, 105, 99, 101, 104, 111, 117, 115, 101, 107, 101, 101, 112, 46, 71, 111, 110, 101, 69, 109, 112, 116, 121, 32, 105, 99, 101, 104, 111, 117, 115, 101, 47, 105, 99, 101, 104, 111, 117, 115, 101, 107, 101, 101, 112, 46, 77, 111, 100, 101, 79, 110, 32, 105, 99, 101, 104, 111, 117, 115, 101, 47, 105, 99, 101, 104, 111, 117, 115, 101, 107, 101, 101, 112, 46, 80, 108, 97, 99, 101, 82, 111, 111, 109, 32, 105, 99, 101, 104, 111, 117, 115, 101, 47, 105, 99, 101, 104, 111, 117, 115, 101, 107, 101, 101, 112, 46, 76, 105, 118, 101, 83, 117, 109, 32, 105, 99, 101, 104, 111, 117, 115, 101, 47, 105, 99, 101, 104, 111, 117, 115, 101, 107, 101, 101, 112, 46, 78, 117, 108, 108, 79, 110, 101, 32, 105, 99, 101, 104, 111, 117, 115, 101, 47, 105, 99, 101, 104, 111, 117, 115, 101, 107, 101, 101, 112, 46, 84, 105, 101, 114, 115, 82, 111, 117, 110, 100, 32, 105, 99, 101, 104, 111, 117, 115, 101, 47, 105, 99, 101, 104, 111, 117, 115, 101, 107, 101, 101, 112, 46, 78, 101, 120, 116, 67, 108, 97, 115, 115, 32, 105, 99, 101, 104, 111, 117, 115, 101, 47, 105, 99, 101, 104, 111, 117, 115, 101, 107, 101, 101, 112, 46, 67, 104, 105, 108, 108, 79, 118, 101, 114, 32, 105, 99, 101, 104, 111, 117, 115, 101, 47, 105, 99, 101, 104, 111, 117, 115, 101, 107, 101, 101, 112, 46, 72, 97, 108, 102, 68, 101, 97, 100] : List Nat).map Char.ofNat
theorem head_text : Try.prog.initOrder = String.ofList (word0 ++ Char.ofNat 32 :: (word1 ++ Char.ofNat 32 :: (word2 ++ Char.ofNat 32 :: wordsMore))) := by kernel_rfl
theorem head_words : wordsSigns Try.prog.initOrder.toList = word0 :: word1 :: word2 :: wordsSigns wordsMore := by
  rw [head_text, String.toList_ofList, peel _ _ (by kernel_rfl), peel _ _ (by kernel_rfl), peel _ _ (by kernel_rfl)]
theorem behind_words (R : List (List Char)) : behindMainWord (word0 :: word1 :: word2 :: R) = word2 :: R := by kernel_rfl
theorem strip_words (R : List (List Char)) : stripLifts liftWords (word2 :: R) = ([], word2 :: R) := by kernel_rfl
theorem head_behind : behindMainWord (wordsSigns Try.prog.initOrder.toList) = word2 :: wordsSigns wordsMore := by rw [head_words, behind_words]
theorem laysLater_ok : Try.prog.laysLater = false := by kernel_rfl
theorem bearsReflect_ok : Try.prog.bearsReflect = false := by kernel_rfl
theorem doorFits_ok : Try.prog.doorFits [] = true := by kernel_rfl
theorem mayEnter_of (P : Program) (R : List (List Char)) (h : behindMainWord (wordsSigns P.initOrder.toList) = word2 :: R) (h1 : P.laysLater = false) (h2 : P.bearsReflect = false) (h3 : P.doorFits [] = true) : P.mayEnter = true := by
  unfold Program.mayEnter
  rw [h, h1, h2]
  show ((_ && _) || (_ && _ && _ && _) || _) = true
  rw [strip_words]
  dsimp only
  rw [h3]
  kernel_rfl
theorem mayEnter_ok : Try.prog.mayEnter = true := mayEnter_of _ _ head_behind laysLater_ok bearsReflect_ok doorFits_ok
theorem headLifts_of (P : Program) (R : List (List Char)) (h : behindMainWord (wordsSigns P.initOrder.toList) = word2 :: R) : P.headLifts = [] := by
  unfold Program.headLifts
  rw [h, strip_words]
  kernel_rfl
theorem lifts_of (P : Program) (R : List (List Char)) (h : behindMainWord (wordsSigns P.initOrder.toList) = word2 :: R) : (false == P.liftsFinal) = true := by
  unfold Program.liftsFinal
  rw [h, headLifts_of P R h]
  kernel_rfl
theorem lifts_ok : (false == Try.prog.liftsFinal) = true := lifts_of _ _ head_behind
theorem make_of (P : Program) (R : List (List Char)) (h : behindMainWord (wordsSigns P.initOrder.toList) = word2 :: R) : (P.make == some .cut) = true := by
  unfold Program.make
  rw [h]
  kernel_rfl
theorem make_ok : (Try.prog.make == some .cut) = true := make_of _ _ head_behind
theorem laidOut_ok : laidOutB Try.prog = true := by kernel_rfl
theorem mapsRowed_ok : mapsRowed Try.prog = true := by kernel_rfl
theorem stops_ok : (Try.prog.stops == []) = true := by kernel_rfl
theorem stopKnobs_ok : (Try.prog.stopKnobs == []) = true := by kernel_rfl
theorem plainKeys_ok : (false == Try.prog.plainKeys) = true := by kernel_rfl
theorem stopsHeard_ok : Try.prog.stopsHeard = true := by kernel_rfl
theorem own_ok : ownKnob Try.prog.godebug = none := by kernel_rfl
end Go.Proofs.Ytefmffpidhdjoaa
