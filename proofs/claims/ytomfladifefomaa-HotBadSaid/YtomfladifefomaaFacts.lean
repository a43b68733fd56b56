/- The closed facts of a law's row that hang on the program alone, each proved once. Conditions: none. -/
import Derived.Test.YtomfladifefomaaRows
import Derived.Test.YtomfladifefomaaA1
namespace Go.Proofs.Ytomfladifefomaa
open Go.RowKit
theorem and_true {a b : Bool} (ha : a = true) (hb : b = true) : (a && b) = true := by rw [ha, hb]; rfl
theorem peel (w r : List Char) (h : w.all (fun c => c != Char.ofNat 32) = true) : wordsSigns (w ++ Char.ofNat 32 :: r) = w :: wordsSigns r := by
  induction w with
  | nil => rfl
  | cons c w ih =>
    simp only [List.all_cons, Bool.and_eq_true, bne_iff_ne, ne_eq] at h
    have e : wordsSigns (c :: (w ++ Char.ofNat 32 :: r)) = match wordsSigns (w ++ Char.ofNat 32 :: r) with
        | x :: xs => (c :: x) :: xs
        | [] => [[c]] := by
      rw [wordsSigns.eq_def]
      split
      · rename_i hh; simp at hh
      · rename_i hh; simp only [List.cons.injEq] at hh; exact absurd hh.1 (fun q => h.1 q)
      · rename_i hh; simp only [List.cons.injEq] at hh; obtain ⟨rfl, rfl⟩ := hh; rfl
    rw [List.cons_append, e, ih (by simpa using h.2)]
def word0 : List Char := ([104, 97, 114, 110, 101, 115, 115] : List Nat).map Char.ofNat
def word1 : List Char := ([52, 97, 98, 99, 56, 100, 52, 56, 54, 97, 51, 99, 48, 97, 97, 102, 99, 57, 100, 50, 54, 50, 101, 57, 101, 55, 51, 56, 97, 52, 53, 53, 51, 99, 56, 50, 98, 53, 56, 57, 56, 56, 100, 56, 98, 52, 51, 50, 48, 56, 54, 99, 52, 102, 102, 56, 56, 98, 97, 100, 57, 50, 50, 54] : List Nat).map Char.ofNat
def word2 : List Char := ([99, 117, 116] : List Nat).map Char.ofNat
def wordsMore : List Char := ([97, 116, 32, 105, 99, 101, 104, 111, 117, 115, 101, 47, 105, 99, 101, 104, 111, 117, 115, 101, 107, 101, 101, 112, 46, 80, 97, 99, 107, 66, 97, 100, 32, 105, 99, 101, 104, 111, 117, 115, 101, 47, 105, 99, 101, 104, 111, 117, 115, 101, 107, 101, 101, 112, 46, 84, 97, 107, 101, 71, 111, 110, 101, 32, 105, 99, 101, 104, 111, 117, 115, 101, 47, 105, 99, 101, 104, 111, 117, 115, 101, 107, 101, 101, 112, 46, 84, 97, 112, 101, 84, 97, 105, 108, 32, 105, 99, 101, 104, 111, 117, 115, 101, 47, 105, 99, 101, 104, 111, 117, 115, 101, 107, 101, 101, 112, 46, 68, 101, 118, 71, 111, 111, 100, 32, 105, 99, 101, 104, 111, 117, 115, 101, 47, 105, 99, 101, 104, 111, 117, 115, 101, 107, 101, 101, 112, 46, 80, 117, 116, 71, 101, 116, 32, 105, 99, 101, 104, 111, 117, 115, 101, 47, 105, 99, 101, 104, 111, 117, 115, 101, 107, 101, 101, 112, 46, 70, 108, 117, 115, 104, 83, 97, 102, 101, 32, 105, 99, 101, 104, 111, 117, 115, 101, 47, 105, 99, 101, 104, 111, 117, 115, 101, 107, 101, 101, 112, 46, 67, 114, 97, 115, 104, 69, 105, 116, 104, 101, 114, 32, 105, 99, 101, 104, 111, 117, 115, 101, 47, 105, 99, 101, 104, 111, 117, 115, 101, 107, 101, 101, 112, 46, 87, 114, 105, 116, 101, 65, 112, 97, 114, 116, 32, 105, 99, 101, 104, 111, 117, 115, 101, 47, 105, 99, 101, 104, 111, 117, 115, 101, 107, 101, 101, 112, 46, 72, 111, 116, 66, 97, 100, 32, 105, 99, 101, 104, 111, 117, 115, 101, 47, 105, 99, 101, 104, 111, 117, 115, 101, 107, 101, 101, 112, 46, 80, 97, 99, 107, 70, 101, 116, 99, 104, 32, 105, 99, 101, 104, 111, 117, 115, 101, 47, 105, 99, 101, 104, 111, 117, 115, 101, 107, 101, 101, 112, 46, 70, 117, 101, 108, 67, 111, 117, 110, 116, 115, 32, 105, 99, 101, 104, 111, 117, 115, 101, 47, 105, 99, 101, 104, 111, 117, 115, 101, 107, 101, 101, 112, 46, 87, 114, 105, 116, 101, 82, 101, 97, 100, 32, 105, 99, 101, 104, 111, 117, 115, 101, 47, 105, 99, 101, 104, 111, 117, 115, 101, 107, 101, 101, 112, 46, 87, 114, 105, 116, 101, 68, 105, 101, 115, 32, 105, 99, 101, 104, 111, 117, 115, 101, 47, 105, 99, 101, 104, 111, 117, 115, 101, 107, 101, 101, 112, 46, 82, 105, 110, 103, 70, 117, 108, 108, 32, 105, 99, 101, 104, 111, 117, 115, 101, 47, 105, 99, 101, 104, 111, 117, 115, 101, 107, 101, 101, 112, 46, 70, 111, 114, 109, 97, 116, 69, 109, 112, 116, 121, 32, 105, 99, 101, 104, 111, 117, 115, 101, 47, 105, 99, 101, 104, 111, 117, 115, 101, 107, 101, 101, 112, 46, 67, 111, 109, 109, 105, 116, 70, 111, 117, 110, 100, 32, 105, 99, 101, 104, 111, 117, 115, 101, 47, 105, 99, 101, 104, 111, 117, 115, 101, 107, 101, 101, 112, 46, 79, 112, 101, 110, 79, 102, 116, 101, 110, 32, 105, 99, 101, 104, 111, 117, 115, 101, 47, 105, 99, 101, 104, 111, 117, 115, 101, 107, 101, 101, 112, 46, 67, 111, 109, 109, 105, 116, 68, 105, 101, 115, 32, 105, 99, 101, 104, 111, 117, 115, 101, 47, 105, 99, 101, 104, 111, 117, 115, 101, 107, 101, 101, 112, 46, 67, 111, 109, 109, 105, 116, 65, 103, 97, 105, 110, 32, 105, 99, 101, 104, 111, 117, 115, 101, 47, 105, 99, 101, 104, 111, 117, 115, 101, 107, 101, 101, 112, 46, 83, 97, 118, 101, 70, 111, 117, 110, 100, 32, 105, 99, 101, 104, 111, 117, 115, 101, 47, 105, 99, 101, 104, 111, 117, 115, 101, 107, 101, 101, 112, 46, 82, 105, 110, 103, 82, 111, 117, 110, 100, 32, 105, 99, 101, 104, 111, 117, 115, 101, 47, 105, 99, 101, 104, 111, 117, 115, 101, 107, 101, 101, 112, 46, 83, 97, 118, 101, 68, 105, 101, 115] : List Nat).map Char.ofNat
theorem head_text : Try.prog.initOrder = String.ofList (word0 ++ Char.ofNat 32 :: (word1 ++ Char.ofNat 32 :: (word2 ++ Char.ofNat 32 :: wordsMore))) := by kernel_rfl
theorem head_words : wordsSigns Try.prog.initOrder.toList = word0 :: word1 :: word2 :: wordsSigns wordsMore := by
  rw [head_text, String.toList_ofList, peel _ _ (by kernel_rfl), peel _ _ (by kernel_rfl), peel _ _ (by kernel_rfl)]
theorem behind_words (R : List (List Char)) : behindMainWord (word0 :: word1 :: word2 :: R) = word2 :: R := by kernel_rfl
theorem strip_words (R : List (List Char)) : stripLifts liftWords (word2 :: R) = ([], word2 :: R) := by kernel_rfl
theorem head_behind : behindMainWord (wordsSigns Try.prog.initOrder.toList) = word2 :: wordsSigns wordsMore := by rw [head_words, behind_words]
theorem laysLater_ok : Try.prog.laysLater = false := by kernel_rfl
theorem bearsReflect_ok : Try.prog.bearsReflect = false := by kernel_rfl
theorem doorFits_ok : Try.prog.doorFits [] = true := by kernel_rfl
theorem mayEnter_of (P : Program) (R : List (List Char)) (h : behindMainWord (wordsSigns P.initOrder.toList) = word2 :: R) (h1 : P.laysLater = false) (h2 : P.bearsReflect = false) (h3 : P.doorFits [] = true) : P.mayEnter = true := by
  unfold Program.mayEnter
  rw [h, h1, h2]
  show ((_ && _) || (_ && _ && _ && _) || _) = true
  rw [strip_words]
  dsimp only
  rw [h3]
  kernel_rfl
theorem mayEnter_ok : Try.prog.mayEnter = true := mayEnter_of _ _ head_behind laysLater_ok bearsReflect_ok doorFits_ok
theorem headLifts_of (P : Program) (R : List (List Char)) (h : behindMainWord (wordsSigns P.initOrder.toList) = word2 :: R) : P.headLifts = [] := by
  unfold Program.headLifts
  rw [h, strip_words]
  kernel_rfl
theorem lifts_of (P : Program) (R : List (List Char)) (h : behindMainWord (wordsSigns P.initOrder.toList) = word2 :: R) : (false == P.liftsFinal) = true := by
  unfold Program.liftsFinal
  rw [h, headLifts_of P R h]
  kernel_rfl
theorem lifts_ok : (false == Try.prog.liftsFinal) = true := lifts_of _ _ head_behind
theorem make_of (P : Program) (R : List (List Char)) (h : behindMainWord (wordsSigns P.initOrder.toList) = word2 :: R) : (P.make == some .cut) = true := by
  unfold Program.make
  rw [h]
  kernel_rfl
theorem make_ok : (Try.prog.make == some .cut) = true := make_of _ _ head_behind
theorem laidOut_ok : laidOutB Try.prog = true := by kernel_rfl
theorem mapsRowed_ok : mapsRowed Try.prog = true := by kernel_rfl
theorem stops_ok : (Try.prog.stops == []) = true := by kernel_rfl
theorem stopKnobs_ok : (Try.prog.stopKnobs == []) = true := by kernel_rfl
theorem plainKeys_ok : (true == Try.prog.plainKeys) = true := by kernel_rfl
theorem stopsHeard_ok : Try.prog.stopsHeard = true := by kernel_rfl
theorem own_ok : ownKnob Try.prog.godebug = none := by kernel_rfl
end Go.Proofs.Ytomfladifefomaa
