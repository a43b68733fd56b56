/- The closed facts of a law's row that hang on the program alone, each proved once. Conditions: none. -/
import Derived.Test.YtohdfcnjcpjdcaaDoorRows
import Derived.Test.YtohdfcnjcpjdcaaDoorA1q
namespace Go.Proofs.YtohdfcnjcpjdcaaDoor
open Go.RowKit
theorem and_true {a b : Bool} (ha : a = true) (hb : b = true) : (a && b) = true := by rw [ha, hb]; rfl
theorem peel (w r : List Char) (h : w.all (fun c => c != Char.ofNat 32) = true) : wordsSigns (w ++ Char.ofNat 32 :: r) = w :: wordsSigns r := by
  induction w with
  | nil => rfl
  | cons c w ih =>
    simp only [List.all_cons, Bool.and_eq_true, bne_iff_ne, ne_eq] at h
    have e : wordsSigns (c :: (w ++ Char.ofNat 32 :: r)) = match wordsSigns (w ++ Char.ofNat 32 :: r) with
        | x :: xs => (c :: x) :: xs
        | [] => [[c]] := by
      rw [wordsSigns.eq_def]
      split
      · rename_i hh; simp at hh
      · rename_i hh; simp only [List.cons.injEq] at hh; exact absurd hh.1 (fun q => h.1 q)
      · rename_i hh; simp only [List.cons.injEq] at hh; obtain ⟨rfl, rfl⟩ := hh; rfl
    rw [List.cons_append, e, ih (by simpa using h.2)]
def word0 : List Char := ([104, 97, 114, 110, 101, 115, 115] : List Nat).map Char.ofNat
def word1 : List Char := ([99, 54, 101, 99, 100, 50, 101, 54, 101, 49, 100, 57, 50, 53, 51, 53, 97, 99, 102, 56, 50, 100, 54, 52, 99, 52, 51, 57, 99, 54, 99, 50, 53, 102, 57, 54, 54, 49, 57, 57, 98, 55, 50, 57, 49, 48, 100, 49, 97, 49, 54, 98, 101, 102, 52, 99, 49, 55, 102, 51, 97, 50, 49, 52] : List Nat).map Char.ofNat
def word2 : List Char := ([99, 117, 116] : List Nat).map Char.ofNat
def wordsMore : List Char := ([97, 116, 32, 105, 99, 101, 104, 111, 117, 115, 101, 47, 105, 99, 101, 104, 111, 117, 115, 101, 107, 101, 101, 112, 46, 82, 101, 99, 111, 114, 100, 66, 97, 114, 101, 32, 105, 99, 101, 104, 111, 117, 115, 101, 47, 105, 99, 101, 104, 111, 117, 115, 101, 107, 101, 101, 112, 46, 82, 101, 99, 111, 114, 100, 115, 70, 105, 120, 101, 100] : List Nat).map Char.ofNat
theorem head_text : Tryd.prog.initOrder = String.ofList (word0 ++ Char.ofNat 32 :: (word1 ++ Char.ofNat 32 :: (word2 ++ Char.ofNat 32 :: wordsMore))) := by kernel_rfl
theorem head_words : wordsSigns Tryd.prog.initOrder.toList = word0 :: word1 :: word2 :: wordsSigns wordsMore := by
  rw [head_text, String.toList_ofList, peel _ _ (by kernel_rfl), peel _ _ (by kernel_rfl), peel _ _ (by kernel_rfl)]
theorem behind_words (R : List (List Char)) : behindMainWord (word0 :: word1 :: word2 :: R) = word2 :: R := by kernel_rfl
theorem strip_words (R : List (List Char)) : stripLifts liftWords (word2 :: R) = ([], word2 :: R) := by kernel_rfl
theorem head_behind : behindMainWord (wordsSigns Tryd.prog.initOrder.toList) = word2 :: wordsSigns wordsMore := by rw [head_words, behind_words]
theorem laysLater_ok : Tryd.prog.laysLater = false := by kernel_rfl
theorem bearsReflect_ok : Tryd.prog.bearsReflect = false := by kernel_rfl
theorem doorFits_ok : Tryd.prog.doorFits [] = true := by kernel_rfl
theorem mayEnter_of (P : Program) (R : List (List Char)) (h : behindMainWord (wordsSigns P.initOrder.toList) = word2 :: R) (h1 : P.laysLater = false) (h2 : P.bearsReflect = false) (h3 : P.doorFits [] = true) : P.mayEnter = true := by
  unfold Program.mayEnter
  rw [h, h1, h2]
  show ((_ && _) || (_ && _ && _ && _) || _) = true
  rw [strip_words]
  dsimp only
  rw [h3]
  kernel_rfl
theorem mayEnter_ok : Tryd.prog.mayEnter = true := mayEnter_of _ _ head_behind laysLater_ok bearsReflect_ok doorFits_ok
theorem headLifts_of (P : Program) (R : List (List Char)) (h : behindMainWord (wordsSigns P.initOrder.toList) = word2 :: R) : P.headLifts = [] := by
  unfold Program.headLifts
  rw [h, strip_words]
  kernel_rfl
theorem lifts_of (P : Program) (R : List (List Char)) (h : behindMainWord (wordsSigns P.initOrder.toList) = word2 :: R) : (false == P.liftsFinal) = true := by
  unfold Program.liftsFinal
  rw [h, headLifts_of P R h]
  kernel_rfl
theorem lifts_ok : (false == Tryd.prog.liftsFinal) = true := lifts_of _ _ head_behind
theorem make_of (P : Program) (R : List (List Char)) (h : behindMainWord (wordsSigns P.initOrder.toList) = word2 :: R) : (P.make == some .cut) = true := by
  unfold Program.make
  rw [h]
  kernel_rfl
theorem make_ok : (Tryd.prog.make == some .cut) = true := make_of _ _ head_behind
theorem laidOut_ok : laidOutB Tryd.prog = true := by kernel_rfl
theorem mapsRowed_ok : mapsRowed Tryd.prog = true := by kernel_rfl
theorem stops_ok : (Tryd.prog.stops == []) = true := by kernel_rfl
theorem stopKnobs_ok : (Tryd.prog.stopKnobs == []) = true := by kernel_rfl
theorem plainKeys_ok : (true == Tryd.prog.plainKeys) = true := by kernel_rfl
theorem stopsHeard_ok : Tryd.prog.stopsHeard = true := by kernel_rfl
theorem own_ok : ownKnob Tryd.prog.godebug = none := by kernel_rfl
end Go.Proofs.YtohdfcnjcpjdcaaDoor
