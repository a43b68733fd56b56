import Derived.Test.YtomfladifefomaaRows
import Derived.Test.YtomfladifefomaaMem
import Derived.Test.YtomfladifefomaaT14
import Derived.Lib.ConvBytes
import Derived.Deep.RegionLaw
namespace Go.Proofs.Ytomfladifefomaa
open Go.RowKit
theorem conv_run (W : World) (s : ByteArray) : (convert 9 23 (.string s)).run Try.prog W = .ok (.slice (some ⟨W.heap.size, 0, none⟩) s.size (grownCap W s.size 0 5)) (Lib.bytesWorld W 5 s) :=
  Lib.run_convert_string_bytes (P := Try.prog) W 9 23 5 s Try.underlying9 Try.underlying23 Try.underlying5
theorem conv_below (W : World) (e : TypeId) (s : ByteArray) : Below W.heap.size W (Lib.bytesWorld W e s) := by
  refine ⟨?_, ?_, ?_, by rw [Lib.bytesWorld_size]; omega, fun k hk => Lib.bytesWorld_at_old W e s k hk⟩
  all_goals
    unfold Lib.bytesWorld World.freeze
    rw [if_neg (by omega)]
    rfl
theorem conv_bytes (W : World) (s : ByteArray) (h : s.size ≤ 1000000) : BytesR (Lib.bytesWorld W 5 s) (.slice (some ⟨W.heap.size, 0, none⟩) s.size (grownCap W s.size 0 5)) s.data.toList := by
  have hl : s.data.toList.length = s.size := by rw [Array.length_toList]; rfl
  unfold BytesR
  rw [hl]
  refine ⟨_, _, rfl, grownCap_ge W s.size 0 _, grownCap_le_maxLen W s.size 0 _ (by unfold maxLen; omega), by simp [hl], fun _ => ⟨_, 0, _, _, rfl, Lib.bytesWorld_at_new W _ s, fun j u hu => ?_⟩⟩
  have hj : j < s.data.toList.length := by simpa using (List.getElem?_eq_some_iff.1 hu).1
  rw [Nat.zero_add]
  unfold Lib.bytesCells
  rw [Array.getElem?_append_left (by simpa using hj), ← hu]
  simp
  rfl
theorem conv_bytes_at (W : World) (s : ByteArray) (m : Nat) (hm : s.size = m) (h : m ≤ 1000000) : BytesR (Lib.bytesWorld W 5 s) (.slice (some ⟨W.heap.size, 0, none⟩) m (grownCap W m 0 5)) s.data.toList := by
  subst hm; exact conv_bytes W s h
/-- small devices with so many volumes of the same bytes -/
def tg (bs : List UInt8) (v : Nat) : Dev := { newDev smallGeo with vols := List.replicate v ⟨bs, 0, false⟩ }
theorem tg_succ (bs : List UInt8) (v : Nat) : ({ spent (tg bs v) with vols := (spent (tg bs v)).vols ++ [⟨bs, 0, false⟩] } : Dev) = tg bs (v + 1) := by
  simp [tg, spent, newDev, List.replicate_succ']
theorem newGood (g : Geo) (hg : GoodGeo g) : GoodDev g (newDev g) := by
  have hS0 : 0 ≤ sectorsOf g := by
    have := hg.r1; have := hg.a1; have := hg.h1; unfold sectorsOf; omega
  refine ⟨?_, ?_, by simp [newDev], by simp [newDev], ?_, by simp [newDev], by simp [newDev], by simp [newDev]⟩
  · simp [newDev]; omega
  · intro s hs
    have : s = zeros := (List.mem_replicate.1 hs).2
    rw [this]; simp [zeros]
  · have := hg.n1
    simp [newDev]; omega
theorem tg_good (bs : List UInt8) (v : Nat) (hv : v ≤ 3) (hb : bs.length ≤ 50) : GoodDev smallGeo (tg bs v) := by
  have h := newGood smallGeo smallGood
  refine ⟨h.safe, h.rows, h.most, h.cache, ?_, ?_, h.f1, h.f2⟩
  · show ((List.replicate v _).length : Int) ≤ 3
    rw [List.length_replicate]; omega
  · intro x hx
    have : x = ⟨bs, 0, false⟩ := (List.mem_replicate.1 hx).2
    subst this
    show vBad bs.length 0 false 300 = false
    simp [vBad]; omega
theorem tg_len (bs : List UInt8) (v : Nat) : (tg bs v).vols.length = v := by simp [tg]
theorem tg_fuel (bs : List UInt8) (v : Nat) : (tg bs v).fuel ≠ 0 := by simp [tg, newDev]
theorem tg_at (bs : List UInt8) (v k : Nat) (h : k < v) : (tg bs v).vols[k]? = some ⟨bs, 0, false⟩ := by simp [tg, h]
end Go.Proofs.Ytomfladifefomaa
