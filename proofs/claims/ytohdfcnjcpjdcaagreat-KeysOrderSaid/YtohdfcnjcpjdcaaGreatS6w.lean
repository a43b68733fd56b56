/- sound; buckets. Conditions: as each law states them. -/
import Derived.Test.YtohdfcnjcpjdcaaGreatS5w
namespace Go.Proofs.YtohdfcnjcpjdcaaGreat
open Go.RowKit
set_option linter.unusedSimpArgs false
def verOut (s : Sta) (v : Ver) : Bool := ((((!bktIn s v.bucket || !decide (nameErr v.key 16 = 0)) || decide (v.id < 1)) || decide (s.next ≤ v.id)) || decide (v.time < 0)) || decide (s.clock < v.time)
def markB (v : Ver) : Bool := ((((decide (v.size = 0) && decide (v.tier = 0)) && decide ((v.secs.length : Int) = 0)) && decide (v.vol = 0)) && decide (v.at_ = 0)) && decide (v.till = 0)
def soundU (s : Sta) (v : Ver) (u : List Int) : Bool × List Int :=
 if verOut s v = true then (false, u)
 else if v.marker = true then (markB v, u)
 else if (decide (0 ≤ v.size) && decide (v.size ≤ 600)) = true then tieredU s v u else (false, u)
set_option maxRecDepth 100000 in
set_option maxHeartbeats 16000000 in
theorem sound_does {g : Nat} {u : List Int} {s : Sta} {b x up q gv : Value} {v : Ver} {sv : Value} {G0 : GW} (hW : G0.Wf) (hh : HandsOk G0.w ⟨[], [usedR g u]⟩) (hM : ∀ k, Hands.A ⟨[], [usedR g u]⟩ k → G0.M k) (hb : BktsG G0 b s.bkts) (hg : IntsG G0 gv s.gone) (hs : IntsG G0 sv v.secs) (hk : v.key.size ≤ maxLen) (hbo : Ordered (ltBkt v.bucket) s.bkts) (hbn : s.bkts.length ≤ 1000000) (hu : u.Nodup) (hi : ∀ x ∈ u, i64 x) :
  Calls Tryz.prog 109 #[.agg #[.int .i64 s.next, .int .i64 s.clock, b, x, up, q, gv], .agg (verV v sv).toArray, .map (some g)] G0.w (RetH G0 ⟨[], [usedR g u]⟩ fun r _ R _ => r = .bool (soundU s v u).1 ∧ R = [usedR g (soundU s v u).2]) := by
 obtain ⟨A, c, rfl, hc1, hc2⟩ := Sq.form hs
 have hml := max_le
 refine enterH (n := 93) 3000 ([.c (.v (.agg #[.int .i64 s.next, .int .i64 s.clock, b, x, up, q, gv])), .c (.v (.agg (verV v (.slice A v.secs.length c)).toArray)), .c (.v (.map (some g)))]) ([]) rfl hW hh hM Tryz.func109 rfl Tryz.ntmps109 (by simp) ?_
 simp only [go_sem, simprocAttr, verV]
 intro g1 g2
 refine pk (call_does (fun r _ => r = .tuple #[.int .i64 (bktAt s v.bucket : Int), .bool (bktIn s v.bucket)]) rfl rfl (by kernel_rfl) rfl (dk rfl) (fun G hG => bucket_does hG.wf (Sq.mono hb bktG_mono (hG.le G0 (by simp))) hbo hbn)) ?_
 rintro _ ⟨_, G1, rfl, hn1, rfl⟩
 clear hn1
 simp only [go_sem, simprocAttr]
 refine Wb_mk (fun h2 => ?_) (fun h2 => ?_)
 ·simp only [go_sem, simprocAttr, h2]
  refine pk (call_does (fun r _ => r = .int .i64 (nameErr v.key 16)) rfl rfl (by kernel_rfl) rfl (dk rfl) (fun G hG => checkKey_does hG.wf hk)) ?_
  rintro _ ⟨_, G2, rfl, hn2, rfl⟩
  clear hn2
  have e1 : verOut s v = ((((!decide (nameErr v.key 16 = 0) || decide (v.id < 1)) || decide (s.next ≤ v.id)) || decide (v.time < 0)) || decide (s.clock < v.time)) := by
   unfold verOut
   rw [h2]
   rfl
  simp only [go_sem, simprocAttr, h2]
  refine Wb_mk (fun h4 => ?_) (fun h4 => ?_)
  ·rw [← e1] at h4
   refine fin_retH (G := G0) Tryz.results109 ?_
   simp only [go_sem, simprocAttr]
   intro aa w' _ _
   unfold soundU
   rw [if_pos h4]
   exact ⟨rfl, rfl⟩
  ·rw [← e1] at h4
   have n1 : ¬ verOut s v = true := by rw [h4]; simp
   refine Wb_mk (fun h5 => ?_) (fun h5 => ?_)
   ·refine fin_retH (G := G0) Tryz.results109 ?_
    simp only [go_sem, simprocAttr]
    intro aa w' _ _
    unfold soundU
    rw [if_neg n1, if_pos h5]
    exact ⟨rfl, rfl⟩
   ·have n2 : ¬ v.marker = true := by rw [h5]; simp
    refine Wb_mk (fun h6 => ?_) (fun h6 => ?_)
    ·have h7 : 0 ≤ v.size ∧ v.size ≤ 600 := by simpa using h6
     simp only [go_sem, simprocAttr, h6]
     refine pk (callH_does ([]) ([]) ([usedR g u]) ([]) (fun r _ R _ => r = .bool (tieredU s v u).1 ∧ R = [usedR g (tieredU s v u).2]) upV rfl rfl (by kernel_rfl) rfl (dk rfl) rfl rfl (by simp [ids, Diff]) (by simp) (fun G hG hh hM => tiered_does hG.wf hh hM (IntsG.mono hg (hG.le G0 (by simp))) (IntsG.mono hs (hG.le G0 (by simp))) hu hi h7.1 (by omega)) (fun v css R G _ _ => upV_den css)) ?_
     rintro _ ⟨_, css, _, G3, ⟨rfl, rfl⟩, hcs, hle, rfl⟩
     simp only [go_sem, simprocAttr, h6]
     refine fin_retH (G := G0) Tryz.results109 ?_
     simp only [go_sem, simprocAttr]
     intro aa w' _ _
     unfold soundU
     rw [if_neg n1, if_neg n2, if_pos h6]
     exact ⟨rfl, rfl⟩
    ·simp only [go_sem, simprocAttr, h6]
     refine fin_retH (G := G0) Tryz.results109 ?_
     simp only [go_sem, simprocAttr]
     intro aa w' _ _
     unfold soundU
     rw [if_neg n1, if_neg n2, if_neg (by rw [h6]; simp)]
     exact ⟨rfl, rfl⟩
 ·have h4 : verOut s v = true := by
   unfold verOut
   rw [h2]
   simp
  simp only [go_sem, simprocAttr, h2]
  refine fin_retH (G := G0) Tryz.results109 ?_
  simp only [go_sem, simprocAttr]
  intro aa w' _ _
  unfold soundU
  rw [if_pos h4]
  exact ⟨rfl, rfl⟩
end Go.Proofs.YtohdfcnjcpjdcaaGreat
