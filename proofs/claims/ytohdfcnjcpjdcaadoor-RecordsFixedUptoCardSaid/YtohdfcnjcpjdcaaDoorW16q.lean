/- What is written is read again: in plain words. Conditions: as each law states them. -/
import Derived.Test.YtohdfcnjcpjdcaaDoorW15q
namespace Go.Proofs.YtohdfcnjcpjdcaaDoor
open Go.RowKit
set_option linter.unusedSimpArgs false
theorem rw_its : RW its itB (fun l => l.length < 256 ∧ ∀ z ∈ l, 0 ≤ z ∧ z < 256) := rw_mny (rw_tk 1 256 (by omega) valB_1) fun _ _ => rfl
def okRl (y : Rul) : Prop := y.pre.size < 256 ∧ (0 ≤ y.freeze + 1 ∧ y.freeze + 1 < 4294967296) ∧ (0 ≤ y.drop + 1 ∧ y.drop + 1 < 4294967296)
theorem rw_rl : RW rl ruB okRl :=
  (RW.seq rw_tx (RW.seq (rw_tk 4 4294967296 (by omega) valB_4) ((rw_tk 4 4294967296 (by omega) valB_4)))).map (fun p => (⟨p.1, p.2.1 - 1, p.2.2 - 1⟩ : Rul)) (fun y => (y.pre, (y.freeze + 1, y.drop + 1)))
    (by intro s; simp only [sq2, rl]) (by intro y; simp only [ruB]) (by intro y; simp only [Int.add_sub_cancel]) (by intro y h; exact h)
def okPt (y : Prt) : Prop := (0 ≤ y.n ∧ y.n < 256) ∧ (0 ≤ y.size ∧ y.size < 65536) ∧ (y.secs.length < 256 ∧ ∀ z ∈ y.secs, 0 ≤ z ∧ z < 256)
theorem rw_pt : RW pt ptB okPt :=
  (RW.seq (rw_tk 1 256 (by omega) valB_1) (RW.seq (rw_tk 2 65536 (by omega) valB_2) (rw_its))).map (fun p => (⟨p.1, p.2.1, p.2.2⟩ : Prt)) (fun y => (y.n, (y.size, y.secs)))
    (by intro s; simp only [sq2, pt, pt1, pt2, pt3]) (by intro y; simp only [ptB]) (by intro y; rfl) (by intro y h; exact h)
def okAk (y : Ask) : Prop := (0 ≤ y.ver ∧ y.ver < 16777216) ∧ (0 ≤ y.days ∧ y.days < 65536) ∧ (0 ≤ y.cls ∧ y.cls < 256)
theorem rw_ak : RW ak akB okAk :=
  (RW.seq (rw_tk 3 16777216 (by omega) valB_3) (RW.seq (rw_tk 2 65536 (by omega) valB_2) ((rw_tk 1 256 (by omega) valB_1)))).map (fun p => (⟨p.1, p.2.1, p.2.2⟩ : Ask)) (fun y => (y.ver, (y.days, y.cls)))
    (by intro s; simp only [sq2, ak, ak1, ak2, ak3]) (by intro y; simp only [akB]) (by intro y; rfl) (by intro y h; exact h)
def okVr (y : Ver) : Prop := (0 ≤ y.id ∧ y.id < 16777216) ∧ y.bucket.size < 256 ∧ y.key.size < 256 ∧ True ∧ True ∧ (0 ≤ y.size ∧ y.size < 65536) ∧ (0 ≤ y.time ∧ y.time < 4294967296) ∧ (0 ≤ y.tier ∧ y.tier < 256) ∧ (y.secs.length < 256 ∧ ∀ z ∈ y.secs, 0 ≤ z ∧ z < 256) ∧ (0 ≤ y.vol ∧ y.vol < 256) ∧ (0 ≤ y.at_ ∧ y.at_ < 65536) ∧ (0 ≤ y.till ∧ y.till < 4294967296)
theorem rw_vr : RW vr vrB okVr :=
  (RW.seq (rw_tk 3 16777216 (by omega) valB_3) (RW.seq rw_tx (RW.seq rw_tx (RW.seq rw_bt (RW.seq rw_bt (RW.seq (rw_tk 2 65536 (by omega) valB_2) (RW.seq (rw_tk 4 4294967296 (by omega) valB_4) (RW.seq (rw_tk 1 256 (by omega) valB_1) (RW.seq rw_its (RW.seq (rw_tk 1 256 (by omega) valB_1) (RW.seq (rw_tk 2 65536 (by omega) valB_2) ((rw_tk 4 4294967296 (by omega) valB_4))))))))))))).map (fun p => (⟨p.1, p.2.1, p.2.2.1, p.2.2.2.1, p.2.2.2.2.1, p.2.2.2.2.2.1, p.2.2.2.2.2.2.1, p.2.2.2.2.2.2.2.1, p.2.2.2.2.2.2.2.2.1, p.2.2.2.2.2.2.2.2.2.1, p.2.2.2.2.2.2.2.2.2.2.1, p.2.2.2.2.2.2.2.2.2.2.2⟩ : Ver)) (fun y => (y.id, (y.bucket, (y.key, (y.null, (y.marker, (y.size, (y.time, (y.tier, (y.secs, (y.vol, (y.at_, y.till))))))))))))
    (by intro s; simp only [sq2, vr, vr1, vr2, vr3, vr4, vr5, vr6, vr7, vr8, vr9, vr10, vr11, vr12]) (by intro y; simp only [vrB]) (by intro y; rfl) (by intro y h; exact h)
end Go.Proofs.YtohdfcnjcpjdcaaDoor
