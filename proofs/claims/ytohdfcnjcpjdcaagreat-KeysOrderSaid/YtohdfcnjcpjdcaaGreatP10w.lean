/- What 'slices.Insert' does with a row: zero values put behind a cut of it in a new block, 'copy' into a block of the call's own, slices that do not overlap. Names no program. Conditions: as each law states them. -/
import Derived.Test.YtohdfcnjcpjdcaaGreatPAw
import Derived.Lib.Overlaps
import Derived.Lib.AppendZerosOnto
namespace Go.Proofs.YtohdfcnjcpjdcaaGreat
open Go.RowKit
set_option linter.unusedSimpArgs false
section
variable {P : Program} {E : Env} {σ : St} {o : Oper}
theorem range_cells {w : World} {g : Nat} {t : TypeId} {cs : List SC} (h : Blk w g t (dens cs)) (off : Nat) : ∀ j u, ((cs.map SC.den).drop off)[j]? = some u → w.cell? ((⟨g, off, none⟩ : Addr).add j) = some u := by
 intro j u hj
 rw [Addr.add_mid, h.cell]
 rw [List.getElem?_drop] at hj
 simpa [dens] using hj
/-- 'copy' into a block of one's own -/
theorem ownCopy_does {d s : Operand} {t e k nd cd ns cs id off : Nat} {ad : Addr} {news : List Value} {b : Bl} (q : Nat) (hq : Nat.min ns nd = q) (ho : o.op = .call ⟨.builtin .copy, #[d, s], #[t, t]⟩) (ht : tSlice P t = some e) (hk : tSize P e = some k)
  (hb : getBl σ.blks id = some b) (hdv : ev σ d = some (.c (.v (.slice (some ⟨b.g, off, none⟩) nd cd)))) (hs : ev σ s = some (.c (.v (.slice (some ad) ns cs)))) (hd : dOk E o.dst) (h1 : ∀ u ∈ news, u.oneCell' = true)
  (hl : off + q * k ≤ b.cs.length) (hnl : news.length = q * k) (hn : ∀ G : GW, Now E σ G → ∀ j u, news[j]? = some u → G.w.cell? (ad.add j) = some u) :
  Does P E σ o (fun σ' => σ' = (σ.set id off (news.map .v)).put o.dst (.c (.v (.int .i64 (q : Int))))) := by
 subst hq
 intro a w Q next hr hnx
 obtain ⟨inf, hinf, hsz⟩ := tSize_spec hk
 have hd' : a.eval d = .slice (some ⟨b.g, off, none⟩) nd cd := ev_den hr.see hdv
 have hs' : a.eval s = .slice (some ad) ns cs := ev_den hr.see hs
 have hfit : off + news.length ≤ b.cs.length := by rw [hnl]; exact hl
 have hfo := run_firstCells_some (P := P) w k (Nat.min ns nd) ad ns cs news hnl (hn _ hr.now)
 have hst := store_own (P := P) hr hb (off := off) (news.map .v) (by simpa using hfit) (ones_map h1)
 rw [den_flat] at hst
 have hrun : (Builtin.copy_ #[t, t] o.type #[.slice (some ⟨b.g, off, none⟩) nd cd, .slice (some ad) ns cs]).run P w = .ok (.int .i64 (Nat.min ns nd : Nat)) (w.setRow b.g (dens (putCs b.cs off (news.map .v)))) := by
  simp [Builtin.copy_, run_underlying (tSlice_spec ht), Builtin.lenOf, sizeOf, typeInfo, hinf, hsz, hfo, hst, goInt]
 unfold Oper.wp execOp
 simp only [ho, resolve, invoke, builtin, Sem.run_bind, Sem.run_pure, Result.andThen_ok, List.map_toArray, List.map_cons, List.map_nil, hd', hs', hrun]
 exact hnx _ _ _ rfl ((hr.set hb (by simpa using hfit)).put o.dst (.c (.v (.int .i64 (Nat.min ns nd : Nat)))) (dOk_lt hd))
/-- zero values behind a cut of one's own block that has no room: a new block -/
theorem growZeros_does {s x : Operand} {t tn e kc by_ i m c id N : Nat} {kn kq : IntKind} {z : List Value} {css : List (List Value)} {b : Bl} {j : Int} (hN : i + m = N) (ho : o.op = .call ⟨.builtin .append, #[s, x], #[t, tn]⟩) (ht : tSlice P t = some e) (htn : tInt P tn = some kn) (ha : tApp P e = some (kc, by_)) (hz : tZero P e = some z)
  (hb : getBl σ.blks id = some b) (hs : ev σ s = some (.c (.v (.slice (some ⟨b.g, 0, none⟩) i c)))) (hx : ev σ x = some (.c (.v (.int kq j)))) (hj : j = (m : Int)) (hd : dOk E o.dst)
  (hm : 0 < m) (hroom : c < N) (hl : i * kc ≤ b.cs.length) (h63 : N ≤ maxLen) (hbt : N * by_ ≤ 140737488355328) (hcs : (b.cs.map SC.den).take (i * kc) = css.flatten) :
  Does P E σ o (fun σ' => ∃ g c', N ≤ c' ∧ c' ≤ maxLen ∧ σ' = (σ.add g e ((css ++ List.replicate (c' - i) z).flatten.map .v)).put o.dst (.c (.v (.slice (some ⟨g, 0, none⟩) N c')))) := by
 intro a w Q next hr hnx
 subst hj
 subst hN
 obtain ⟨inf, zv, hi, hzv, hk, hby, hzs, h0⟩ := tApp_spec ha
 obtain ⟨inf', zv', hi', hzv', hzl⟩ := tZero_spec hz
 rw [hi] at hi'; cases hi'
 rw [hzv] at hzv'; cases hzv'
 have hs' : a.eval s = .slice (some ⟨b.g, 0, none⟩) i c := ev_den hr.see hs
 have hx' : a.eval x = .int kq (m : Int) := ev_den hr.see hx
 have hB : Blk w b.g b.t (dens b.cs) := hr.blks b (getBl_mem hb)
 have hfo := run_firstCells_some (P := P) w.drew kc i ⟨b.g, 0, none⟩ i c css.flatten (by rw [← hcs]; simp; omega) (fun j u hj => by
  rw [← hcs, List.getElem?_take] at hj
  split at hj
  ·exact range_cells hB 0 j u (by rw [List.drop_zero]; exact hj)
  ·cases hj)
 subst hby
 have hmb : m * inf.bytes ≤ 140737488355328 := Nat.le_trans (Nat.mul_le_mul_right _ (by omega)) hbt
 have hr1 := Lib.run_append_grow_zeros (P := P) w t tn o.type e inf zv kq kn (tSlice_spec ht) (tInt_spec htn) hi hzv (some ⟨b.g, 0, none⟩) i c css.flatten (by rw [hk]; exact hfo) m hm (by omega) hroom (by unfold maxLen at h63; omega) (by omega) (growslice_fits (need := i + m) (old := c) (bytes := inf.bytes) (by omega) hbt)
 have hge := grownCap_ge w (i + m) c e
 have hcm := grownCap_le_maxLen w (i + m) c e h63
 generalize grownCap w (i + m) c e = c' at hr1 hge hcm
 have ecs : css.flatten.toArray ++ Builtin.zeroCells zv.cells m ++ Builtin.zeroCells zv.cells (c' - (i + m)) = dens ((css ++ List.replicate (c' - i) z).flatten.map .v) := by
  apply Array.ext'
  rw [dens_v]
  simp only [Array.toList_append, zero_cells_flat, hzl, List.append_assoc, List.flatten_append]
  rw [← List.flatten_append, List.replicate_append_replicate, show m + (c' - (i + m)) = c' - i from by omega]
 rw [ecs] at hr1
 unfold Oper.wp execOp
 simp only [ho, resolve, invoke, builtin, Sem.run_bind, Sem.run_pure, Result.andThen_ok, List.map_toArray, List.map_cons, List.map_nil, hs', hx', hr1]
 exact hnx _ _ _ ⟨w.heap.size, c', hge, hcm, rfl⟩ (((hr.drew).add e _).put o.dst (.c (.v (.slice (some ⟨w.heap.size, 0, none⟩) (i + m) c'))) (dOk_lt hd))
/-- a block that nobody writes and that holds just this -/
def VarG (G : GW) (g : Nat) (t : TypeId) (cs : List Value) : Prop := ¬ G.M g ∧ Blk G.w g t cs.toArray
theorem VarG.mono {G G' : GW} {g : Nat} {t : TypeId} {cs : List Value} (h : VarG G g t cs) (hl : G.Le G') : VarG G' g t cs := by
 obtain ⟨e, n⟩ := hl.keep g h.2.lt h.1
 exact ⟨n, e.trans h.2⟩
theorem VarG.sl {G : GW} {g k : Nat} {t : TypeId} {cs : List Value} (h : VarG G g t cs) (hk : cs.length = k) : Sl G t k 1 (.slice (some ⟨g, 0, none⟩) 1 1) cs :=
 ⟨_, 1, rfl, Nat.le_refl _, by unfold maxLen; omega, by omega, fun _ => ⟨g, 0, cs.toArray, (0, 0), rfl, h.1, h.2, fun j u hj => by simpa using hj⟩⟩
theorem VarG.cells {G : GW} {g : Nat} {t : TypeId} {cs : List Value} (h : VarG G g t cs) : ∀ j u, cs[j]? = some u → G.w.cell? ((⟨g, 0, none⟩ : Addr).add j) = some u := fun j u hj => by
 rw [Addr.add_mid, Nat.zero_add, h.2.cell]
 simpa using hj
/-- a slice in a block that nobody writes, and one in a block of one's own, do not overlap -/
theorem overlaps_does {f tS tR : TypeId} {x y : Operand} {e la ca lb cb off id vb size : Nat} {tv : TypeId} {cv : List Value} {b : Bl} {fn : Func} {c : Call} (ho : o.op = .call c) (hcal : c.callee = .value (.func f)) (hargs : c.args = #[x, y]) (hf : P.funcs[f]? = some fn) (hname : (fn.name == "runtime.NumGoroutine") = false)
  (hbd : fn.body.isNone = true) (hn : Extern.findNext fn = none) (he : Extern.find fn = some (Extern.SlicesOverlaps.overlaps #[tS, tS] #[tR])) (ht : tSlice P tS = some e) (hk : tSize P e = some size) (hb : getBl σ.blks id = some b) (hx : ev σ x = some (.c (.v (.slice (some ⟨vb, 0, none⟩) la ca)))) (hy : ev σ y = some (.c (.v (.slice (some ⟨b.g, off, none⟩) lb cb))))
  (hd : dOk E o.dst) (hb0 : b.cs ≠ []) (hv : ∀ G : GW, Now E σ G → VarG G vb tv cv) :
  Does P E σ o (fun σ' => σ' = σ.put o.dst (.c (.v (.bool false)))) := by
 intro a w Q next hr hnx
 have hx' : a.eval x = .slice (some ⟨vb, 0, none⟩) la ca := ev_den hr.see hx
 have hy' : a.eval y = .slice (some ⟨b.g, off, none⟩) lb cb := ev_den hr.see hy
 obtain ⟨hm, hvb⟩ := hv _ hr.now
 have hvb : w.heap[vb]? = some (.cells cv.toArray tv (0, 0)) := hvb
 have hB : Blk w b.g b.t (dens b.cs) := hr.blks b (getBl_mem hb)
 obtain ⟨inf, hinf, hsz⟩ := tSize_spec hk
 have hne : vb ≠ b.g := fun e => hm (by rw [e]; exact hr.now.mine b (getBl_mem hb))
 have hov := Lib.run_overlaps_apart (P := P) w tS tR e (tSlice_spec ht) size (fun w => by simp [sizeOf, typeInfo, hinf, hsz]) ⟨vb, 0, none⟩ ⟨b.g, off, none⟩ la ca lb cb hne tv b.t cv.toArray.size (dens b.cs).size
  (by unfold World.shape?; rw [hvb]) (by unfold World.shape?; rw [show w.heap[(⟨b.g, off, none⟩ : Addr).block]? = _ from hB]) (by simp [dens]; exact hb0)
  (by unfold World.frozen?; rw [hvb]; simp) (by unfold World.frozen?; rw [hvb]; simp)
 have hrun : (execOp a.eval o).run P w = .ok (.value (.bool false)) w := by
  have ha : c.args.map a.eval = #[.slice (some ⟨vb, 0, none⟩) la ca, .slice (some ⟨b.g, off, none⟩) lb cb] := by rw [hargs]; simp only [List.map_toArray, List.map_cons, List.map_nil, hx', hy']
  have hfv : a.eval (.func f) = .func (.func f) #[] #[] := rfl
  unfold execOp
  simp only [ho, resolve, hcal, ha, hfv, Deferred.ofValue, Sem.run_bind, Sem.run_pure, Result.andThen_ok, invoke, Array.empty_append, Array.append_empty, run_callFunc_extern hf hname hbd hn he, hov]
 exact wp_of_value hrun (hnx _ _ _ rfl (hr.put o.dst (.c (.v _)) (dOk_lt hd)))
end
end Go.Proofs.YtohdfcnjcpjdcaaGreat
