/- What the laws' walks share: new devices, picked, outcomes turned. Conditions: as each law states them. -/
import Derived.Test.YtomfladifefomaaD7
import Derived.Test.YtomfladifefomaaPackBad
namespace Go.Proofs.Ytomfladifefomaa
open Go.RowKit
set_option linter.unusedSimpArgs false
theorem ret_mono {P : Program} {f : FuncId} {args : Array Value} {G : GW} {T T' : Value → GW → Prop} (h : Calls P f args G.w (Ret G T)) (k : ∀ v G', G.Le G' → T v G' → T' v G') : Calls P f args G.w (Ret G T') :=
  h.mono fun _ _ ⟨v, he, hT, hc⟩ => ⟨v, he, k v _ ⟨hc.size, fun i hi hm => ⟨hc.block i hi id, hm⟩⟩ hT, hc⟩
theorem wf_nonL (w : World) : GW.Wf ⟨Non, w⟩ := fun _ h => h.elim
theorem tidL {X : TypeId → Bool} {w : World} {n : Nat} {σ : St} {G : GW} (hn : Now ⟨w, Non, Non, n⟩ σ G) (hr : ∀ r ∈ σ.rows, X r.t = false) (hb : ∀ b ∈ σ.blks, X b.t = false) : Tid X G :=
  tid_now hn (fun _ h => h) (fun _ h => h.elim) (fun _ h => h.elim) hr hb
theorem tidM {X : TypeId → Bool} {E : Env} {σ : St} {G0 G : GW} (hn : Now E σ G) (hA : ∀ k, ¬ E.A k) (h0 : Tid X G0) (hW : G0.Wf) (e1 : E.M = G0.M) (e2 : E.W = G0.w) (hr : ∀ r ∈ σ.rows, X r.t = false) (hb : ∀ b ∈ σ.blks, X b.t = false) : Tid X G := by
  obtain ⟨M, w⟩ := G0
  subst e1; subst e2
  exact tid_now hn hA h0 (fun k hk => hW k hk) hr hb
theorem dev_get {G : GW} {v : Value} {err : Int} {d : Dev} (h : DevE G v err d) (he : err = 0) : ∃ dv, v = .tuple #[dv, .int .i64 0] ∧ DevG G dv d := by
  subst he
  obtain ⟨dv, e, h1, _⟩ := h
  exact ⟨dv, e, h1 rfl⟩
theorem dev_bad {G : GW} {v : Value} {err e : Int} {d : Dev} (h : DevE G v err d) (he : err = e) (h0 : e ≠ 0) : v = .tuple #[zeroDev, .int .i64 e] := by
  subst he
  obtain ⟨dv, rfl, _, h2⟩ := h
  rw [h2 h0]
theorem byt_get {G : GW} {v : Value} {err : Int} {bs : List UInt8} (h : BytE G v err bs) (he : err = 0) : ∃ u, v = .tuple #[u, .int .i64 0] ∧ ByG G u bs := by
  subst he
  obtain ⟨dv, e, h1, _⟩ := h
  exact ⟨dv, e, h1 rfl⟩
theorem byt_bad {G : GW} {v : Value} {err e : Int} {bs : List UInt8} (h : BytE G v err bs) (he : err = e) (h0 : e ≠ 0) : v = .tuple #[.slice none 0 0, .int .i64 e] := by
  subst he
  obtain ⟨dv, rfl, _, h2⟩ := h
  rw [h2 h0]
theorem new_does {g : Geo} (hg : GoodGeo g) {G : GW} (hW : G.Wf) (hT : Tid devX G) : Calls Try.prog 28 #[geoV g] G.w (Ret G fun v G' => ∃ dv, v = .tuple #[dv, .int .i64 0] ∧ DevG G' dv (newDev g)) :=
  ret_of (new_any g hg G.w) fun _ _ ⟨dv, he, hd, hb⟩ => ⟨_, he, ⟨dv, rfl, DevG.of hd (tid_chg hT hW (Chg.of_below hb))⟩, hb⟩
theorem small_does (G : GW) : Calls Try.prog 27 #[] G.w (Ret G fun v _ => v = .agg #[.int .i64 6, .int .i64 2, .int .i64 6, .int .i64 300, .int .i64 3]) :=
  ret_of (small_any G.w) fun _ _ ⟨he, hb⟩ => ⟨_, he, rfl, hb⟩
theorem picked_does {n m : Int} {G : GW} (h1 : -9223372036854775808 ≤ n) (h2 : n ≤ 9223372036854775807) (h3 : 0 < m) (h4 : m ≤ 1000000000) : Calls Try.prog 25 #[.int .i64 n, .int .i64 m] G.w (Ret G fun v _ => ∃ k : Nat, (k : Int) = pick n m ∧ k < m ∧ v = .int .i64 (k : Int)) := by
  refine ret_of (picked_any n m G.w h1 h2 h3 h4) fun e w' ⟨he, hw⟩ => ?_
  subst hw
  obtain ⟨p1, p2⟩ := pick_bd n m h3
  obtain ⟨k, hk⟩ := Int.eq_ofNat_of_zero_le p1
  exact ⟨_, he, ⟨k, hk.symm, by omega, by rw [hk]⟩, Below.refl _ _⟩
end Go.Proofs.Ytomfladifefomaa
