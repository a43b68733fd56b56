/- Devices over worlds in which somebody writes: readings that stay; what own and spend hand over. Conditions: as each law states them. -/
import Derived.Test.YtomfladifefomaaT13
import Derived.Test.YtomfladifefomaaSf
import Derived.Test.YtomfladifefomaaTy
namespace Go.Proofs.Ytomfladifefomaa
open Go.RowKit
set_option linter.unusedSimpArgs false
def ByG (G : GW) (v : Value) (bs : List UInt8) : Prop := Byt 5 G v bs
theorem ByG.mono {G G' : GW} {v : Value} {bs : List UInt8} (h : ByG G v bs) (hl : G.Le G') : ByG G' v bs := Sl.mono h hl
theorem ByG.r {G : GW} {v : Value} {bs : List UInt8} (h : ByG G v bs) : BytesR G.w v bs := Sl.tsl h
theorem ByG.form {G : GW} {v : Value} {bs : List UInt8} (h : ByG G v bs) : ∃ A c, v = .slice A bs.length c ∧ bs.length ≤ c ∧ c ≤ maxLen := let ⟨A, c, e, h1, h2, _⟩ := h; ⟨A, c, e, h1, h2⟩
def RowG (G : GW) (x : List UInt8) (cs : List Value) : Prop := ∃ u, cs = [u] ∧ ByG G u x
def WrG (G : GW) (x : Wr) (cs : List Value) : Prop := ∃ u, cs = [.int .i64 x.at_, u] ∧ ByG G u x.data
def VolG (G : GW) (x : Vol) (cs : List Value) : Prop := ∃ u, cs = [u, .int .i64 x.synced, .bool x.gone] ∧ ByG G u x.data
theorem rowG_mono : MonoR RowG := fun _ _ _ _ hl ⟨u, e, h⟩ => ⟨u, e, h.mono hl⟩
theorem wrG_mono : MonoR WrG := fun _ _ _ _ hl ⟨u, e, h⟩ => ⟨u, e, h.mono hl⟩
theorem volG_mono : MonoR VolG := fun _ _ _ _ hl ⟨u, e, h⟩ => ⟨u, e, h.mono hl⟩
def SafG (G : GW) (v : Value) (l : List (List UInt8)) : Prop := Sq RowG 23 1 G v l
def CacG (G : GW) (v : Value) (l : List Wr) : Prop := Sq WrG 61 2 G v l
def VosG (G : GW) (v : Value) (l : List Vol) : Prop := Sq VolG 104 3 G v l
def DevG (G : GW) (dv : Value) (d : Dev) : Prop := ∃ s c v, dv = .agg #[s, c, v, .int .i64 d.fuel] ∧ SafG G s d.safe ∧ CacG G c d.cache ∧ VosG G v d.vols
theorem DevG.mono {G G' : GW} {dv : Value} {d : Dev} (h : DevG G dv d) (hl : G.Le G') : DevG G' dv d := by
  obtain ⟨s, c, v, rfl, h1, h2, h3⟩ := h
  exact ⟨s, c, v, rfl, Sq.mono h1 rowG_mono hl, Sq.mono h2 wrG_mono hl, Sq.mono h3 volG_mono hl⟩
theorem sq_seq {α : Type} {R : GW → α → List Value → Prop} {R' : World → α → List Value → Prop} {G : GW} {t k : Nat} {v : Value} {l : List α} (h : Sq R t k G v l) (hr : ∀ x cs, R G x cs → R' G.w x cs) : SeqR R' t k G.w v l := by
  obtain ⟨css, he, hs⟩ := h
  exact ⟨css, ⟨he.1, he.2.1, fun i cs x h1 h2 => hr _ _ (he.2.2 i cs x h1 h2)⟩, hs.tsl⟩
theorem DevG.r {G : GW} {dv : Value} {d : Dev} (h : DevG G dv d) : DevR G.w dv d := by
  obtain ⟨s, c, v, rfl, h1, h2, h3⟩ := h
  exact ⟨s, c, v, rfl, sq_seq h1 fun _ _ ⟨u, e, h⟩ => ⟨u, e, h.r⟩, sq_seq h2 fun _ _ ⟨u, e, h⟩ => ⟨u, e, h.r⟩, sq_seq h3 fun _ _ ⟨u, e, h⟩ => ⟨u, e, h.r⟩⟩
theorem DevG.form {G : GW} {dv : Value} {d : Dev} (h : DevG G dv d) : ∃ A1 c1 A2 c2 A3 c3, dv = .agg #[.slice A1 d.safe.length c1, .slice A2 d.cache.length c2, .slice A3 d.vols.length c3, .int .i64 d.fuel] ∧
    SafG G (.slice A1 d.safe.length c1) d.safe ∧ CacG G (.slice A2 d.cache.length c2) d.cache ∧ VosG G (.slice A3 d.vols.length c3) d.vols := by
  obtain ⟨s', c', v', rfl, h1, h2, h3⟩ := h
  obtain ⟨A1, c1, rfl, _⟩ := Sq.form h1
  obtain ⟨A2, c2, rfl, _⟩ := Sq.form h2
  obtain ⟨A3, c3, rfl, _⟩ := Sq.form h3
  exact ⟨A1, c1, A2, c2, A3, c3, rfl, h1, h2, h3⟩
theorem sl_of {X : TypeId → Bool} {G : GW} {t k n : Nat} {v : Value} {cells : List Value} (h : TSl G.w t k n v cells) (hT : Tid X G) (hx : X t = true) : Sl G t k n v cells := by
  obtain ⟨A, c, rfl, h1, h2, h3, h4⟩ := h
  refine ⟨A, c, rfl, h1, h2, h3, fun hn => ?_⟩
  obtain ⟨g, o, cur, fr, e, hb, hc⟩ := h4 hn
  exact ⟨g, o, cur, fr, e, (fun hm => by have := hT g hm cur _ fr hb; rw [hx] at this; cases this), hb, hc⟩
theorem sq_of {X : TypeId → Bool} {α : Type} {R : GW → α → List Value → Prop} {R' : World → α → List Value → Prop} {G : GW} {t k : Nat} {v : Value} {l : List α} (h : SeqR R' t k G.w v l) (hr : ∀ x cs, R' G.w x cs → R G x cs) (hT : Tid X G) (hx : X t = true) : Sq R t k G v l := by
  obtain ⟨css, he, hs⟩ := h
  exact ⟨css, ⟨he.1, he.2.1, fun i cs x h1 h2 => hr _ _ (he.2.2 i cs x h1 h2)⟩, sl_of hs hT hx⟩
theorem DevG.of {G : GW} {dv : Value} {d : Dev} (h : DevR G.w dv d) (hT : Tid devX G) : DevG G dv d := by
  obtain ⟨s, c, v, rfl, h1, h2, h3⟩ := h
  have hb : ∀ u bs, BytesR G.w u bs → ByG G u bs := fun u bs h => sl_of h hT rfl
  exact ⟨s, c, v, rfl, sq_of h1 (fun _ _ ⟨u, e, h⟩ => ⟨u, e, hb _ _ h⟩) hT rfl, sq_of h2 (fun _ _ ⟨u, e, h⟩ => ⟨u, e, hb _ _ h⟩) hT rfl, sq_of h3 (fun _ _ ⟨u, e, h⟩ => ⟨u, e, hb _ _ h⟩) hT rfl⟩
/-- nobody writes bytes -/
def bX (t : TypeId) : Bool := t == 5
theorem bX_devX : ∀ t, bX t = true → devX t = true := fun t h => by
  have e : t = 5 := by simpa [bX] using h
  subst e; rfl
theorem sq_row {α : Type} {R : GW → α → List Value → Prop} {G G' : GW} {t k n : Nat} {v : Value} {css : List (List Value)} {l : List α} (he : ElG R k G css l) (hm : MonoR R) (hl : G.Le G') (hn : n = l.length) (hs : Sl G' t k n v css.flatten) : Sq R t k G' v l := by
  subst hn; exact ⟨css, he.mono hm hl, hs⟩
/-- what own hands over -/
def OwnT (d : Dev) (u : Value) (R : List Rw) (G : GW) : Prop := ∃ A1 k1 A2 k2 A3 k3 c1 c2 c3, u = .agg #[.slice A1 d.safe.length k1, .slice A2 d.cache.length k2, .slice A3 d.vols.length k3, .int .i64 d.fuel] ∧
  R = [⟨.slice A1 d.safe.length k1, 23, 1, d.safe.length, c1.flatten⟩, ⟨.slice A2 d.cache.length k2, 61, 2, d.cache.length, c2.flatten⟩, ⟨.slice A3 d.vols.length k3, 104, 3, d.vols.length, c3.flatten⟩] ∧
  ElG RowG 1 G c1 d.safe ∧ ElG WrG 2 G c2 d.cache ∧ ElG VolG 3 G c3 d.vols
theorem owns_type {w : World} {base t k n g : Nat} {v : Value} {xs : List Value} (h : w.ownsRow base t k v n xs) (hg : v.ownBlock = some g) : ∃ cur, w.heap[g]? = some (.cells cur t (0, 0)) := by
  rcases h.2 with ⟨e, _⟩ | ⟨g', cap, cur, e, _, hb, _⟩
  · rw [e] at hg; cases hg
  · rw [e] at hg; cases hg; exact ⟨cur, hb⟩
theorem owns_apart {w : World} {b1 b2 t1 t2 k1 k2 n1 n2 : Nat} {v1 v2 : Value} {x1 x2 : List Value} (h1 : w.ownsRow b1 t1 k1 v1 n1 x1) (h2 : w.ownsRow b2 t2 k2 v2 n2 x2) (ht : t1 ≠ t2) : ∀ k, v1.ownBlock = some k → v2.ownBlock ≠ some k := by
  intro k e1 e2
  obtain ⟨c1, g1⟩ := owns_type h1 e1
  obtain ⟨c2, g2⟩ := owns_type h2 e2
  rw [g1] at g2
  cases g2
  exact ht rfl
theorem tid_chg {X : TypeId → Bool} {G : GW} {w' : World} (hT : Tid X G) (hW : G.Wf) (hc : Chg Non G.w w') : Tid X ⟨G.M, w'⟩ := fun k hk cur t fr hb => hT k hk cur t fr ((hc.block k (hW k hk) id).symm.trans hb)
theorem own_rows {G : GW} {w' : World} {dv : Value} {d : Dev} (h : OwnDev G.w.heap.size w' dv d) (hT : Tid bX G) (hW : G.Wf) (hc : Chg Non G.w w') :
    ∃ R, (∀ r ∈ R, w'.ownsRow G.w.heap.size r.t r.k r.v r.n r.xs) ∧ RApart R ∧ OwnT d dv R ⟨fun k => G.M k ∨ ∃ r ∈ R, r.v.ownBlock = some k, w'⟩ := by
  obtain ⟨s, c, v, V, css, rfl, ⟨c1, e1, o1⟩, ⟨c2, e2, o2⟩, hk, hb, e3, o3, hp⟩ := h
  obtain ⟨A1, k1, rfl, _⟩ := ownsRow_form o1
  obtain ⟨A2, k2, rfl, _⟩ := ownsRow_form o2
  obtain ⟨A3, k3, rfl, _⟩ := ownsRow_form o3
  have o1' := ownsRow_keep o1 hk rfl
  have o2' := ownsRow_keep o2 hk rfl
  obtain ⟨R, hR⟩ : ∃ R : List Rw, R = [⟨.slice A1 d.safe.length k1, 23, 1, d.safe.length, c1.flatten⟩, ⟨.slice A2 d.cache.length k2, 61, 2, d.cache.length, c2.flatten⟩, ⟨.slice A3 d.vols.length k3, 104, 3, d.vols.length, css.flatten⟩] := ⟨_, rfl⟩
  have hown : ∀ r ∈ R, w'.ownsRow G.w.heap.size r.t r.k r.v r.n r.xs := by
    rw [hR]
    simp only [List.forall_mem_cons]
    exact ⟨o1', o2', o3, fun _ h => by cases h⟩
  have hTy : ∀ r ∈ R, bX r.t = false := by
    rw [hR]
    simp only [List.forall_mem_cons]
    exact ⟨rfl, rfl, rfl, fun _ h => by cases h⟩
  have hT' : Tid bX ⟨fun k => G.M k ∨ ∃ r ∈ R, r.v.ownBlock = some k, w'⟩ := by
    intro k hk cur t fr hb
    rcases hk with hk | ⟨r, hr, e⟩
    · exact tid_chg hT hW hc k hk cur t fr hb
    · obtain ⟨cur', hb'⟩ := owns_type (hown r hr) e
      have hb2 : w'.heap[k]? = some (.cells cur t fr) := hb
      rw [hb'] at hb2
      cases hb2
      exact hTy r hr
  have hby : ∀ u bs, BytesR w' u bs → ByG ⟨fun k => G.M k ∨ ∃ r ∈ R, r.v.ownBlock = some k, w'⟩ u bs := fun u bs h => sl_of (X := bX) (G := ⟨fun k => G.M k ∨ ∃ r ∈ R, r.v.ownBlock = some k, w'⟩) h hT' rfl
  refine ⟨R, hown, ?_, A1, k1, A2, k2, A3, k3, c1, c2, css, rfl, hR, ?_, ?_, ?_⟩
  · rw [hR]
    refine List.Pairwise.cons (fun r hr => ?_) (List.Pairwise.cons (fun r hr => ?_) (List.pairwise_singleton _ _))
    · simp only [List.mem_cons, List.not_mem_nil, or_false] at hr
      rcases hr with rfl | rfl
      · exact owns_apart o1' o2' (by decide)
      · exact owns_apart o1' o3 (by decide)
    · simp only [List.mem_cons, List.not_mem_nil, or_false] at hr
      subst hr
      exact owns_apart o2' o3 (by decide)
  · exact ⟨e1.1, e1.2.1, fun i cs x h1 h2 => let ⟨u, e, h⟩ := e1.2.2 i cs x h1 h2; ⟨u, e, hby _ _ (h.keep (X := diskX) rfl hk)⟩⟩
  · exact ⟨e2.1, e2.2.1, fun i cs x h1 h2 => let ⟨u, e, h⟩ := e2.2.2 i cs x h1 h2; ⟨u, e, hby _ _ (h.keep (X := diskX) rfl hk)⟩⟩
  · exact ⟨e3.1, e3.2.1, fun i cs x h1 h2 => let ⟨u, e, h⟩ := e3.2.2 i cs x h1 h2; ⟨u, e, hby _ _ (TSl.of_own h)⟩⟩
theorem own_does (d : Dev) (dv : Value) (G : GW) (h : DevG G dv d) (hT : Tid bX G) (hW : G.Wf) {g : Geo} (hg : GoodGeo g) (hd : GoodDev g d) :
    Calls Try.prog 62 #[dv] G.w (RetO G fun u R G' => OwnT d u R G') := by
  obtain ⟨l1, l2, l3, l4, l5, l6⟩ := hd.lens hg
  refine (own_any d dv G.w h.r l1 l2 l3 l4 l5 l6).mono ?_
  rintro e w' ⟨dv', rfl, ho, hb⟩
  obtain ⟨R, h1, h2, h3⟩ := own_rows ho hT hW (Chg.of_below hb)
  exact ⟨dv', R, rfl, h1, h2, h3, Chg.of_below hb⟩
theorem spend_does (g : Geo) (hg : GoodGeo g) (d : Dev) (hd : GoodDev g d) (hf : d.fuel ≠ 0) (dv : Value) (G : GW) (h : DevG G dv d) (hT : Tid bX G) (hW : G.Wf) :
    Calls Try.prog 60 #[geoV g, dv] G.w (RetO G fun v R G' => ∃ u, v = .tuple #[u, .int .i64 0] ∧ OwnT (spent d) u R G') := by
  refine (spend_ok g hg d hd hf dv G.w h.r).mono ?_
  rintro e w' ⟨dv', rfl, ho, hb⟩
  obtain ⟨R, h1, h2, h3⟩ := own_rows ho hT hW (Chg.of_below hb)
  exact ⟨_, R, rfl, h1, h2, ⟨dv', rfl, h3⟩, Chg.of_below hb⟩
/-- devices, or an error -/
def DevE (G : GW) (v : Value) (err : Int) (d : Dev) : Prop := ∃ dv, v = .tuple #[dv, .int .i64 err] ∧ (err = 0 → DevG G dv d) ∧ (err ≠ 0 → dv = zeroDev)
end Go.Proofs.Ytomfladifefomaa
