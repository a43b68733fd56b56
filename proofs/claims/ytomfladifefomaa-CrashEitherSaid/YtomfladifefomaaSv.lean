/- Texts as bytes, bytes as texts, cuts of slices. Names no program. Conditions: as each law states them. -/
import Derived.Test.YtomfladifefomaaSq
namespace Go.Proofs.Ytomfladifefomaa
open Go.RowKit
/-- bytes that nobody writes; e: the type of bytes -/
def Byt (e : TypeId) (G : GW) (v : Value) (bs : List UInt8) : Prop := Sl G e 1 bs.length v (bs.map enc8)
section
variable {P : Program} {E : Env} {σ : St} {o : Oper}
theorem tInt_spec {t : TypeId} {k : IntKind} (h : tInt P t = some k) : P.underlying t = some (.int k) := by
  unfold tInt at h
  split at h
  · rename_i hh; cases h; exact hh
  · cases h
theorem tStr_spec {t : TypeId} (h : tStr P t = true) : P.underlying t = some .string := by
  unfold tStr at h
  split at h
  · rename_i hh; exact hh
  · cases h
theorem chg_bytes (W : World) (e : TypeId) (s : ByteArray) : Chg Non W (Lib.bytesWorld W e s) := by
  refine ⟨?_, ?_, ?_, by rw [Lib.bytesWorld_size]; omega, fun k hk _ => Lib.bytesWorld_at_old W e s k hk⟩
  all_goals
    unfold Lib.bytesWorld World.freeze
    rw [if_neg (by omega)]
    rfl
/-- a text as bytes -/
theorem bytes_does {src dst e : TypeId} {x : Operand} {s : ByteArray} (ho : o.op = .convert src dst x) (h1 : tStr P src = true) (h2 : tSlice P dst = some e) (h3 : tInt P e = some .u8)
    (hx : ev σ x = some (.c (.v (.string s)))) (hd : dOk E o.dst) (hsz : s.size ≤ 1000000) :
    Does P E σ o (fun σ' => ∃ A c G, Byt e G (.slice A s.data.toList.length c) s.data.toList ∧ σ' = (σ.seen G).put o.dst (.c (.v (.slice A s.data.toList.length c)))) := by
  intro a w Q next hr hn
  have hx' : a.eval x = .string s := ev_den hr.see hx
  have hl : s.data.toList.length = s.size := by rw [Array.length_toList]; rfl
  have hrun := Lib.run_convert_string_bytes (P := P) w src dst e s (tStr_spec h1) (tSlice_spec h2) (tInt_spec h3)
  rw [← hl] at hrun
  have hrun2 : (execOp a.eval o).run P w = .ok (.value (.slice (some ⟨w.heap.size, 0, none⟩) s.data.toList.length (grownCap w s.data.toList.length 0 e))) (Lib.bytesWorld w e s) := by
    unfold execOp
    simp only [ho, hx', Sem.run_bind, hrun, Result.andThen_ok, Sem.run_pure]
  have hc := chg_bytes w e s
  refine wp_of_value hrun2 (hn _ _ _ ⟨_, _, ⟨σ.M E, Lib.bytesWorld w e s⟩, ?_, rfl⟩ ((hr.called hc).put o.dst (.c (.v _)) (dOk_lt hd)))
  refine ⟨_, _, rfl, by rw [hl]; exact grownCap_ge w s.size 0 _, by rw [hl]; exact grownCap_le_maxLen w s.size 0 _ (by unfold maxLen; omega), by simp, fun _ => ⟨_, 0, _, _, rfl, fun q => ?_, Lib.bytesWorld_at_new w e s, fun j u hu => ?_⟩⟩
  · have : w.heap.size < w.heap.size := hr.wf _ q
    omega
  · have hj : j < s.data.toList.length := by simpa using (List.getElem?_eq_some_iff.1 hu).1
    rw [Nat.zero_add]
    unfold Lib.bytesCells
    rw [Array.getElem?_append_left (by simpa using hj), ← hu]
    simp
    rfl
theorem strOf_enc (bs : List UInt8) : strOfNums (bs.map fun b => (b.toNat : Int)) = ⟨bs.toArray⟩ := by
  unfold strOfNums
  congr 1
  rw [List.map_map]
  congr 1
  conv => rhs; rw [← List.map_id bs]
  apply List.map_congr_left
  intro b _
  simp
/-- bytes as a text -/
theorem text_does {src dst e : TypeId} {x : Operand} {v : Value} {bs : List UInt8} (ho : o.op = .convert src dst x) (h1 : tStr P dst = true) (h2 : tSlice P src = some e) (h3 : tInt P e = some .u8)
    (hx : ev σ x = some (.c (.v v))) (hd : dOk E o.dst) (hb : ∀ G : GW, Now E σ G → Byt e G v bs) :
    Does P E σ o (fun σ' => σ' = σ.put o.dst (.c (.v (.string ⟨bs.toArray⟩)))) := by
  intro a w Q next hr hn
  have hx' : a.eval x = v := ev_den hr.see hx
  obtain ⟨A, c, rfl, hc1, hc2, hl, hbk⟩ := hb _ hr.now
  have hrun : (convert src dst (.slice A bs.length c)).run P w = .ok (.string ⟨bs.toArray⟩) w := by
    cases bs with
    | nil =>
      cases A with
      | none => exact run_convert_bytes_nil w src e (tSlice_spec h2) (tInt_spec h3) 0 c dst (tStr_spec h1)
      | some ad =>
        simp [convert, run_underlying (tSlice_spec h2), run_underlying (tStr_spec h1), run_underlying (tInt_spec h3), Conv.bytesToString, loadCells, loadCellsFrom]
        rfl
    | cons b r =>
      obtain ⟨g, o', cur, fr, rfl, _, hbl, hcell⟩ := hbk (by simp)
      have := run_convert_bytes_arg w src e (tSlice_spec h2) (tInt_spec h3) g o' (b :: r).length c ((b :: r).map fun b => (b.toNat : Int)) (by simp) (fun i hi => by
        rw [cell_of_block hbl]
        refine hcell i _ ?_
        rw [List.getElem?_map, List.getElem?_eq_getElem hi]
        rw [List.getD_eq_getElem?_getD, List.getElem?_map, List.getElem?_eq_getElem hi]
        rfl) dst (tStr_spec h1)
      rw [strOf_enc] at this
      exact this
  have hrun2 : (execOp a.eval o).run P w = .ok (.value (.string ⟨bs.toArray⟩)) w := by
    unfold execOp
    simp only [ho, hx', Sem.run_bind, hrun, Result.andThen_ok, Sem.run_pure]
  exact wp_of_value hrun2 (hn _ _ _ rfl (hr.put o.dst (.c (.v (.string ⟨bs.toArray⟩))) (dOk_lt hd)))
end
end Go.Proofs.Ytomfladifefomaa
