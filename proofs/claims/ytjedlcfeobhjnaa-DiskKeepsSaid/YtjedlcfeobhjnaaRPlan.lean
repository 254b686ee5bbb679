/- What Write (joined) and Plan of the reference's disk compute. Conditions: the numbers are small. -/
import Derived.Test.YtjedlcfeobhjnaaRWrite2
set_option linter.unusedSimpArgs false
set_option linter.unusedVariables false
namespace Go.Proofs.Ytjedlcfeobhjnaa
open Go.RowKit Go.ChangeMaps

theorem rdwrite_any (w : World) (X : Nat → Prop) (n m : Nat) (D : DM) (a b c : Value) (k : Int) (x : Sec) (hR : RAt w X n D a b c) (hX : ∀ g, X g → g < w.heap.size) (hD : OkD D n m) (hm : m + 2 ≤ 100000) (hn : n ≤ 5000) (hpl : D.plan.length ≤ 100000) :
    Calls Try.prog 38 #[.agg (rV D a b c), .int .i64 k, .agg (av x)] w fun e w' => (∃ v, e = .returned (.tuple #[v, .int .i64 (writeD D k x).2]) ∧ RNext w' X n (writeD D k x).1 v) ∧ Below w.heap.size w w' := by
  cases hdn : D.down with
  | true => exact rdwrite_no w X n m D a b c k x hR hX hD hm hn hpl (.inl hdn)
  | false =>
    cases hh : hasD D k with
    | false => exact rdwrite_no w X n m D a b c k x hR hX hD hm hn hpl (.inr ⟨hdn, hh⟩)
    | true => exact rdwrite_yes w X n m D a b c k x hR hX hD hm hn hpl hdn hh
set_option maxRecDepth 100000 in
set_option maxHeartbeats 1600000 in
theorem rdplan_no (w : World) (X : Nat → Prop) (n : Nat) (D : DM) (a b c vc : Value) (k : Int) (cr : Bool) (cuts : List Int) (hR : RAt w X n D a b c) (hk : k < 1) :
    Calls Try.prog 40 #[.agg (rV D a b c), .int .i64 k, .bool cr, vc] w fun e w' => (∃ v, e = .returned v ∧ RNext w' X n (planD D k cr cuts) v) ∧ Below w.heap.size w w' := by
  obtain ⟨bl, ol, cl, ad2, ad3, c2, c3, rfl, rfl, rfl⟩ := hR.open_
  have HM : Hid (planD D k cr cuts = D) := by unfold Hid planD; rw [if_pos hk]
  unfold rV
  have HR := Lib.hid hR
  clear hR
  go_enter Try.func40, Try.ntmps40
  go_wp2
  have hB : Below w.heap.size w ((w.alloc (.cells #[.slice (some ⟨bl, ol, none⟩) n cl, .slice ad2 D.op.length c2, .bool D.down, .int .i64 D.steps, .slice ad3 D.plan.length c3] 46)).alloc (.cells #[.slice (some ⟨bl, ol, none⟩) n cl, .slice ad2 D.op.length c2, .bool D.down, .int .i64 D.steps, .slice ad3 D.plan.length c3] 46)) := ba _ (ba _ (Below.refl _ _))
  refine bodyPost_ret (v := .agg #[.slice (some ⟨bl, ol, none⟩) n cl, .slice ad2 D.op.length c2, .bool D.down, .int .i64 D.steps, .slice ad3 D.plan.length c3]) (by simp [results, Try.results40, go_sem]) rfl ⟨⟨_, rfl, ?_⟩, hB⟩
  rw [HM.out]
  exact ⟨_, _, _, rfl, HR.out.below hB⟩
end Go.Proofs.Ytjedlcfeobhjnaa
