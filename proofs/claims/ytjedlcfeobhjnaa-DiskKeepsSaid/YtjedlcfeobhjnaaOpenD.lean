/- How the arguments of the laws on disks are opened: operations, numbers. No conditions. -/
import Derived.Test.YtjedlcfeobhjnaaOpenG
import Derived.Test.YtjedlcfeobhjnaaDOps
set_option linter.unusedSimpArgs false
set_option linter.unusedVariables false
namespace Go.Proofs.Ytjedlcfeobhjnaa
open Go.RowKit Go.ChangeShapes Go.WideShapes Go.ChangeAt Go.Deep

section
variable {H : Type} {enc : TypeId × Value → H} {w : World} {base b0 : Nat} {r : Reach} {spare : Nat → Bool} {held : Bool} {v : Value} {d : DataW H} {p : List MemPlace}
theorem cellsI : Try.prog.cellsOf 3 = 1 := by kernel_rfl
theorem cellsU : Try.prog.cellsOf 5 = 1 := by kernel_rfl
theorem cellsS : Try.prog.cellsOf 23 = 1 := by kernel_rfl
theorem cellsO : Try.prog.cellsOf 30 = 4 := by kernel_rfl
def i1 (x : Int) : Array Value := #[.int .i64 x]
theorem flat_i1 (l : List Int) : flat i1 l = l.map (Value.int .i64) := by
  induction l with
  | nil => rfl
  | cons a l ih => simp [flat, i1] at ih ⊢; exact ih
set_option maxRecDepth 100000 in
/-- A slice of numbers, as the reader finds it. -/
theorem ints_trod {fuel : Nat} {cs : List Value} {x : DataW H × List MemPlace} (hf : DataW.trod enc Try.prog w base spare held fuel 23 cs = some x) :
    ∃ ad c, ∃ l : List Int, cs = [.slice ad l.length c] ∧ RdS w (.slice ad l.length c) l.length 1 (l.map (Value.int .i64)) ∧ ∀ x, x ∈ l → I64 x := by
  have key : ∃ ad n c, cs = [.slice ad n c] := by
    rcases DataW.trod_slice Try.underlying23 hf with ⟨h0, _⟩ | ⟨a, len, cap, elems, rest, k, _, hcs, _⟩
    · exact ⟨none, 0, 0, h0⟩
    · exact ⟨some a, len, cap, hcs⟩
  obtain ⟨ad, n, c, rfl⟩ := key
  obtain ⟨R, h1, h2, h3⟩ := open_flat i1 1 (fun _ => rfl) (by omega) Try.underlying23 cellsI I64 (fun k cs y hy => by
    obtain ⟨z, e, _, wz⟩ := DataW.trod_int Try.underlying3 hy
    exact ⟨z, by rw [e]; rfl, bounds_i64 wz⟩) hf
  subst h1
  rw [flat_i1] at h2
  exact ⟨ad, c, R, rfl, h2, h3⟩
set_option maxRecDepth 100000 in
theorem open_nums (hv : Value.okWide Try.prog w r b0 23 v) (h : DataW.Trod enc Try.prog w base spare held 23 v d p) :
    ∃ ad c, ∃ l : List Int, v = .slice ad l.length c ∧ RdS w (.slice ad l.length c) l.length 1 (l.map (Value.int .i64)) := by
  obtain ⟨ad, n, c, rfl⟩ := okWide_slice Try.underlying23 hv
  obtain ⟨fuel, hf⟩ := h
  obtain ⟨ad', c', l, e, hl, _⟩ := ints_trod hf
  simp only [Value.cells, List.cons.injEq, and_true] at e
  exact ⟨ad', c', l, by simpa using e, hl⟩
set_option maxRecDepth 100000 in
theorem open_ops (hv : Value.okWide Try.prog w r b0 22 v) (h : DataW.Trod enc Try.prog w base spare held 22 v d p) :
    ∃ L : List (OpM × Value), OpsR w v L := by
  obtain ⟨ad, n, c, rfl⟩ := okWide_slice Try.underlying22 hv
  obtain ⟨fuel, hf⟩ := h
  have := open_flat oc 4 size_oc (by omega) Try.underlying22 cellsO (OpOk w) (fun k cs y hy => by
    obtain ⟨y0, y1, y2, y3, m, _, hl, h0, h1, h2, h3⟩ := Joins.trod_struct4 Try.underlying30 hy
    rw [cellsO] at hl
    match cs, hl with
    | [c0, c1, c2, c3], _ =>
      simp only [cellsI, cellsU, cellsS, List.drop_zero, List.drop_succ_cons, List.take_succ_cons, List.take_zero] at h0 h1 h2 h3
      obtain ⟨z0, e0, _, w0⟩ := DataW.trod_int Try.underlying3 h0
      obtain ⟨z1, e1, _, w1⟩ := DataW.trod_int Try.underlying3 h1
      obtain ⟨z2, e2, _, w2⟩ := DataW.trod_int Try.underlying5 h2
      obtain ⟨ad3, c3', l3, e3, r3, i3⟩ := ints_trod h3
      refine ⟨(⟨z0, z1, mkU8 z2, l3⟩, .slice ad3 l3.length c3'), ?_, ⟨bounds_i64 w0, bounds_i64 w1, r3, i3⟩⟩
      have hb := B8_u8 z2 (bounds_u8 w2)
      unfold B8 at hb
      simp only [List.cons.injEq, and_true] at e0 e1 e2 e3
      subst e0 e1 e2 e3
      show _ = [_, _, _, _]
      rw [hb]) hf
  obtain ⟨R, h1, h2, h3⟩ := this
  subst h1
  exact ⟨R, h2, h3⟩
set_option maxRecDepth 100000 in
theorem open_op (hv : Value.okWide Try.prog w r b0 30 v) (h : DataW.Trod enc Try.prog w base spare held 30 v d p) :
    ∃ z : OpM × Value, v = .agg (oc z) ∧ OpOk w z := by
  unfold Value.okWide at hv
  rw [Try.underlying30] at hv
  obtain ⟨cs, rfl, hsz, _⟩ := hv
  rw [cellsO] at hsz
  obtain ⟨fuel, hf⟩ := h
  obtain ⟨y0, y1, y2, y3, m, _, hl, h0, h1, h2, h3⟩ := Joins.trod_struct4 Try.underlying30 hf
  simp only [Value.cells] at h0 h1 h2 h3
  obtain ⟨l, hcs⟩ : ∃ l, cs.toList = l := ⟨_, rfl⟩
  have hll : l.length = 4 := by rw [← hcs]; simpa using hsz
  have hcs2 : cs = l.toArray := by rw [← hcs]
  rw [hcs] at h0 h1 h2 h3
  match l, hll with
  | [c0, c1, c2, c3], _ =>
    simp only [cellsI, cellsU, cellsS, List.drop_zero, List.drop_succ_cons, List.take_succ_cons, List.take_zero] at h0 h1 h2 h3
    obtain ⟨z0, e0, _, w0⟩ := DataW.trod_int Try.underlying3 h0
    obtain ⟨z1, e1, _, w1⟩ := DataW.trod_int Try.underlying3 h1
    obtain ⟨z2, e2, _, w2⟩ := DataW.trod_int Try.underlying5 h2
    obtain ⟨ad3, c3', l3, e3, r3, i3⟩ := ints_trod h3
    refine ⟨(⟨z0, z1, mkU8 z2, l3⟩, .slice ad3 l3.length c3'), ?_, ⟨bounds_i64 w0, bounds_i64 w1, r3, i3⟩⟩
    have hb := B8_u8 z2 (bounds_u8 w2)
    unfold B8 at hb
    simp only [List.cons.injEq, and_true] at e0 e1 e2 e3
    subst e0 e1 e2 e3
    rw [hcs2]
    show Value.agg #[_, _, _, _] = Value.agg #[_, _, _, _]
    rw [hb]
end
end Go.Proofs.Ytjedlcfeobhjnaa
