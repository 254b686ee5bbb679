/- How a slice of elements that take several cells, read as data, is opened; rows of tolllaw15. No conditions. -/
import Derived.Test.YtemjeppneahgeaaLift
import Derived.Test.YtemjeppneahgeaaSlices
import Derived.Test.YtemjeppneahgeaaSec6
import Derived.Deep.Strs
set_option linter.unusedSimpArgs false
set_option linter.unusedVariables false
namespace Go.Proofs.Ytemjeppneahgeaa
open Go.RowKit Go.ChangeShapes Go.WideShapes Go.ChangeAt Go.Deep

section
variable {H : Type} {enc : TypeId × Value → H} {P : Program} {w : World} {base b0 : Nat} {r : Reach} {spare : Nat → Bool} {held : Bool}

theorem open_flat {α : Type} (f : α → Array Value) (sz : Nat) (hsz : ∀ x, (f x).size = sz) (hs0 : 0 < sz) {t e : TypeId} {fuel : Nat} {ad : Option Addr} {n c : Nat} {x : DataW H × List MemPlace} (hu : P.underlying t = some (.slice e)) (hc : P.cellsOf e = sz) (Pr : α → Prop)
    (hrow : ∀ (k : Nat) (cs : List Value) (y : DataW H × List MemPlace), DataW.trod enc P w base spare held k e cs = some y → ∃ r, cs = (f r).toList ∧ Pr r)
    (h : DataW.trod enc P w base spare held fuel t [.slice ad n c] = some x) : ∃ R : List α, R.length = n ∧ RdS w (.slice ad n c) n sz (flat f R) ∧ ∀ r ∈ R, Pr r := by
  rcases DataW.trod_slice hu h with ⟨h0, _⟩ | ⟨a, len, cap, elems, rest, k, _, hcs, _, hb, hl, hm, hlen, hel, _, _⟩
  · simp only [List.cons.injEq, Value.slice.injEq, and_true] at h0
    obtain ⟨rfl, rfl, rfl⟩ := h0
    exact ⟨[], rfl, ⟨none, 0, rfl, Nat.le_refl _, by simp [maxLen], by simp [flat], fun _ => ⟨rfl, rfl⟩, fun h => absurd h (by omega)⟩, by simp⟩
  · simp only [List.cons.injEq, Value.slice.injEq, and_true] at hcs
    obtain ⟨rfl, rfl, rfl⟩ := hcs
    have h1 : ∀ i : Fin n, ∃ r, w.cells? base (a.add (i * sz)) sz = some (f r).toList ∧ Pr r := by
      intro i
      have hi := hel i i.isLt
      rw [List.getElem?_eq_getElem (by rw [hlen]; exact i.isLt), Option.bind_eq_some_iff] at hi
      obtain ⟨cs', h2, h3⟩ := hi
      obtain ⟨r, rfl, hp⟩ := hrow _ _ _ h3
      rw [hc] at h2
      exact ⟨r, h2, hp⟩
    obtain ⟨g, hg⟩ := Classical.axiomOfChoice h1
    refine ⟨List.ofFn g, by simp, ⟨_, c, rfl, hl, hm, by rw [flat_length f sz hsz]; simp, fun h => (by cases h), fun hn => ?_⟩, fun r hr => ?_⟩
    · have hcell : ∀ j, j < n * sz → w.cell? (a.add j) = some ((flat f (List.ofFn g)).getD j undef) := by
        intro j hj
        have hi : j / sz < n := (Nat.div_lt_iff_lt_mul hs0).2 hj
        have hk : j % sz < sz := Nat.mod_lt _ hs0
        have e1 : j = j / sz * sz + j % sz := by rw [Nat.mul_comm]; exact (Nat.div_add_mod j sz).symm
        have h2 := (World.cells?_some (hg ⟨j / sz, hi⟩).1).2.2 (j % sz) hk
        have h3 := flat_get f sz hsz (List.ofFn g) (j / sz) (by simpa using hi)
        have h4 := congrArg (fun a : Array Value => a[j % sz]?) h3
        simp only [List.getElem_ofFn] at h4
        rw [extract_get _ _ _ _ (by simp only [List.size_toArray]; rw [flat_length f sz hsz, List.length_ofFn, ← Nat.add_one_mul]; exact Nat.mul_le_mul_right _ hi), if_pos hk, ← e1] at h4
        rw [Array.getElem?_toList, ← h4, Addr.add_add, ← e1] at h2
        rw [h2]
        have hlt : j < (flat f (List.ofFn g)).length := by rw [flat_length f sz hsz, List.length_ofFn]; exact hj
        simp [List.getD, hlt]
      obtain ⟨b, o, sp⟩ := a
      have hc0 := hcell 0 (by have := Nat.mul_pos hn hs0; omega)
      have hsp : sp = none := by simpa [Addr.add] using World.cell?_spot hc0
      subst hsp
      refine ⟨b, o, rfl, ?_⟩
      rw [readAt_of_cells w b o (n * sz) _ (Nat.mul_pos hn hs0) (fun j hj => by have := hcell j hj; rwa [Addr.add_lit] at this)]
      congr 1
      apply Array.ext_getElem?
      intro i
      have hfl : (flat f (List.ofFn g)).length = n * sz := by rw [flat_length f sz hsz, List.length_ofFn]
      by_cases hi : i < n * sz
      · have hlt : i < (flat f (List.ofFn g)).length := by omega
        simp [hi, hlt]
      · have hlt : ¬ i < (flat f (List.ofFn g)).length := by omega
        rw [Array.getElem?_eq_none (by simp; omega), Array.getElem?_eq_none (by simp; omega)]
    · obtain ⟨i, rfl⟩ := List.mem_ofFn.1 hr
      exact (hg i).2
end

section
variable {H : Type} {enc : TypeId × Value → H} {w : World} {base b0 : Nat} {r : Reach} {spare : Nat → Bool} {held : Bool} {v : Value} {d : DataW H} {p : List MemPlace}

theorem cells_row : Try.prog.cellsOf 51 = 3 := by kernel_rfl
theorem cells_int' : Try.prog.cellsOf 3 = 1 := by kernel_rfl

theorem open_rows (hv : Value.okWide Try.prog w r b0 31 v) (h : DataW.Trod enc Try.prog w base spare held 31 v d p) :
    ∃ ad n c, ∃ R : List Rw3, v = .slice ad n c ∧ R.length = n ∧ RdS w (.slice ad n c) n 3 (flat rv R) ∧ ∀ r ∈ R, Is64 r.1 ∧ Is64 r.2.1 := by
  obtain ⟨ad, n, c, rfl⟩ := okWide_slice Try.underlying31 hv
  obtain ⟨fuel, hf⟩ := h
  have := open_flat rv 3 size_rv (by omega) Try.underlying31 cells_row (fun r => Is64 r.1 ∧ Is64 r.2.1) (fun k cs y hy => by
    obtain ⟨y0, y1, y2, m, _, hl, h0, h1, h2⟩ := trod_struct3 Try.underlying51 hy
    rw [cells_row] at hl
    match cs, hl with
    | [c0, c1, c2], _ =>
      simp only [cells_int', cells_u8', List.drop_zero, List.drop_succ_cons, List.take_succ_cons, List.take_zero] at h0 h1 h2
      obtain ⟨z0, e0, _, w0⟩ := DataW.trod_int Try.underlying3 h0
      obtain ⟨z1, e1, _, w1⟩ := DataW.trod_int Try.underlying3 h1
      obtain ⟨z2, e2, _, w2⟩ := DataW.trod_int Try.underlying5 h2
      refine ⟨(z0, z1, mkU8 z2), ?_, bounds_i64 w0, bounds_i64 w1⟩
      have := B8_u8 z2 (bounds_u8 w2)
      simp at e0 e1 e2
      subst e0 e1 e2
      simp [rv, this]) hf
  obtain ⟨R, h1, h2, h3⟩ := this
  exact ⟨ad, n, c, R, rfl, h1, h2, h3⟩
end
end Go.Proofs.Ytemjeppneahgeaa
