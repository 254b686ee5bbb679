/- How a slice of slices of bytes that is read as data is opened; what its bulk says of its bytes. No conditions. -/
import Derived.Test.YtmkiggcghbeacaaRows
import Derived.Test.YtmkiggcghbeacaaCrc2
set_option linter.unusedSimpArgs false
set_option linter.unusedVariables false
namespace Go.Proofs.Ytmkiggcghbeacaa
open Go.RowKit Go.ChangeShapes Go.WideShapes Go.ChangeAt

theorem bulk_flat {H : Type} : ∀ (L : List (List UInt8)) (E : List (DataW H)), L.length = E.length → (∀ i, i < L.length → (L.getD i []).length ≤ Rows.uptoBulk (E.getD i .nil)) → L.flatten.length ≤ Rows.uptoBulkAll E
  | [], _, _, _ => by simp
  | l :: L, [], h, _ => by simp at h
  | l :: L, e :: E, h, hi => by
    have h0 := hi 0 (by simp)
    have ih := bulk_flat L E (by simpa using h) (fun i hlt => by have := hi (i + 1) (by simpa using hlt); simpa using this)
    simp only [List.getD_cons_zero] at h0
    simp only [List.flatten_cons, List.length_append, Rows.uptoBulkAll]
    omega
theorem bulk_one {H : Type} (d : DataW H) : 1 ≤ Rows.uptoBulk d := by
  cases d with
  | lit l => cases l <;> simp [Rows.uptoBulk]
  | nil => simp [Rows.uptoBulk]
  | ptr d => simp [Rows.uptoBulk]
  | slice elems spare => simp [Rows.uptoBulk]
  | agg parts => simp [Rows.uptoBulk]
  | iface t d => simp [Rows.uptoBulk]
  | map entries => simp [Rows.uptoBulk]
  | held h => simp [Rows.uptoBulk]
theorem bulk_length {H : Type} (l : List (DataW H)) : l.length ≤ Rows.uptoBulkAll l := by
  induction l with
  | nil => simp [Rows.uptoBulkAll]
  | cons x r ih => have := bulk_one x; simp only [Rows.uptoBulkAll, List.length_cons]; omega

section
variable {H : Type} {enc : TypeId × Value → H} {w : World} {base b0 : Nat} {r : Reach} {spare : Nat → Bool} {held : Bool} {v : Value} {d : DataW H} {p : List MemPlace}
theorem cells_bs : Try.prog.cellsOf 24 = 1 := by kernel_rfl

theorem part_trod {fuel : Nat} {cs : List Value} {x : DataW H × List MemPlace} (hf : DataW.trod enc Try.prog w base spare held fuel 24 cs = some x) :
    ∃ ad n c l, cs = [.slice ad n c] ∧ Bs w ad n c l ∧ n ≤ Rows.uptoBulk x.1 := by
  rcases DataW.trod_slice Try.underlying24 hf with ⟨rfl, rfl⟩ | ⟨a, len, cap, elems, rest, k, _, rfl, rfl, hb, hl, hm, hlen, hel, _, _⟩
  · obtain ⟨l, hl⟩ := bytes_trod hf
    exact ⟨_, _, _, l, rfl, hl, by simp⟩
  · obtain ⟨l, hl2⟩ := bytes_trod hf
    refine ⟨_, _, _, l, rfl, hl2, ?_⟩
    have := bulk_length (elems.map (·.1))
    simp only [Rows.uptoBulk]
    rw [List.length_map] at this
    omega

theorem open_parts (hv : Value.okWide Try.prog w r b0 22 v) (h : DataW.Trod enc Try.prog w base spare held 22 v d p) :
    ∃ ad n c L, v = .slice ad n c ∧ Ps w ad n c L ∧ L.flatten.length ≤ Rows.uptoBulk d := by
  obtain ⟨ad, n, c, rfl⟩ := okWide_slice Try.underlying22 hv
  obtain ⟨fuel, hf⟩ := h
  rcases DataW.trod_slice Try.underlying22 hf with ⟨h0, h1⟩ | ⟨a, len, cap, elems, rest, k, _, hcs, hx, hb, hl, hm, hlen, hel, _, _⟩
  · simp [Value.cells] at h0
    obtain ⟨rfl, rfl, rfl⟩ := h0
    exact ⟨none, 0, 0, [], rfl, ⟨rfl, Nat.le_refl _, by omega, fun i hi => absurd hi (by omega)⟩, by simp⟩
  · simp [Value.cells] at hcs
    obtain ⟨rfl, rfl, rfl⟩ := hcs
    have hel2 : ∀ i : Fin n, ∃ l : List UInt8, ∃ ai ni ci, w.cell? (a.add i) = some (.slice ai ni ci) ∧ Bs w ai ni ci l ∧ ni ≤ Rows.uptoBulk (elems[i.val]'(by omega)).1 := by
      intro i
      have hi := hel i i.isLt
      rw [List.getElem?_eq_getElem (by omega), cells_bs, Nat.mul_one, Option.bind_eq_some_iff] at hi
      obtain ⟨cs', h2, h3⟩ := hi
      obtain ⟨ai, ni, ci, l, rfl, hbs, hbk⟩ := part_trod h3
      exact ⟨l, ai, ni, ci, cell_of_cells?_one h2, hbs, hbk⟩
    obtain ⟨g, hg⟩ := Classical.axiomOfChoice hel2
    refine ⟨_, n, c, List.ofFn g, rfl, ⟨by simp, hl, by simp only [maxLen] at hm; omega, fun i hi => ?_⟩, ?_⟩
    · obtain ⟨ai, ni, ci, h1, h2, h3⟩ := hg ⟨i, hi⟩
      obtain ⟨b, o, sp⟩ := a
      have hsp : sp = none := by
        obtain ⟨ai0, ni0, ci0, h10, _⟩ := hg ⟨0, by omega⟩
        simpa [Addr.add] using World.cell?_spot h10
      subst hsp
      refine ⟨b, o, ai, ni, ci, rfl, ?_, ?_⟩
      · rw [readAt_of_cells w b (o + i) 1 (fun _ => .slice ai ni ci) (by omega) (fun j hj => by
          obtain rfl : j = 0 := by omega
          rw [Nat.add_zero]
          rw [Addr.add_lit] at h1; exact h1)]
        rfl
      · have e : (List.ofFn g).getD i [] = g ⟨i, hi⟩ := by simp [List.getD, hi]
        rw [e]; exact h2
    · have hd : d = .slice (elems.map (·.1)) (rest.map (·.1)) := congrArg Prod.fst hx
      subst hd
      simp only [Rows.uptoBulk]
      have := bulk_flat (List.ofFn g) (elems.map (·.1)) (by simp; omega) (fun i hi => by
        have hi' : i < n := by simpa using hi
        obtain ⟨ai, ni, ci, h1, h2, h3⟩ := hg ⟨i, hi'⟩
        have e : (List.ofFn g).getD i [] = g ⟨i, hi'⟩ := by simp [List.getD, hi']
        have e2 : (elems.map (·.1)).getD i .nil = (elems[i]'(by omega)).1 := by simp [List.getD, show i < elems.length by omega]
        rw [e, e2, h2.1]; exact h3)
      omega
end
end Go.Proofs.Ytmkiggcghbeacaa
