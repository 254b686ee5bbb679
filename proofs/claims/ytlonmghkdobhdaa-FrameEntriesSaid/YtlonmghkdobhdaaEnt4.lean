/- Readers whose bytes lie in a known block: New, next, Take. Conditions: the slice reads as bytes, long enough. -/
import Derived.Test.YtlonmghkdobhdaaEnt3
set_option linter.unusedSimpArgs false
set_option linter.unusedVariables false
namespace Go.Proofs.Ytlonmghkdobhdaa
open Go.RowKit

/-- A reader whose next bytes are l, which lie in block g. -/
def RdrG (w : World) (B g : Nat) (l : List UInt8) : Prop :=
  canAt w B 0 2 = true ∧ ∃ o c, g ≠ B ∧ readAt w B 0 2 = some #[.slice (some ⟨g, o, none⟩) l.length c, .bool false] ∧ Bs w (some ⟨g, o, none⟩) l.length c l
theorem RdrG.rdr {w : World} {B g : Nat} {l : List UInt8} (h : RdrG w B g l) : Rdr w B l := ⟨h.1, g, h.2⟩
theorem RdrG.below {w w' : World} {B g : Nat} {l : List UInt8} (h : RdrG w B g l) (hb : Below w.heap.size w w') : RdrG w' B g l := by
  have hlt := canAt_lt h.1
  obtain ⟨h1, o, c, h2, h3, h4⟩ := h
  exact ⟨by rw [canAt_below hb hlt]; exact h1, o, c, h2, by rw [readAt_below hb hlt]; exact h3, h4.below hb⟩
theorem RdrG.only {w w' : World} {B g E : Nat} {l : List UInt8} (h : RdrG w B g l) (ho : OnlyB E w w') (hB : B ≠ E) (hg : g ≠ E) : RdrG w' B g l := by
  obtain ⟨h1, o, c, h2, h3, h4⟩ := h
  refine ⟨?_, o, c, h2, by rw [ho.readAt _ _ _ hB]; exact h3, ho.bs hg h4⟩
  have := ho.block B hB
  simp only [canAt, this]; exact h1
def NextOkG (B g : Nat) (l : List UInt8) (n : Nat) (w : World) (e : Ending) (w' : World) : Prop :=
  ∃ o, g ≠ B ∧ e = .returned (.tuple #[.slice (some ⟨g, o, none⟩) n n, .bool true]) ∧ Bs w' (some ⟨g, o, none⟩) n n (l.take n) ∧ RdrG w' B g (l.drop n) ∧ OnlyB B w w'

set_option maxHeartbeats 400000 in
theorem newG (a : Addr) (n c : Nat) (l : List UInt8) (w : World) (hl : Bs w (some a) n c l) (hs : n ≤ 1099511627776) :
    Calls Try.prog 28 #[.slice (some a) n c] w fun e w' => (∃ B g, w.heap.size ≤ B ∧ w.heap.size ≤ g ∧ e = .returned (.pointer (some ⟨B, 0, none⟩)) ∧ RdrG w' B g l) ∧ Below w.heap.size w w' := by
  go_enter Try.func28, Try.ntmps28
  go_wp2_with fail
  refine (clone_any a n c l _ hl hs).mono ?_
  rintro _ w1 ⟨⟨v, rfl, hne, hown⟩, hb1⟩
  obtain ⟨ad, c1, rfl, hbs⟩ := hown.bs
  have had : ∃ g o, ad = some ⟨g, o, none⟩ ∧ g < w1.heap.size ∧ w.heap.size ≤ g := by
    rcases hown.2 with ⟨h, _⟩ | ⟨g, cap, cur, hv, hbg, hg, _⟩
    · exact absurd h hne
    · simp only [Value.slice.injEq] at hv
      exact ⟨g, 0, hv.1, (Array.getElem?_eq_some_iff.1 hg).1, hbg⟩
  obtain ⟨g, o, rfl, hg, hbg⟩ := had
  clear hne hown hl
  have Hbs := Lib.hid hbs
  clear hbs
  go_wp2
  go_ret
  refine ⟨⟨w1.heap.size, g, hb1.size, hbg, rfl, ?_⟩, ba _ hb1⟩
  exact ⟨by simp [go_sem], o, c1, by omega, by simp [go_sem], Hbs.out.below (ba _ (Below.refl _ _))⟩


set_option maxHeartbeats 800000 in
theorem nextG (B g : Nat) (l : List UInt8) (n : Nat) (w : World) (h : RdrG w B g l) (hn : n ≤ l.length) :
    Calls Try.prog 41 #[.pointer (some ⟨B, 0, none⟩), .int .u64 n] w (NextOkG B g l n w) := by
  obtain ⟨hc, o, c, hg, hr, hbs⟩ := h
  have f0 := canAt_cell hc 0
  have g0 := readAt_cell hr 0 _ rfl
  have g1 := readAt_cell hr 1 _ rfl
  simp only [Nat.zero_add] at f0 g0 g1
  simp only [List.getElem_toArray, List.getElem_cons_zero, List.getElem_cons_succ] at g0 g1
  have hlc := hbs.2.1
  have hmx := hbs.2.2.1
  have Hbs := Lib.hid hbs
  have Hcr := Lib.hid (And.intro hc hr)
  clear hbs hc hr
  generalize hN : l.length = N at *
  have HN := Lib.hid hN
  clear hN
  have d0 : decide ((N : Int) < (n : Int)) = false := by simp; omega
  by_cases hcn : c = n
  · obtain rfl : c = n := hcn
    obtain rfl : N = c := by omega
    have hset := Lib.hid (set_one _ _ (.slice (some ⟨g, o, none⟩) 0 0) Hcr.out.1 Hcr.out.2)
    go_enter Try.func41, Try.ntmps41
    go_wp2
    go_ret2
    obtain ⟨h1, h2, h3⟩ := hset.out
    refine ⟨o, hg, rfl, h1.bs hg (Hbs.out.take N N (Nat.le_refl _) (Nat.le_refl _) (Nat.le_refl _)), ⟨h2, o, 0, hg, ?_, ?_⟩, h1⟩
    · rw [List.drop_of_length_le (by rw [HN.out]; exact Nat.le_refl _)]; exact h3
    · rw [List.drop_of_length_le (by rw [HN.out]; exact Nat.le_refl _)]
      exact ⟨rfl, Nat.le_refl _, by omega, fun h => (by cases h), fun h => absurd h (by simp)⟩
  · have hset := Lib.hid (set_one _ _ (.slice (some ⟨g, o + n, none⟩) (N - n) (c - n)) Hcr.out.1 Hcr.out.2)
    go_enter Try.func41, Try.ntmps41
    go_wp2
    go_ret2
    obtain ⟨h1, h2, h3⟩ := hset.out
    refine ⟨o, hg, rfl, h1.bs hg (Hbs.out.take n n hn (Nat.le_refl _) (by omega)), ⟨h2, o + n, c - n, hg, ?_, ?_⟩, h1⟩
    · rw [List.length_drop, HN.out]; exact h3
    · rw [List.length_drop, HN.out]; exact h1.bs hg (Hbs.out.drop n hn)


theorem takeG (B g : Nat) (l : List UInt8) (n : Nat) (w : World) (h : RdrG w B g l) (hn : n ≤ l.length) (hs : n ≤ 1073741824) :
    Calls Try.prog 30 #[.pointer (some ⟨B, 0, none⟩), .int .i64 n] w fun e w' => (∃ v, e = .returned v ∧ NotNil v ∧ ByOwn w' w.heap.size v (l.take n)) ∧ RdrG w' B g (l.drop n) ∧ ∃ w1, OnlyB B w w1 ∧ Below w1.heap.size w1 w' := by
  have H := Lib.hid h
  clear h
  have d0 : decide ((n : Int) < 0) = false := by simp
  go_enter Try.func30, Try.ntmps30
  go_wp2_with fail
  refine (nextG B g l n _ H.out hn).mono ?_
  rintro _ w1 ⟨o, hg, rfl, hbs, hrd, ho⟩
  have Hbs := Lib.hid hbs
  have Hrd := Lib.hid hrd
  have Ho := Lib.hid ho
  clear hbs hrd ho
  go_wp2_with fail
  refine (clone_any _ n n _ _ Hbs.out (by omega)).mono ?_
  rintro _ w2 ⟨⟨v, rfl, hne, hown⟩, hb2⟩
  have hfin : Hid (ByOwn w2 w.heap.size v (l.take n) ∧ NotNil v ∧ RdrG w2 B g (l.drop n) ∧ Below w1.heap.size w1 w2) := ⟨ownsRow_base hown (by rw [Ho.out.size]; exact Nat.le_refl _), hne, Hrd.out.below hb2, hb2⟩
  clear hne hown hb2
  go_wp2
  go_ret
  exact ⟨⟨_, rfl, hfin.out.2.1, hfin.out.1⟩, hfin.out.2.2.1, w1, Ho.out, hfin.out.2.2.2⟩

end Go.Proofs.Ytlonmghkdobhdaa
