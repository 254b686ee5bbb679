/- The law's play: a disk and the reference's disk side by side, inside a call. No conditions on the program. -/
import Derived.Test.YtjedlcfeobhjnaaRPlan2
import Derived.Test.YtjedlcfeobhjnaaRRead
import Derived.Test.YtjedlcfeobhjnaaRSync
import Derived.Test.YtjedlcfeobhjnaaTold
import Derived.Test.YtjedlcfeobhjnaaDOps
set_option linter.unusedSimpArgs false
set_option linter.unusedVariables false
namespace Go.Proofs.Ytjedlcfeobhjnaa
open Go.RowKit Go.ChangeMaps

/-- What an operation makes of a disk. -/
def playD (D : DM) (o : OpM) : DM :=
  if o.kind = 0 then D else
  if o.kind = 1 then (writeD D o.at_ (fill o.byte)).1 else
  if o.kind = 2 then (syncD D).1 else
  if o.kind = 3 then planD D o.at_ false [] else
  if o.kind = 4 then planD D o.at_ true o.cuts else
  if o.kind = 5 then crashD D o.cuts else startD D

/-- The places of a disk, and other blocks. -/
def PZ (p : DP) (Z : Nat → Prop) (b : Nat) : Prop := p.has b ∨ Z b
/-- A disk and the reference's, the call's own variables at three blocks from s. -/
structure PIn (Z : Nat → Prop) (w0 w u : World) (p p' : DP) (n : Nat) (D R : DM) (a b c : Value) : Prop where
  base : w0.heap.size ≤ w.heap.size
  bel : Below w0.heap.size w0 u
  hB : p'.B = p.B
  d : DAt u w0.heap.size p' n D
  r : RAt u (Loc (PZ p' Z) w.heap.size 3) n R a b c
  zl : ∀ b, Z b → b < w.heap.size
  kb : Kb p.has w u
  new : ∀ b, p'.has b → p.has b ∨ w.heap.size + 3 ≤ b
  old : ∀ b, p.has b → b < w.heap.size
  sz : w.heap.size + 3 ≤ u.heap.size
section
variable {Z : Nat → Prop} {w0 w u u' : World} {p p' : DP} {n : Nat} {D D' R R' : DM} {a b c a' b' c' : Value}
theorem PIn.lt (h : PIn Z w0 w u p p' n D R a b c) : ∀ g, Loc (PZ p' Z) w.heap.size 3 g → g < u.heap.size := fun g hg => by
  have := h.sz
  rcases hg with (hg | hg) | hg
  · exact h.d.has_lt g hg
  · have := h.zl g hg; omega
  · omega
theorem PIn.own_not (h : PIn Z w0 w u p p' n D R a b c) (i : Nat) (hi : i < 3) : ¬ p'.has (w.heap.size + i) := fun hx => by
  rcases h.new _ hx with h1 | h1
  · have := h.old _ h1; omega
  · omega
theorem PIn.ub (h : PIn Z w0 w u p p' n D R a b c) : w0.heap.size ≤ u.heap.size := h.bel.size
theorem PIn.below (h : PIn Z w0 w u p p' n D R a b c) (hb : Below u.heap.size u u') : PIn Z w0 w u' p p' n D R a b c :=
  ⟨h.base, h.bel.trans (hb.mono h.ub), h.hB, h.d.below hb, h.r.below hb, h.zl, h.kb.trans (Kb.of_below hb) (fun i hi => .inl hi), h.new, h.old, Nat.le_trans h.sz hb.size⟩
/-- Another value of the reference's. -/
theorem PIn.ref (h : PIn Z w0 w u p p' n D R a b c) (hb : Below u.heap.size u u') (hr : RAt u' (Loc (PZ p' Z) w.heap.size 3) n R' a' b' c') : PIn Z w0 w u' p p' n D R' a' b' c' :=
  ⟨h.base, h.bel.trans (hb.mono h.ub), h.hB, h.d.below hb, hr, h.zl, h.kb.trans (Kb.of_below hb) (fun i hi => .inl hi), h.new, h.old, Nat.le_trans h.sz hb.size⟩
/-- The disk has been changed. -/
theorem PIn.disk (h : PIn Z w0 w u p p' n D R a b c) (hn : DNext u w0.heap.size p' n D' u') : ∃ p'', PIn Z w0 w u' p p'' n D' R a b c ∧ ∀ i, i < 3 → u'.heap[w.heap.size + i]? = u.heap[w.heap.size + i]? := by
  obtain ⟨p'', hB, hA, hK, hh⟩ := hn
  have hsz := h.sz
  refine ⟨p'', ⟨h.base, h.bel.trans (hK.below h.d.ok.lo h.ub), hB.trans h.hB, hA, ?_, h.zl, ?_, fun b hb => ?_, h.old, Nat.le_trans h.sz hK.size⟩, fun i hi => hK.block _ (by omega) (h.own_not i hi)⟩
  · refine h.r.kb ⟨hK.os, hK.tape, hK.output, hK.size, fun b h1 h2 => hK.block b h1 (fun hx => h2 (.inl (.inl hx)))⟩ (fun b hb => ?_)
    rcases hb with (hb | hb) | hb
    · rcases hh b hb with h1 | h1
      · exact .inl (.inl (.inl h1))
      · exact .inr h1
    · exact .inl (.inl (.inr hb))
    · exact .inl (.inr hb)
  · refine ⟨hK.os.trans h.kb.os, hK.tape.trans h.kb.tape, hK.output.trans h.kb.output, Nat.le_trans h.kb.size hK.size, fun k hk hx => ?_⟩
    rw [hK.block k (Nat.lt_of_lt_of_le hk h.kb.size) (fun h1 => ?_)]
    · exact h.kb.block k hk hx
    · rcases h.new k h1 with h2 | h2
      · exact hx h2
      · omega
  · rcases hh b hb with h1 | h1
    · exact h.new b h1
    · exact .inr (by omega)
/-- One of the call's own variables has been changed. -/
theorem PIn.own (h : PIn Z w0 w u p p' n D R a b c) {i : Nat} (hi : i < 3) (hk : Kb (fun b => b = w.heap.size + i) u u') : PIn Z w0 w u' p p' n D R a b c := by
  have hb : Below w.heap.size u u' := hk.below (fun b hb => by subst hb; omega) (by have := h.sz; omega)
  refine ⟨h.base, h.bel.trans (hb.mono h.base), h.hB, h.d.kb hk (fun b h1 h2 => h.own_not i hi (h2 ▸ h1)), ?_, h.zl, ?_, h.new, h.old, Nat.le_trans h.sz hk.size⟩
  · exact h.r.kb ⟨hk.os, hk.tape, hk.output, hk.size, fun b h1 h2 => hk.block b h1 (fun hx => h2 (.inr (by subst hx; omega)))⟩ (fun b hb => .inl hb)
  · exact ⟨hk.os.trans h.kb.os, hk.tape.trans h.kb.tape, hk.output.trans h.kb.output, Nat.le_trans h.kb.size hk.size, fun k hk1 hx => (hb.block k hk1).trans (h.kb.block k hk1 hx)⟩
end
/-- A disk and the reference's side by side. -/
structure Both2 (Z : Nat → Prop) (w0 w : World) (p : DP) (n : Nat) (D R : DM) (a b c : Value) : Prop where
  bel : Below w0.heap.size w0 w
  d : DAt w w0.heap.size p n D
  r : RAt w (PZ p Z) n R a b c
  zl : ∀ b, Z b → b < w.heap.size
/-- The same value on both sides. -/
abbrev Both (Z : Nat → Prop) (w0 w : World) (p : DP) (n : Nat) (D : DM) (a b c : Value) : Prop := Both2 Z w0 w p n D D a b c
/-- What play leaves, if the values differ; what it tells, if they do not. -/
def PNext2 (Z : Nat → Prop) (w0 w : World) (p : DP) (n : Nat) (D' R' : DM) (same : Prop) (e : Ending) (w' : World) : Prop :=
  ∃ t p' a b c, e = .returned (.tuple #[.agg (rV R' a b c), .bool t]) ∧ (same → t = true) ∧ p'.B = p.B ∧ Both2 Z w0 w' p' n D' R' a b c ∧ Kb p.has w w' ∧ ∀ b, p'.has b → p.has b ∨ w.heap.size ≤ b
/-- What play leaves. -/
def PNext (Z : Nat → Prop) (w0 w : World) (p : DP) (n : Nat) (D' : DM) (e : Ending) (w' : World) : Prop :=
  ∃ p' a b c, e = .returned (.tuple #[.agg (rV D' a b c), .bool true]) ∧ p'.B = p.B ∧ Both Z w0 w' p' n D' a b c ∧ Kb p.has w w' ∧ ∀ b, p'.has b → p.has b ∨ w.heap.size ≤ b
section
variable {Z : Nat → Prop} {w0 w u u' : World} {p p' : DP} {n : Nat} {D D' R R' : DM} {a b c a' b' c' : Value}
theorem Both2.start (h : Both2 Z w0 w p n D R a b c) {u : World} (hb : Below w.heap.size w u) (hs : u.heap.size = w.heap.size + 3) : PIn Z w0 w u p p n D R a b c :=
  ⟨h.bel.size, h.bel.trans (hb.mono h.bel.size), rfl, h.d.below hb, h.r.kb (Kb.of_below hb) (fun b hb => by
    rcases hb with hb | hb
    · exact .inl hb
    · exact .inr hb.1), h.zl, Kb.of_below hb, fun b hb => .inl hb, h.d.has_lt, by omega⟩
theorem PIn.done {same : Prop} {b1 : Bool} (h : PIn Z w0 w u p p' n D R a b c) (hs : same → b1 = true) : PNext2 Z w0 w p n D R same (.returned (.tuple #[.agg (rV R a b c), .bool b1])) u :=
  ⟨b1, p', a, b, c, rfl, hs, h.hB, ⟨h.bel, h.d, h.r.kb (Kb.refl _ _) (fun b hb => .inl (.inl hb)), fun b hb => by have := h.zl b hb; have := h.sz; omega⟩, h.kb, fun b hb => (h.new b hb).imp id (fun h1 => by omega)⟩
theorem PNext2.eq {e : Ending} (h : PNext2 Z w0 w p n D D True e u) : PNext Z w0 w p n D e u := by
  obtain ⟨t, p', a, b, c, he, hs, h1, h2, h3, h4⟩ := h
  rw [hs trivial] at he
  exact ⟨p', a, b, c, he, h1, h2, h3, h4⟩
theorem OkD.play {n m : Nat} (h : OkD D n m) (o : OpM) : OkD (playD D o) n (m + 2) := by
  unfold playD
  split
  · exact h.more (by omega)
  · split
    · unfold writeD
      split
      · exact h.more (by omega)
      · split
        · exact (h.tick.add _ _).crash _
        · split
          · exact h.tick.more (by omega)
          · split
            · exact h.tick.add _ _
            · exact h.tick.more (by omega)
    · split
      · unfold syncD
        split
        · exact h.more (by omega)
        · split
          · exact (h.tick.crash _).more (by omega)
          · split
            · exact h.tick.more (by omega)
            · exact (h.tick.flush).more (by omega)
      · split
        · exact (h.plan _ _ _).more (by omega)
        · split
          · exact (h.plan _ _ _).more (by omega)
          · split
            · exact (h.crash _).more (by omega)
            · exact h.start.more (by omega)
theorem plan_play (D : DM) (o : OpM) : (playD D o).plan.length ≤ D.plan.length + 1 := by
  have ha : ∀ (D : DM) k x, (writeD D k x).1.plan = D.plan := by
    intro D k x; unfold writeD; split; · rfl
    split
    · simp [crashD]
    · split; · rfl
      split <;> simp
  have hs : ∀ (D : DM), (syncD D).1.plan = D.plan := by
    intro D; unfold syncD; split; · rfl
    split
    · simp [crashD]
    · split <;> simp [flushD]
  have hp : ∀ (D : DM) k c l, (planD D k c l).plan.length ≤ D.plan.length + 1 := by
    intro D k c l; unfold planD; split <;> simp
  unfold playD
  repeat' split
  all_goals first | (rw [ha]; omega) | (rw [hs]; omega) | exact hp _ _ _ _ | (simp [crashD, startD])
end
end Go.Proofs.Ytjedlcfeobhjnaa
