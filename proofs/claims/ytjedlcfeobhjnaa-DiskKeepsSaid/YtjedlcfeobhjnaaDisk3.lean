/- What add and clear of a disk compute. Conditions: the receiver is a disk; the numbers are small. -/
import Derived.Test.YtjedlcfeobhjnaaDisk2
import Derived.Deep.AppendLies
set_option linter.unusedSimpArgs false
set_option linter.unusedVariables false
namespace Go.Proofs.Ytjedlcfeobhjnaa
open Go.RowKit Go.ChangeMaps

section
variable {base n : Nat} {p : DP} {D : DM}
theorem Kb.grown {X : Nat → Prop} {w w' : World} {row : Option Nat} (h : w.grownBy w' row) (hX : ∀ b, row = some b → X b) : Kb X w w' :=
  ⟨h.os, h.tape, h.output, h.size, fun k hk hx => h.block k hk (fun e => hx (hX k e.symm))⟩
theorem Kb.drew {X : Nat → Prop} {w w' : World} (h : Kb X w w') : Kb X w w'.drew := h.trans (Kb.of_below (X := X) (Below.refl _ _).drew) (fun i hi => .inl hi)
theorem Kb.ob {X : Nat → Prop} {w w' w'' : World} {B : Nat} (h : Kb X w w') (ho : Ob B w' w'') (hB : X B) : Kb X w w'' := h.trans (ho.kb hB) (fun i hi => .inl hi)
theorem Kb.blw {X : Nat → Prop} {w w' w'' : World} (h : Kb X w w') (hb : Below w'.heap.size w' w'') : Kb X w w'' := h.trans (Kb.of_below (X := X) hb) (fun i hi => .inl hi)
/-- The pieces of a disk whose block, value of open writes and last-map have changed. -/
theorem DAt.re {w u : World} (h : DAt w base p n D) (vo' : Value) (op' : List (Int × Sec)) (hs : w.heap.size ≤ u.heap.size)
    (hk : ∀ b, b < w.heap.size → b ≠ p.B → b ≠ p.bl → some b ≠ p.vo.ownBlock → u.heap[b]? = w.heap[b]?)
    (hr : readAt u p.B 0 7 = some (d7 { p with vo := vo' } n D.down D.steps)) (hc : canAt u p.B 0 7 = true)
    (ho : u.ownsRow base 74 65 vo' op'.length (flat wp2 op')) (hl : IM u p.bl (lastM op'))
    (hv : ∀ g, vo'.ownBlock = some g → p.vo.ownBlock = some g ∨ w.heap.size ≤ g) (hb : base ≤ w.heap.size) : DAt u base { p with vo := vo' } n { D with op := op' } := by
  obtain ⟨n1, n2, n3, n4, n5, n6, n7, n8, n9, n10⟩ := h.ok.ne
  obtain ⟨M, hM, hM2, hM3⟩ := h.fa
  obtain ⟨M', hM', hM2'⟩ := h.cr
  have hnv : ∀ b, b ∈ p.five → some b ≠ p.vo.ownBlock := fun b hb e => h.ok.o b e.symm hb
  have kgs := hk p.gs (readAt_lt h.sr) n1.symm n5 (hnv _ (five_gs p))
  have hcb : ∀ b, b ∈ p.cb → b < w.heap.size → u.heap[b]? = w.heap[b]? := fun b hb1 hb2 => hk b hb2 (fun e => (h.ok.c b hb1).1 (e ▸ five_B p)) (fun e => (h.ok.c b hb1).1 (e ▸ five_bl p)) (fun e => (h.ok.c b hb1).2 e.symm)
  have hlt5 : ∀ b, b ∈ p.five → b < w.heap.size := fun b hb1 => h.has_lt b (.inl hb1)
  refine ⟨⟨h.ok.d, fun g hg h5 => ?_, fun g hg => ⟨(h.ok.c g hg).1, fun e => ?_⟩, fun b hb1 => ?_⟩, hr, hc, ?_, ?_, h.sc, ho, hl, ⟨M, hM.kept (hk _ hM.lt n3.symm n8.symm (hnv _ (five_bf p))), hM2, hM3⟩, ⟨M', hM'.kept (hk _ hM'.lt n4.symm n9.symm (hnv _ (five_bc p))), fun k hk1 => ?_⟩, fun b hb1 => Nat.lt_of_lt_of_le (h.lt b hb1) hs⟩
  · rcases hv g hg with h1 | h1
    · exact h.ok.o g h1 h5
    · have := hlt5 g h5; omega
  · rcases hv g e with h1 | h1
    · exact (h.ok.c g hg).2 h1
    · have := h.lt g hg; omega
  · rcases hb1 with h1 | h1 | h1
    · exact h.ok.lo b (.inl h1)
    · rcases hv b h1 with h2 | h2
      · exact h.ok.lo b (.inr (.inl h2))
      · omega
    · exact h.ok.lo b (.inr (.inr h1))
  · rw [← h.sr]; simp [readAt, kgs]
  · rw [← h.sk]; simp [canAt, kgs]
  · rcases hM2' k hk1 with h1 | ⟨cs, v, h1, h2, h3, h4⟩
    · exact .inl h1
    · exact .inr ⟨cs, v, h1, h2, h3.same (fun g hg hl => hcb g (h4 g hg) hl), h4⟩
theorem re_has {p : DP} {vo' : Value} {w : World} (hv : ∀ g, vo'.ownBlock = some g → p.vo.ownBlock = some g ∨ w.heap.size ≤ g) : ∀ b, DP.has { p with vo := vo' } b → p.has b ∨ w.heap.size ≤ b := fun b hb => by
  rcases hb with h1 | h1 | h1
  · exact .inl (.inl h1)
  · rcases hv b h1 with h2 | h2
    · exact .inl (.inr (.inl h2))
    · exact .inr h2
  · exact .inl (.inr (.inr h1))

set_option maxHeartbeats 800000 in
theorem clear_any (w : World) (h : DAt w base p n D) (hbase : base ≤ w.heap.size) :
    Calls Try.prog 34 #[.pointer (some ⟨p.B, 0, none⟩)] w fun e w' => e = .returned (.tuple #[]) ∧ DNext w base p n { D with op := [] } w' := by
  obtain ⟨c0, c1, c2, -⟩ := h.cells
  have f1 := h.free 1
  have he := setCell_setAt (canAt_sub h.k 1 1 (by omega)) (.slice none 0 0)
  have ho := Ob.setAt w p.B 1 #[.slice none 0 0]
  obtain ⟨n1, n2, -⟩ := h.ok.ne
  obtain ⟨o, hcl, him⟩ := (ho.im n2.symm h.la).clear Try.underlying59 0
  have ho2 := Ob.setBlock (setAt w p.B 1 #[.slice none 0 0]) p.bl o
  have hr1 : readAt (setAt w p.B 1 #[.slice none 0 0]) p.B 0 7 = some (d7 { p with vo := .slice none 0 0 } n D.down D.steps) := by
    rw [readAt_setAt_over w p.B 0 7 _ h.r h.k 1 _ (by omega) (by simp)]; rfl
  have hk1 : canAt (setAt w p.B 1 #[.slice none 0 0]) p.B 0 7 = true := by rw [canAt_setAt _ _ _ _ _ _ _ (canAt_sub h.k 1 1 (by omega))]; exact h.k
  have HN : Hid (DNext w base p n { D with op := [] } (setBlock (w.setCell ⟨p.B, 1, none⟩ (.slice none 0 0)) p.bl o)) := by
    rw [he]
    have hv : ∀ g, (Value.slice none 0 0).ownBlock = some g → p.vo.ownBlock = some g ∨ w.heap.size ≤ g := fun g hg => (by cases hg)
    refine ⟨{ p with vo := .slice none 0 0 }, rfl, h.re (.slice none 0 0) [] ?_ ?_ ?_ ?_ ?_ ?_ hv hbase, ?_, re_has hv⟩
    · rw [ho2.size, ho.size]; exact Nat.le_refl _
    · intro b _ h1 h2 _; exact (ho2.block b h2).trans (ho.block b h1)
    · rw [ho2.readAt n2]; exact hr1
    · rw [ho2.canAt n2]; exact hk1
    · exact World.ownsRow_nil _ _ _ _
    · exact him
    · exact ((ho.kb has_B).ob ho2 (.inl (five_bl p)))
  rw [← he] at hcl
  clear h he ho n1 n2 him ho2 hr1 hk1
  go_enter Try.func34, Try.ntmps34
  go_wp2
  go_end0
  exact ⟨rfl, HN.out⟩
end
end Go.Proofs.Ytjedlcfeobhjnaa
