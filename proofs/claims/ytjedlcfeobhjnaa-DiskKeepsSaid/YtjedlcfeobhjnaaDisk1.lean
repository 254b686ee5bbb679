/- What the small methods of a disk compute: has, Size, Down, Steps, Open, Start. Conditions: the receiver is a disk. -/
import Derived.Test.YtjedlcfeobhjnaaDRep
import Derived.Test.YtjedlcfeobhjnaaPerm
set_option linter.unusedSimpArgs false
set_option linter.unusedVariables false
namespace Go.Proofs.Ytjedlcfeobhjnaa
open Go.RowKit Go.ChangeMaps

section
variable {base n : Nat} {p : DP} {D : DM}
theorem nle (h : D.st.length = n) (hn : n ≤ 5000) : (D.st.length : Int) = n := by rw [h]
theorem has_no (w : World) (k : Int) (h : DAt w base p n D) (hk : decide (0 ≤ k) = false) :
    Calls Try.prog 43 #[.pointer (some ⟨p.B, 0, none⟩), .int .i64 k] w fun e w' => e = .returned (.bool false) ∧ w = w' := by
  go_enter Try.func43, Try.ntmps43
  go_wp2
  go_ret
  exact ⟨rfl, rfl⟩
theorem has_yes (w : World) (k : Int) (h : DAt w base p n D) (hk : decide (0 ≤ k) = true) (hn : n ≤ 5000) :
    Calls Try.prog 43 #[.pointer (some ⟨p.B, 0, none⟩), .int .i64 k] w fun e w' => e = .returned (.bool (decide (k < n))) ∧ w = w' := by
  obtain ⟨c0, -⟩ := h.cells
  clear h
  have hk2 : 0 ≤ k := by simpa using hk
  go_enter Try.func43, Try.ntmps43
  go_wp2
  all_goals
    go_ret
    first
      | exact ⟨rfl, rfl⟩
      | exact ⟨ret_bool (by simp; omega), rfl⟩
theorem has_any (w : World) (k : Int) (h : DAt w base p n D) (hl : D.st.length = n) (hn : n ≤ 5000) :
    Calls Try.prog 43 #[.pointer (some ⟨p.B, 0, none⟩), .int .i64 k] w fun e w' => e = .returned (.bool (hasD D k)) ∧ w = w' := by
  by_cases hk : decide (0 ≤ k) = true
  · have := has_yes w k h hk hn
    unfold hasD; rw [hk, hl]; simpa using this
  · have hk' : decide (0 ≤ k) = false := by simpa using hk
    have := has_no w k h hk'
    unfold hasD; rw [hk']; simpa using this

theorem size_any (w : World) (h : DAt w base p n D) :
    Calls Try.prog 24 #[.pointer (some ⟨p.B, 0, none⟩)] w fun e w' => e = .returned (.int .i64 n) ∧ w = w' := by
  obtain ⟨c0, -⟩ := h.cells
  clear h
  go_enter Try.func24, Try.ntmps24
  go_wp2
  go_ret
  exact ⟨rfl, rfl⟩
theorem down_any (w : World) (h : DAt w base p n D) :
    Calls Try.prog 17 #[.pointer (some ⟨p.B, 0, none⟩)] w fun e w' => e = .returned (.bool D.down) ∧ w = w' := by
  obtain ⟨-, -, -, c3, -⟩ := h.cells
  clear h
  go_enter Try.func17, Try.ntmps17
  go_wp2
  go_ret
  exact ⟨rfl, rfl⟩
theorem steps_any (w : World) (h : DAt w base p n D) :
    Calls Try.prog 12 #[.pointer (some ⟨p.B, 0, none⟩)] w fun e w' => e = .returned (.int .i64 D.steps) ∧ w = w' := by
  obtain ⟨-, -, -, -, c4, -⟩ := h.cells
  clear h
  go_enter Try.func12, Try.ntmps12
  go_wp2
  go_ret
  exact ⟨rfl, rfl⟩
theorem open_any (w : World) (h : DAt w base p n D) :
    Calls Try.prog 20 #[.pointer (some ⟨p.B, 0, none⟩)] w fun e w' => e = .returned (.int .i64 D.op.length) ∧ w = w' := by
  obtain ⟨-, c1, -⟩ := h.cells
  obtain ⟨ad, cap, hv, _⟩ := RdS_of_own h.op
  rw [hv] at c1
  clear h hv
  go_enter Try.func20, Try.ntmps20
  go_wp2
  go_ret
  exact ⟨rfl, rfl⟩

/-- A cell of the disk is written. -/
theorem DAt.setDown {w : World} (h : DAt w base p n D) (d : Bool) : DAt (setAt w p.B 3 #[.bool d]) base p n { D with down := d } := by
  have ho := Ob.setAt w p.B 3 #[.bool d]
  obtain ⟨n1, n2, n3, n4, _⟩ := h.ok.ne
  obtain ⟨M, hM, hM2⟩ := h.fa
  obtain ⟨M', hM', hM2'⟩ := h.cr
  have hc : ∀ g, g ∈ p.cb → g ≠ p.B := fun g hg e => (h.ok.c g hg).1 (e ▸ five_B p)
  refine ⟨h.ok, ?_, ?_, by rw [ho.readAt n1.symm]; exact h.sr, by rw [ho.canAt n1.symm]; exact h.sk, h.sc, ho.own h.op (h.ok.o' (five_B p)), ho.im n2.symm h.la, ⟨M, ho.im n3.symm hM, hM2⟩, ⟨M', ho.im n4.symm hM', fun k hk => (hM2' k hk).same (fun b hb _ => ho.block b (hc b hb))⟩, fun b hb => by rw [ho.size]; exact h.lt b hb⟩
  · rw [readAt_setAt_over w p.B 0 7 _ h.r h.k 3 _ (by omega) (by simp)]; rfl
  · rw [canAt_setAt _ _ _ _ _ _ _ (canAt_sub h.k 3 1 (by omega))]; exact h.k
theorem DAt.setSteps {w : World} (h : DAt w base p n D) (s : Int) (hs : D.steps ≤ s) : DAt (setAt w p.B 4 #[.int .i64 s]) base p n { D with steps := s } := by
  have ho := Ob.setAt w p.B 4 #[.int .i64 s]
  obtain ⟨n1, n2, n3, n4, _⟩ := h.ok.ne
  obtain ⟨M, hM, hM2, hM3⟩ := h.fa
  obtain ⟨M', hM', hM2'⟩ := h.cr
  have hc : ∀ g, g ∈ p.cb → g ≠ p.B := fun g hg e => (h.ok.c g hg).1 (e ▸ five_B p)
  refine ⟨h.ok, ?_, ?_, by rw [ho.readAt n1.symm]; exact h.sr, by rw [ho.canAt n1.symm]; exact h.sk, h.sc, ho.own h.op (h.ok.o' (five_B p)), ho.im n2.symm h.la, ⟨M, ho.im n3.symm hM, fun k hk => hM2 k (by have : s < k := hk; omega), hM3⟩, ⟨M', ho.im n4.symm hM', fun k hk => (hM2' k (by have : s < k := hk; omega)).same (fun b hb _ => ho.block b (hc b hb))⟩, fun b hb => by rw [ho.size]; exact h.lt b hb⟩
  · rw [readAt_setAt_over w p.B 0 7 _ h.r h.k 4 _ (by omega) (by simp)]; rfl
  · rw [canAt_setAt _ _ _ _ _ _ _ (canAt_sub h.k 4 1 (by omega))]; exact h.k
theorem has_B : p.has p.B := .inl (five_B p)

theorem start_any (w : World) (h : DAt w base p n D) :
    Calls Try.prog 27 #[.pointer (some ⟨p.B, 0, none⟩)] w fun e w' => e = .returned (.tuple #[]) ∧ DNext w base p n (startD D) w' := by
  obtain ⟨-, -, -, c3, -⟩ := h.cells
  have f3 := h.free 3
  have hd := h.setDown false
  have he := setCell_setAt (canAt_sub h.k 3 1 (by omega)) (.bool false)
  have Hn : Hid (DNext w base p n (startD D) (w.setCell ⟨p.B, 3, none⟩ (.bool false))) := by
    rw [he]
    exact ⟨p, rfl, hd, (Ob.setAt w p.B 3 _).kb has_B, fun b hb => .inl hb⟩
  clear h hd he
  go_enter Try.func27, Try.ntmps27
  go_wp2
  go_end0
  exact ⟨rfl, Hn.out⟩
end
end Go.Proofs.Ytjedlcfeobhjnaa
