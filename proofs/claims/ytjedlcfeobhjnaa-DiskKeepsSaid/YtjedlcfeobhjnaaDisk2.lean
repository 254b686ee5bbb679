/- What step of a disk computes. Conditions: the receiver is a disk; the numbers are small. -/
import Derived.Test.YtjedlcfeobhjnaaDisk1
set_option linter.unusedSimpArgs false
set_option linter.unusedVariables false
namespace Go.Proofs.Ytjedlcfeobhjnaa
open Go.RowKit Go.ChangeMaps

section
variable {base n : Nat} {p : DP} {D : DM}
theorem zero_bool (w : World) : (zeroValue 4).run Try.prog w = .ok (.bool false) w := by kernel_rfl
theorem zero_ints (w : World) : (zeroValue 23).run Try.prog w = .ok (.slice none 0 0) w := by kernel_rfl
theorem zero_int (w : World) : (zeroValue 3).run Try.prog w = .ok (.int .i64 0) w := by kernel_rfl

theorem DAt.lookF {w u : World} (h : DAt w base p n D) (hu : u.heap[p.bf]? = w.heap[p.bf]?) (k : Int) (h1 : D.steps < k) (h64 : I64 k) :
    (Instr.lookup 60 (.map (some p.bf)) (.int .i64 k) false).run Try.prog u = .ok (.bool (evF D.plan k)) u := by
  obtain ⟨M, hM, hM2, hM3⟩ := h.fa
  rw [(hM.kept hu).look h64 Try.underlying60 (zero_bool u) false, ← hM2 k h1]
  cases hq : M k with
  | none => rfl
  | some v => rw [hM3 k v hq]; rfl
theorem DAt.lookC {w u : World} (h : DAt w base p n D) (hu : u.heap[p.bc]? = w.heap[p.bc]?) (k : Int) (h1 : D.steps < k) (h64 : I64 k) :
    ∃ v ok, (Instr.lookup 61 (.map (some p.bc)) (.int .i64 k) true).run Try.prog u = .ok (.tuple #[v, .bool ok]) u ∧ ((ok = true ∧ ∃ cs, evC D.plan k = some cs ∧ CutsAt w p v cs) ∨ (ok = false ∧ evC D.plan k = none)) := by
  obtain ⟨M, hM, hM2⟩ := h.cr
  refine ⟨_, _, (hM.kept hu).look h64 Try.underlying61 (zero_ints u) true, ?_⟩
  rcases hM2 k h1 with ⟨e1, e2⟩ | ⟨cs, v, e1, e2, e3⟩
  · exact .inr ⟨by rw [e2]; rfl, e1⟩
  · exact .inl ⟨by rw [e2]; rfl, cs, e1, by rw [e2]; exact e3⟩

theorem DAt.delF {w : World} (h : DAt w base p n D) (k : Int) (hk : k ≤ D.steps) (h64 : I64 k) (ty : TypeId) :
    ∃ o, (Builtin.delete_ #[60, 3] ty #[.map (some p.bf), .int .i64 k]).run Try.prog w = .ok (.tuple #[]) (setBlock w p.bf o) ∧ DAt (setBlock w p.bf o) base p n D := by
  obtain ⟨n1, n2, n3, n4, n5, n6, n7, n8, n9, n10⟩ := h.ok.ne
  obtain ⟨M, hM, hM2, hM3⟩ := h.fa
  obtain ⟨M', hM', hM2'⟩ := h.cr
  obtain ⟨o, hrun, him⟩ := hM.drop h64 Try.underlying60 ty
  have ho := Ob.setBlock w p.bf o
  have hc : ∀ g, g ∈ p.cb → g ≠ p.bf := fun g hg e => (h.ok.c g hg).1 (e ▸ five_bf p)
  refine ⟨o, hrun, h.ok, by rw [ho.readAt n3]; exact h.r, by rw [ho.canAt n3]; exact h.k, by rw [ho.readAt n6]; exact h.sr, by rw [ho.canAt n6]; exact h.sk, h.sc, ho.own h.op (h.ok.o' (five_bf p)), ho.im n8 h.la, ⟨_, him, fun j hj => ?_, fun j v hv => ?_⟩, ⟨M', ho.im n10.symm hM', fun k hk => (hM2' k hk).same (fun b hb _ => ho.block b (hc b hb))⟩, fun b hb => by rw [ho.size]; exact h.lt b hb⟩
  · have : j ≠ k := by omega
    unfold upd; rw [if_neg this]; exact hM2 j hj
  · unfold upd at hv
    split at hv
    · cases hv
    · exact hM3 j v hv
theorem DAt.delC {w : World} (h : DAt w base p n D) (k : Int) (hk : k ≤ D.steps) (h64 : I64 k) (ty : TypeId) :
    ∃ o, (Builtin.delete_ #[61, 3] ty #[.map (some p.bc), .int .i64 k]).run Try.prog w = .ok (.tuple #[]) (setBlock w p.bc o) ∧ DAt (setBlock w p.bc o) base p n D := by
  obtain ⟨n1, n2, n3, n4, n5, n6, n7, n8, n9, n10⟩ := h.ok.ne
  obtain ⟨M, hM, hM2, hM3⟩ := h.fa
  obtain ⟨M', hM', hM2'⟩ := h.cr
  obtain ⟨o, hrun, him⟩ := hM'.drop h64 Try.underlying61 ty
  have ho := Ob.setBlock w p.bc o
  have hc : ∀ g, g ∈ p.cb → g ≠ p.bc := fun g hg e => (h.ok.c g hg).1 (e ▸ five_bc p)
  refine ⟨o, hrun, h.ok, by rw [ho.readAt n4]; exact h.r, by rw [ho.canAt n4]; exact h.k, by rw [ho.readAt n7]; exact h.sr, by rw [ho.canAt n7]; exact h.sk, h.sc, ho.own h.op (h.ok.o' (five_bc p)), ho.im n9 h.la, ⟨M, ho.im n10 hM, hM2, hM3⟩, ⟨_, him, fun j hj => ?_⟩, fun b hb => by rw [ho.size]; exact h.lt b hb⟩
  have hj2 : j ≠ k := by omega
  have h3 : upd M' k none j = M' j := by unfold upd; rw [if_neg hj2]
  have h4 := (hM2' j hj).same (w' := setBlock w p.bc o) (fun b hb _ => ho.block b (hc b hb))
  unfold CutOk at h4 ⊢
  rw [h3]; exact h4

/-- What step returns. -/
def StepOut (w' : World) (p : DP) (D : DM) (e : Ending) : Prop :=
  (∃ cs v, evC D.plan (D.steps + 1) = some cs ∧ e = .returned (.tuple #[.int .i64 2, v]) ∧ CutsAt w' p v cs) ∨
  (evC D.plan (D.steps + 1) = none ∧ evF D.plan (D.steps + 1) = true ∧ e = .returned (.tuple #[.int .i64 1, .slice none 0 0])) ∨
  (evC D.plan (D.steps + 1) = none ∧ evF D.plan (D.steps + 1) = false ∧ e = .returned (.tuple #[.int .i64 0, .slice none 0 0]))

set_option maxRecDepth 100000 in
set_option maxHeartbeats 3200000 in
theorem step_any' (w : World) (h : DAt w base p n D) (h0 : 0 ≤ D.steps) (h1 : D.steps ≤ 1000000) :
    Calls Try.prog 30 #[.pointer (some ⟨p.B, 0, none⟩)] w fun e w' => StepOut w' p D e ∧ DAt w' base p n (tickD D) ∧ Kb p.has w w' := by
  obtain ⟨-, -, -, -, c4, -⟩ := h.cells
  have f4 := h.free 4
  obtain ⟨n1, n2, n3, n4, n5, n6, n7, n8, n9, n10⟩ := h.ok.ne
  have hd : DAt (setAt w p.B 4 #[.int .i64 (D.steps + 1)]) base p n (tickD D) := h.setSteps (D.steps + 1) (by omega)
  have he := setCell_setAt (canAt_sub h.k 4 1 (by omega)) (.int .i64 (D.steps + 1))
  have ho := Ob.setAt w p.B 4 #[.int .i64 (D.steps + 1)]
  rw [← he] at hd ho
  have h64 : I64 (D.steps + 1) := by unfold I64; omega
  have hlc : ∀ cs v, CutsAt w p v cs → ∀ u, (∀ b, p.has b → b ≠ p.B → b ≠ p.bf → b ≠ p.bc → u.heap[b]? = w.heap[b]?) → CutsAt u p v cs := by
    rintro cs v ⟨hr, hb⟩ u hu
    refine ⟨hr.same (fun g hg _ => ?_), hb⟩
    have hgc := hb g hg
    have hne := (h.ok.c g hgc).1
    exact hu g (.inr (.inr hgc)) (fun e => hne (e ▸ five_B p)) (fun e => hne (e ▸ five_bf p)) (fun e => hne (e ▸ five_bc p))
  have Hd := Lib.hid hd
  have Ho := Lib.hid ho
  have H := Lib.hid h
  have H64 := Lib.hid h64
  have Hlc := Lib.hid hlc
  have Hn3 := Lib.hid n3
  have Hn4 := Lib.hid n4
  have Hn10 := Lib.hid n10
  clear hd ho he h h64 hlc n1 n2 n3 n4 n5 n6 n7 n8 n9 n10
  go_enter Try.func30, Try.ntmps30
  go_wp2_with fail
  generalize hw1 : w.setCell ⟨p.B, 4, none⟩ (.int .i64 (D.steps + 1)) = w1 at *
  clear hw1 c4 f4
  refine wp_region_tr (.take 0 (.take 1 (.take 2 (.take 3 (.take 4 (.take 5 (.take 6 (.take 7 (.take 8 (.take 9 .done)))))))))) (fun u => u = w1.drew) (by kernel_rfl) (by kernel_rfl) rfl (by kernel_rfl) rfl ?_
  have Hd2 := Lib.hid Hd.out.drew
  have hf2 : w1.drew.heap[p.bf]? = w.heap[p.bf]? := Ho.out.block _ Hn3.out.symm
  have hc2 : w1.drew.heap[p.bc]? = w.heap[p.bc]? := Ho.out.block _ Hn4.out.symm
  have Hw2 : Hid (∀ b, b ≠ p.B → w1.drew.heap[b]? = w.heap[b]?) := fun b hb => Ho.out.block b hb
  have Hk2 : Hid (Kb p.has w w1.drew) := (Ho.out.kb has_B).trans (Kb.of_below (X := p.has) (Below.refl _ _).drew) (fun i hi => .inl hi)
  clear Hd Ho Hn3 Hn4
  generalize w1.drew = w2 at *
  have hl := H.out.lookF (u := w2) hf2 (D.steps + 1) (by omega) H64.out
  obtain ⟨-, -, -, -, c4, c5, -⟩ := Hd2.out.cells
  have c4' : w2.cell? ⟨p.B, 4, none⟩ = some (.int .i64 (D.steps + 1)) := c4
  clear c4 hf2
  repeat (first | (refine t_off rfl rfl ?_; simp only [List.getElem_toArray, List.getElem_cons_succ, List.getElem_cons_zero, Act.put, Act.eval, List.setIfInBounds_toArray, List.set_cons_zero, List.set_cons_succ, Array.getD_eq_getD_getElem?, List.getElem?_toArray, List.getElem?_cons_succ, List.getElem?_cons_zero, Option.getD_some]) | (refine t_move rfl _ rfl rfl ?_; simp only [List.getElem_toArray, List.getElem_cons_succ, List.getElem_cons_zero, Act.put, Act.eval, List.setIfInBounds_toArray, List.set_cons_zero, List.set_cons_succ, Array.getD_eq_getD_getElem?, List.getElem?_toArray, List.getElem?_cons_succ, List.getElem?_cons_zero, Option.getD_some]) | (refine t_assign rfl _ rfl rfl ?_; simp only [List.getElem_toArray, List.getElem_cons_succ, List.getElem_cons_zero, Act.put, Act.eval, List.setIfInBounds_toArray, List.set_cons_zero, List.set_cons_succ, Array.getD_eq_getD_getElem?, List.getElem?_toArray, List.getElem?_cons_succ, List.getElem?_cons_zero, Option.getD_some]) | (refine t_val rfl rfl ?_; apply Exists.intro; refine ⟨fun w' hC' => ?_, ?_⟩; (subst hC'; go_simp; (first | done | exact rfl)); simp only [List.getElem_toArray, List.getElem_cons_succ, List.getElem_cons_zero, Act.put, Act.eval, List.setIfInBounds_toArray, List.set_cons_zero, List.set_cons_succ, Array.getD_eq_getD_getElem?, List.getElem?_toArray, List.getElem?_cons_succ, List.getElem?_cons_zero, Option.getD_some]) | (refine p_off rfl rfl ?_; simp only [List.getElem_toArray, List.getElem_cons_succ, List.getElem_cons_zero, Act.put, Act.eval, List.setIfInBounds_toArray, List.set_cons_zero, List.set_cons_succ, Array.getD_eq_getD_getElem?, List.getElem?_toArray, List.getElem?_cons_succ, List.getElem?_cons_zero, Option.getD_some]) | (refine p_val rfl rfl ?_; apply Exists.intro; refine ⟨fun w' => ?_, ?_⟩; (go_simp; (first | done | exact rfl)); simp only [List.getElem_toArray, List.getElem_cons_succ, List.getElem_cons_zero, Act.put, Act.eval, List.setIfInBounds_toArray, List.set_cons_zero, List.set_cons_succ, Array.getD_eq_getD_getElem?, List.getElem?_toArray, List.getElem?_cons_succ, List.getElem?_cons_zero, Option.getD_some]))
  refine t_done ?_
  clear hl c4' c5
  go_wp2_with fail
  refine wp_region_tr (.take 0 (.take 1 (.take 2 (.take 3 (.take 4 (.take 5 (.take 6 (.take 7 (.take 8 (.take 9 (.take 10 (.take 11 (.take 12 (.take 13 .done)))))))))))))) (fun u => u = w2.drew) (by kernel_rfl) (by kernel_rfl) rfl (by kernel_rfl) rfl ?_
  have Hd3 := Lib.hid Hd2.out.drew
  have hc3 : w2.drew.heap[p.bc]? = w.heap[p.bc]? := hc2
  have Hw3 : Hid (∀ b, b ≠ p.B → w2.drew.heap[b]? = w.heap[b]?) := fun b hb => Hw2.out b hb
  have Hk3 : Hid (Kb p.has w w2.drew) := Hk2.out.trans (Kb.of_below (X := p.has) (Below.refl _ _).drew) (fun i hi => .inl hi)
  clear hc2 Hd2 Hw2 Hk2
  generalize w2.drew = w3 at *
  obtain ⟨vc, ok, hl, hok⟩ := H.out.lookC (u := w3) hc3 (D.steps + 1) (by omega) H64.out
  obtain ⟨-, -, -, -, c4, -, c6⟩ := Hd3.out.cells
  have c4' : w3.cell? ⟨p.B, 4, none⟩ = some (.int .i64 (D.steps + 1)) := c4
  have Hok := Lib.hid hok
  clear c4 hc3 hok
  repeat (first | (refine t_off rfl rfl ?_; simp only [List.getElem_toArray, List.getElem_cons_succ, List.getElem_cons_zero, Act.put, Act.eval, List.setIfInBounds_toArray, List.set_cons_zero, List.set_cons_succ, Array.getD_eq_getD_getElem?, List.getElem?_toArray, List.getElem?_cons_succ, List.getElem?_cons_zero, Option.getD_some]) | (refine t_move rfl _ rfl rfl ?_; simp only [List.getElem_toArray, List.getElem_cons_succ, List.getElem_cons_zero, Act.put, Act.eval, List.setIfInBounds_toArray, List.set_cons_zero, List.set_cons_succ, Array.getD_eq_getD_getElem?, List.getElem?_toArray, List.getElem?_cons_succ, List.getElem?_cons_zero, Option.getD_some]) | (refine t_assign rfl _ rfl rfl ?_; simp only [List.getElem_toArray, List.getElem_cons_succ, List.getElem_cons_zero, Act.put, Act.eval, List.setIfInBounds_toArray, List.set_cons_zero, List.set_cons_succ, Array.getD_eq_getD_getElem?, List.getElem?_toArray, List.getElem?_cons_succ, List.getElem?_cons_zero, Option.getD_some]) | (refine t_val rfl rfl ?_; apply Exists.intro; refine ⟨fun w' hC' => ?_, ?_⟩; (subst hC'; go_simp; (first | done | exact rfl)); simp only [List.getElem_toArray, List.getElem_cons_succ, List.getElem_cons_zero, Act.put, Act.eval, List.setIfInBounds_toArray, List.set_cons_zero, List.set_cons_succ, Array.getD_eq_getD_getElem?, List.getElem?_toArray, List.getElem?_cons_succ, List.getElem?_cons_zero, Option.getD_some]) | (refine p_off rfl rfl ?_; simp only [List.getElem_toArray, List.getElem_cons_succ, List.getElem_cons_zero, Act.put, Act.eval, List.setIfInBounds_toArray, List.set_cons_zero, List.set_cons_succ, Array.getD_eq_getD_getElem?, List.getElem?_toArray, List.getElem?_cons_succ, List.getElem?_cons_zero, Option.getD_some]) | (refine p_val rfl rfl ?_; apply Exists.intro; refine ⟨fun w' => ?_, ?_⟩; (go_simp; (first | done | exact rfl)); simp only [List.getElem_toArray, List.getElem_cons_succ, List.getElem_cons_zero, Act.put, Act.eval, List.setIfInBounds_toArray, List.set_cons_zero, List.set_cons_succ, Array.getD_eq_getD_getElem?, List.getElem?_toArray, List.getElem?_cons_succ, List.getElem?_cons_zero, Option.getD_some]))
  refine t_done ?_
  clear hl c4' c6
  go_wp2_with fail
  refine wp_region_tr (.take 0 (.take 1 (.take 2 (.take 3 (.take 4 (.take 5 (.take 6 (.take 7 (.run 8 .done))))))))) (fun u => readAt u p.B 0 7 = some (d7 p n D.down (D.steps + 1))) (by kernel_rfl) (by kernel_rfl) rfl (by kernel_rfl) Hd3.out.drew.r ?_
  have Hd4 := Lib.hid Hd3.out.drew
  have Hw4 : Hid (∀ b, b ≠ p.B → w3.drew.heap[b]? = w.heap[b]?) := fun b hb => Hw3.out b hb
  have Hk4 : Hid (Kb p.has w w3.drew) := Hk3.out.trans (Kb.of_below (X := p.has) (Below.refl _ _).drew) (fun i hi => .inl hi)
  clear Hd3 Hw3 Hk3
  generalize w3.drew = w4 at *
  obtain ⟨o, hdel, hd5⟩ := Hd4.out.delF (D.steps + 1) (Int.le_refl _) H64.out 0
  have Ho5 := Lib.hid (Ob.setBlock w4 p.bf o)
  have Hd5 := Lib.hid hd5
  clear hd5
  repeat (first | (refine t_off rfl rfl ?_; simp only [List.getElem_toArray, List.getElem_cons_succ, List.getElem_cons_zero, Act.put, Act.eval, List.setIfInBounds_toArray, List.set_cons_zero, List.set_cons_succ, Array.getD_eq_getD_getElem?, List.getElem?_toArray, List.getElem?_cons_succ, List.getElem?_cons_zero, Option.getD_some]) | (refine t_move rfl _ rfl rfl ?_; simp only [List.getElem_toArray, List.getElem_cons_succ, List.getElem_cons_zero, Act.put, Act.eval, List.setIfInBounds_toArray, List.set_cons_zero, List.set_cons_succ, Array.getD_eq_getD_getElem?, List.getElem?_toArray, List.getElem?_cons_succ, List.getElem?_cons_zero, Option.getD_some]) | (refine t_assign rfl _ rfl rfl ?_; simp only [List.getElem_toArray, List.getElem_cons_succ, List.getElem_cons_zero, Act.put, Act.eval, List.setIfInBounds_toArray, List.set_cons_zero, List.set_cons_succ, Array.getD_eq_getD_getElem?, List.getElem?_toArray, List.getElem?_cons_succ, List.getElem?_cons_zero, Option.getD_some]) | (refine t_val rfl rfl ?_; apply Exists.intro; refine ⟨fun w' hC' => ?_, ?_⟩; (obtain ⟨-, -, -, -, c4, c5, c6⟩ := d7_cells hC'; go_simp; (first | done | exact rfl)); simp only [List.getElem_toArray, List.getElem_cons_succ, List.getElem_cons_zero, Act.put, Act.eval, List.setIfInBounds_toArray, List.set_cons_zero, List.set_cons_succ, Array.getD_eq_getD_getElem?, List.getElem?_toArray, List.getElem?_cons_succ, List.getElem?_cons_zero, Option.getD_some]) | (refine p_off rfl rfl ?_; simp only [List.getElem_toArray, List.getElem_cons_succ, List.getElem_cons_zero, Act.put, Act.eval, List.setIfInBounds_toArray, List.set_cons_zero, List.set_cons_succ, Array.getD_eq_getD_getElem?, List.getElem?_toArray, List.getElem?_cons_succ, List.getElem?_cons_zero, Option.getD_some]) | (refine p_val rfl rfl ?_; apply Exists.intro; refine ⟨fun w' => ?_, ?_⟩; (go_simp; (first | done | exact rfl)); simp only [List.getElem_toArray, List.getElem_cons_succ, List.getElem_cons_zero, Act.put, Act.eval, List.setIfInBounds_toArray, List.set_cons_zero, List.set_cons_succ, Array.getD_eq_getD_getElem?, List.getElem?_toArray, List.getElem?_cons_succ, List.getElem?_cons_zero, Option.getD_some]))
  refine r_any rfl rfl (fun K hK => ?_)
  go_simp
  refine hK _ _ (fun u => readAt u p.B 0 7 = some (d7 p n D.down (D.steps + 1))) (fun _ h => h) Hd5.out.r ?_
  clear hK K
  try simp only [List.getElem_toArray, List.getElem_cons_succ, List.getElem_cons_zero, Act.put, Act.eval, List.setIfInBounds_toArray, List.set_cons_zero, List.set_cons_succ, Array.getD_eq_getD_getElem?, List.getElem?_toArray, List.getElem?_cons_succ, List.getElem?_cons_zero, Option.getD_some]
  refine t_done ?_
  clear hdel
  have Hw5 : Hid (∀ b, b ≠ p.B → b ≠ p.bf → (setBlock w4 p.bf o).heap[b]? = w.heap[b]?) := fun b hb hb2 => (Ho5.out.block b hb2).trans (Hw4.out b hb)
  have Hk5 : Hid (Kb p.has w (setBlock w4 p.bf o)) := Hk4.out.trans (Ho5.out.kb (X := p.has) (.inl (five_bf p))) (fun i hi => .inl hi)
  clear Ho5 Hw4 Hk4 Hd4
  generalize setBlock w4 p.bf o = w5 at *
  go_wp2_with fail
  refine wp_region_tr (.take 0 (.take 1 (.take 2 (.take 3 (.take 4 (.take 5 (.take 6 (.take 7 (.run 8 .done))))))))) (fun u => readAt u p.B 0 7 = some (d7 p n D.down (D.steps + 1))) (by kernel_rfl) (by kernel_rfl) rfl (by kernel_rfl) Hd5.out.drew.r ?_
  have Hd6 := Lib.hid Hd5.out.drew
  have Hw6 : Hid (∀ b, b ≠ p.B → b ≠ p.bf → w5.drew.heap[b]? = w.heap[b]?) := fun b hb hb2 => Hw5.out b hb hb2
  have Hk6 : Hid (Kb p.has w w5.drew) := Hk5.out.trans (Kb.of_below (X := p.has) (Below.refl _ _).drew) (fun i hi => .inl hi)
  clear Hd5 Hw5 Hk5
  generalize w5.drew = w6 at *
  obtain ⟨o2, hdel, hd7⟩ := Hd6.out.delC (D.steps + 1) (Int.le_refl _) H64.out 0
  have Ho7 := Lib.hid (Ob.setBlock w6 p.bc o2)
  have Hd7 := Lib.hid hd7
  clear hd7
  repeat (first | (refine t_off rfl rfl ?_; simp only [List.getElem_toArray, List.getElem_cons_succ, List.getElem_cons_zero, Act.put, Act.eval, List.setIfInBounds_toArray, List.set_cons_zero, List.set_cons_succ, Array.getD_eq_getD_getElem?, List.getElem?_toArray, List.getElem?_cons_succ, List.getElem?_cons_zero, Option.getD_some]) | (refine t_move rfl _ rfl rfl ?_; simp only [List.getElem_toArray, List.getElem_cons_succ, List.getElem_cons_zero, Act.put, Act.eval, List.setIfInBounds_toArray, List.set_cons_zero, List.set_cons_succ, Array.getD_eq_getD_getElem?, List.getElem?_toArray, List.getElem?_cons_succ, List.getElem?_cons_zero, Option.getD_some]) | (refine t_assign rfl _ rfl rfl ?_; simp only [List.getElem_toArray, List.getElem_cons_succ, List.getElem_cons_zero, Act.put, Act.eval, List.setIfInBounds_toArray, List.set_cons_zero, List.set_cons_succ, Array.getD_eq_getD_getElem?, List.getElem?_toArray, List.getElem?_cons_succ, List.getElem?_cons_zero, Option.getD_some]) | (refine t_val rfl rfl ?_; apply Exists.intro; refine ⟨fun w' hC' => ?_, ?_⟩; (obtain ⟨-, -, -, -, c4, c5, c6⟩ := d7_cells hC'; go_simp; (first | done | exact rfl)); simp only [List.getElem_toArray, List.getElem_cons_succ, List.getElem_cons_zero, Act.put, Act.eval, List.setIfInBounds_toArray, List.set_cons_zero, List.set_cons_succ, Array.getD_eq_getD_getElem?, List.getElem?_toArray, List.getElem?_cons_succ, List.getElem?_cons_zero, Option.getD_some]) | (refine p_off rfl rfl ?_; simp only [List.getElem_toArray, List.getElem_cons_succ, List.getElem_cons_zero, Act.put, Act.eval, List.setIfInBounds_toArray, List.set_cons_zero, List.set_cons_succ, Array.getD_eq_getD_getElem?, List.getElem?_toArray, List.getElem?_cons_succ, List.getElem?_cons_zero, Option.getD_some]) | (refine p_val rfl rfl ?_; apply Exists.intro; refine ⟨fun w' => ?_, ?_⟩; (go_simp; (first | done | exact rfl)); simp only [List.getElem_toArray, List.getElem_cons_succ, List.getElem_cons_zero, Act.put, Act.eval, List.setIfInBounds_toArray, List.set_cons_zero, List.set_cons_succ, Array.getD_eq_getD_getElem?, List.getElem?_toArray, List.getElem?_cons_succ, List.getElem?_cons_zero, Option.getD_some]))
  refine r_any rfl rfl (fun K hK => ?_)
  go_simp
  refine hK _ _ (fun u => readAt u p.B 0 7 = some (d7 p n D.down (D.steps + 1))) (fun _ h => h) Hd7.out.r ?_
  clear hK K
  try simp only [List.getElem_toArray, List.getElem_cons_succ, List.getElem_cons_zero, Act.put, Act.eval, List.setIfInBounds_toArray, List.set_cons_zero, List.set_cons_succ, Array.getD_eq_getD_getElem?, List.getElem?_toArray, List.getElem?_cons_succ, List.getElem?_cons_zero, Option.getD_some]
  refine t_done ?_
  clear hdel
  have Hw7 : Hid (∀ b, b ≠ p.B → b ≠ p.bf → b ≠ p.bc → (setBlock w6 p.bc o2).heap[b]? = w.heap[b]?) := fun b hb hb2 hb3 => (Ho7.out.block b hb3).trans (Hw6.out b hb hb2)
  have Hk7 : Hid (Kb p.has w (setBlock w6 p.bc o2)) := Hk6.out.trans (Ho7.out.kb (X := p.has) (.inl (five_bc p))) (fun i hi => .inl hi)
  clear Ho7 Hw6 Hk6 Hd6
  generalize setBlock w6 p.bc o2 = w7 at *
  rcases Hok.out with ⟨rfl, cs, e1, e2⟩ | ⟨rfl, e1⟩
  · have HA : Hid (StepOut w7 p D (.returned (.tuple #[.int .i64 2, vc]))) := .inl ⟨cs, vc, e1, rfl, Hlc.out cs vc e2 w7 (fun b _ h1 h2 h3 => Hw7.out b h1 h2 h3)⟩
    clear e1 e2 Hok
    go_wp2
    go_ret2
    exact ⟨HA.out, Hd7.out, Hk7.out⟩
  · cases hF : evF D.plan (D.steps + 1)
    · have HA : Hid (StepOut w7 p D (.returned (.tuple #[.int .i64 0, .slice none 0 0]))) := .inr (.inr ⟨e1, hF, rfl⟩)
      clear e1 Hok hF
      go_wp2
      go_ret2
      exact ⟨HA.out, Hd7.out, Hk7.out⟩
    · have HA : Hid (StepOut w7 p D (.returned (.tuple #[.int .i64 1, .slice none 0 0]))) := .inr (.inl ⟨e1, hF, rfl⟩)
      clear e1 Hok hF
      go_wp2
      go_ret2
      exact ⟨HA.out, Hd7.out, Hk7.out⟩
end
end Go.Proofs.Ytjedlcfeobhjnaa
