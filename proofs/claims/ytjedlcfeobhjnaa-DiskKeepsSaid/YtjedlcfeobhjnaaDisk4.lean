/- What add of a disk computes. Conditions: the receiver is a disk; the numbers are small. -/
import Derived.Test.YtjedlcfeobhjnaaDisk3
set_option linter.unusedSimpArgs false
set_option linter.unusedVariables false
namespace Go.Proofs.Ytjedlcfeobhjnaa
open Go.RowKit Go.ChangeMaps

section
variable {base n : Nat} {p : DP} {D : DM}
theorem add_no (w : World) (k : Int) (x : Sec) (h : DAt w base p n D) (hl : D.st.length = n) (hn : n ≤ 5000) (hk : hasD D k = false) :
    Calls Try.prog 31 #[.pointer (some ⟨p.B, 0, none⟩), .int .i64 k, .agg (av x)] w fun e w' => e = .returned (.bool false) ∧ Below w.heap.size w w' := by
  have hb := ba (.cells (av x) 35) (Below.refl w.heap.size w)
  have H := Lib.hid (h.below hb)
  have Hb := Lib.hid hb
  clear h hb
  go_enter Try.func31, Try.ntmps31
  go_wp2_with fail
  refine (has_any _ k H.out hl hn).mono ?_
  rw [hk]
  rintro _ w2 ⟨rfl, rfl⟩
  go_wp2
  go_ret
  exact ⟨rfl, Hb.out⟩

theorem lastM_snoc (l : List (Int × Sec)) (k : Int) (x : Sec) (v : Value) (hv : v = .int .i64 (l.length : Nat)) : lastM (l ++ [(k, x)]) = upd (lastM l) k (some v) := by
  funext j
  unfold lastM upd
  rw [lastI_snoc, hv]
  by_cases h : k = j
  · subst h; simp
  · rw [if_neg h, if_neg (fun e => h e.symm)]

set_option maxRecDepth 100000 in
set_option maxHeartbeats 3200000 in
theorem add_yes (w : World) (k : Int) (x : Sec) (h : DAt w base p n D) (hl : D.st.length = n) (hn : n ≤ 5000) (hk : hasD D k = true) (hm : D.op.length ≤ 100000) (hbase : base ≤ w.heap.size) :
    Calls Try.prog 31 #[.pointer (some ⟨p.B, 0, none⟩), .int .i64 k, .agg (av x)] w fun e w' => e = .returned (.bool true) ∧ DNext w base p n { D with op := D.op ++ [(k, x)] } w' ∧ ∀ b, b ∈ p.cb → w'.heap[b]? = w.heap[b]? := by
  obtain ⟨i0, hi, hz, hs, hby⟩ := info_parts view_Wr
  obtain ⟨n1, n2, n3, n4, n5, n6, n7, n8, n9, n10⟩ := h.ok.ne
  obtain ⟨W, hW⟩ : ∃ W, w.alloc (.cells (av x) 35) = W := ⟨_, rfl⟩
  have hb : Below w.heap.size w W := by rw [← hW]; exact ba _ (Below.refl w.heap.size w)
  have hrx : readAt W w.heap.size 0 64 = some (av x) := by rw [← hW]; simp [go_sem]
  have hsz : W.heap.size = w.heap.size + 1 := by rw [← hW]; simp
  have hk64 : I64 k := by
    simp only [hasD, Bool.and_eq_true, decide_eq_true_eq, hl] at hk
    unfold I64; omega
  obtain ⟨ad, cap, hv, _⟩ := RdS_of_own h.op
  have HH := Lib.hid h
  have H := Lib.hid (h.below hb)
  have Hb := Lib.hid hb
  have Hx := Lib.hid hrx
  have HV := Lib.hid hv
  have Hsz := Lib.hid hsz
  have Hbase := Lib.hid hbase
  have H64 := Lib.hid hk64
  have Hn : Hid (p.bl ≠ p.B ∧ w.heap.size ≠ p.B ∧ w.heap.size ≠ p.bl ∧ some w.heap.size ≠ p.vo.ownBlock) := ⟨n2.symm, fun e => by have := readAt_lt h.r; omega, fun e => by have := h.la.lt; omega, fun e => by have := ownsRow_lt h.op _ e.symm; omega⟩
  clear h hb hrx hv hsz hbase hk64 n1 n2 n3 n4 n5 n6 n7 n8 n9 n10
  go_enter Try.func31, Try.ntmps31
  go_wp2_with fail
  clear hW
  refine (has_any _ k H.out hl hn).mono ?_
  rw [hk]
  rintro _ w2 ⟨rfl, rfl⟩
  go_wp2_with fail
  obtain ⟨o, hst, him⟩ := H.out.la.drew.store H64.out Try.underlying59 (.int .i64 (D.op.length : Nat))
  have Hst := Lib.hid hst
  have Him := Lib.hid him
  clear hst him hk hl
  refine wp_region_tr (.take 0 (.take 1 (.take 2 (.take 3 (.take 4 (.take 5 (.take 6 (.take 7 (.take 8 (.run 9 (.run 10 .done))))))))))) (fun u => readAt u p.B 0 7 = some (d7 p n D.down D.steps)) (by kernel_rfl) (by kernel_rfl) rfl (by kernel_rfl) H.out.r ?_
  repeat (first | (refine t_off rfl rfl ?_; simp only [List.getElem_toArray, List.getElem_cons_succ, List.getElem_cons_zero, Act.put, Act.eval, List.setIfInBounds_toArray, List.set_cons_zero, List.set_cons_succ, Array.getD_eq_getD_getElem?, List.getElem?_toArray, List.getElem?_cons_succ, List.getElem?_cons_zero, Option.getD_some]) | (refine t_move rfl _ rfl rfl ?_; simp only [List.getElem_toArray, List.getElem_cons_succ, List.getElem_cons_zero, Act.put, Act.eval, List.setIfInBounds_toArray, List.set_cons_zero, List.set_cons_succ, Array.getD_eq_getD_getElem?, List.getElem?_toArray, List.getElem?_cons_succ, List.getElem?_cons_zero, Option.getD_some]) | (refine t_assign rfl _ rfl rfl ?_; simp only [List.getElem_toArray, List.getElem_cons_succ, List.getElem_cons_zero, Act.put, Act.eval, List.setIfInBounds_toArray, List.set_cons_zero, List.set_cons_succ, Array.getD_eq_getD_getElem?, List.getElem?_toArray, List.getElem?_cons_succ, List.getElem?_cons_zero, Option.getD_some]) | (refine t_val rfl rfl ?_; apply Exists.intro; refine ⟨fun w' hC' => ?_, ?_⟩; (obtain ⟨-, c1, c2, -⟩ := d7_cells hC'; go_simp; (first | done | exact rfl)); simp only [List.getElem_toArray, List.getElem_cons_succ, List.getElem_cons_zero, Act.put, Act.eval, List.setIfInBounds_toArray, List.set_cons_zero, List.set_cons_succ, Array.getD_eq_getD_getElem?, List.getElem?_toArray, List.getElem?_cons_succ, List.getElem?_cons_zero, Option.getD_some]) | (refine p_off rfl rfl ?_; simp only [List.getElem_toArray, List.getElem_cons_succ, List.getElem_cons_zero, Act.put, Act.eval, List.setIfInBounds_toArray, List.set_cons_zero, List.set_cons_succ, Array.getD_eq_getD_getElem?, List.getElem?_toArray, List.getElem?_cons_succ, List.getElem?_cons_zero, Option.getD_some]) | (refine p_val rfl rfl ?_; apply Exists.intro; refine ⟨fun w' => ?_, ?_⟩; (go_simp; (first | done | exact rfl)); simp only [List.getElem_toArray, List.getElem_cons_succ, List.getElem_cons_zero, Act.put, Act.eval, List.setIfInBounds_toArray, List.set_cons_zero, List.set_cons_succ, Array.getD_eq_getD_getElem?, List.getElem?_toArray, List.getElem?_cons_succ, List.getElem?_cons_zero, Option.getD_some]))
  rw [HV.out]
  refine r_val rfl rfl ?_; apply Exists.intro; apply Exists.intro; refine ⟨?_, ?_⟩; (go_simp; exact ⟨rfl, rfl⟩)
  refine ⟨_, fun _ h => h, H.out.r, ?_⟩; simp only [List.getElem_toArray, List.getElem_cons_succ, List.getElem_cons_zero, Act.put, Act.eval, List.setIfInBounds_toArray, List.set_cons_zero, List.set_cons_succ, Array.getD_eq_getD_getElem?, List.getElem?_toArray, List.getElem?_cons_succ, List.getElem?_cons_zero, Option.getD_some]
  have hst := Hst.out
  refine r_any rfl rfl (fun K hK => ?_)
  go_simp
  have Ho3 := Lib.hid (Ob.setBlock W.drew p.bl o)
  have hr3 : readAt (setBlock W.drew p.bl o) p.B 0 7 = some (d7 p n D.down D.steps) := by rw [Ho3.out.readAt Hn.out.1.symm]; exact H.out.r
  refine hK _ _ (fun u => readAt u p.B 0 7 = some (d7 p n D.down D.steps)) (fun _ h => h) hr3 ?_
  clear hK K hst
  try simp only [List.getElem_toArray, List.getElem_cons_succ, List.getElem_cons_zero, Act.put, Act.eval, List.setIfInBounds_toArray, List.set_cons_zero, List.set_cons_succ, Array.getD_eq_getD_getElem?, List.getElem?_toArray, List.getElem?_cons_succ, List.getElem?_cons_zero, Option.getD_some]
  refine t_done ?_
  have hw3 : ∀ b, b < w.heap.size → b ≠ p.bl → (setBlock W.drew p.bl o).heap[b]? = w.heap[b]? := fun b h1 h2 => (Ho3.out.block b h2).trans (Hb.out.block b h1)
  have Hw3 := Lib.hid hw3
  have Hs3 : Hid ((setBlock W.drew p.bl o).heap.size = w.heap.size + 1) := Ho3.out.size.trans Hsz.out
  have HK3 : Hid (Kb p.has w (setBlock W.drew p.bl o)) := ((Kb.of_below (X := p.has) Hb.out).drew).ob Ho3.out (.inl (five_bl p))
  have Hr3 := Lib.hid hr3
  have Hk3 : Hid (canAt (setBlock W.drew p.bl o) p.B 0 7 = true) := by show _ = _; rw [Ho3.out.canAt Hn.out.1.symm]; exact H.out.k
  have Hx3 : Hid (readAt (setBlock W.drew p.bl o) w.heap.size 0 64 = some (av x)) := by show _ = _; rw [Ho3.out.readAt Hn.out.2.2.1]; exact Hx.out
  have hov : ∀ g, p.vo.ownBlock = some g → g ≠ p.bl := HH.out.ok.o' (five_bl p)
  have Hv3 := Lib.hid (Ho3.out.own H.out.op.drew hov)
  have Him3 := Lib.hid Him.out
  have HvB : Hid (some p.B ≠ p.vo.ownBlock) := fun e => HH.out.ok.o p.B e.symm (five_B p)
  have HvL : Hid (some p.bl ≠ p.vo.ownBlock) := fun e => HH.out.ok.o p.bl e.symm (five_bl p)
  have HB : Hid (p.B < w.heap.size) := readAt_lt HH.out.r
  have HL : Hid (p.bl < w.heap.size) := HH.out.la.lt
  clear hw3 hr3 Ho3 Him Hst hov
  generalize setBlock W.drew p.bl o = w3 at *
  clear H Hb Hx Hsz
  go_wp2_with fail
  refine wp_region_tr (.take 0 (.take 1 (.take 2 (.take 3 (.take 4 (.take 5 (.take 6 (.take 7 (.run 8 (.run 9 (.take 10 (.take 11 (.brk 12 .done))))))))))))) (fun u => readAt u p.B 0 7 = some (d7 p n D.down D.steps) ∧ readAt u w.heap.size 0 64 = some (av x)) (by kernel_rfl) (by kernel_rfl) rfl (by kernel_rfl) ⟨Hr3.out, Hx3.out⟩ ?_
  repeat (first | (refine t_off rfl rfl ?_; simp only [List.getElem_toArray, List.getElem_cons_succ, List.getElem_cons_zero, Act.put, Act.eval, List.setIfInBounds_toArray, List.set_cons_zero, List.set_cons_succ, Array.getD_eq_getD_getElem?, List.getElem?_toArray, List.getElem?_cons_succ, List.getElem?_cons_zero, Option.getD_some]) | (refine t_move rfl _ rfl rfl ?_; simp only [List.getElem_toArray, List.getElem_cons_succ, List.getElem_cons_zero, Act.put, Act.eval, List.setIfInBounds_toArray, List.set_cons_zero, List.set_cons_succ, Array.getD_eq_getD_getElem?, List.getElem?_toArray, List.getElem?_cons_succ, List.getElem?_cons_zero, Option.getD_some]) | (refine t_assign rfl _ rfl rfl ?_; simp only [List.getElem_toArray, List.getElem_cons_succ, List.getElem_cons_zero, Act.put, Act.eval, List.setIfInBounds_toArray, List.set_cons_zero, List.set_cons_succ, Array.getD_eq_getD_getElem?, List.getElem?_toArray, List.getElem?_cons_succ, List.getElem?_cons_zero, Option.getD_some]) | (refine t_val rfl rfl ?_; apply Exists.intro; refine ⟨fun w' hC' => ?_, ?_⟩; (have hrx := hC'.2; obtain ⟨-, c1, c2, -⟩ := d7_cells hC'.1; go_simp; (first | done | exact rfl)); simp only [List.getElem_toArray, List.getElem_cons_succ, List.getElem_cons_zero, Act.put, Act.eval, List.setIfInBounds_toArray, List.set_cons_zero, List.set_cons_succ, Array.getD_eq_getD_getElem?, List.getElem?_toArray, List.getElem?_cons_succ, List.getElem?_cons_zero, Option.getD_some]) | (refine p_off rfl rfl ?_; simp only [List.getElem_toArray, List.getElem_cons_succ, List.getElem_cons_zero, Act.put, Act.eval, List.setIfInBounds_toArray, List.set_cons_zero, List.set_cons_succ, Array.getD_eq_getD_getElem?, List.getElem?_toArray, List.getElem?_cons_succ, List.getElem?_cons_zero, Option.getD_some]) | (refine p_val rfl rfl ?_; apply Exists.intro; refine ⟨fun w' => ?_, ?_⟩; (go_simp; (first | done | exact rfl)); simp only [List.getElem_toArray, List.getElem_cons_succ, List.getElem_cons_zero, Act.put, Act.eval, List.setIfInBounds_toArray, List.set_cons_zero, List.set_cons_succ, Array.getD_eq_getD_getElem?, List.getElem?_toArray, List.getElem?_cons_succ, List.getElem?_cons_zero, Option.getD_some]))
  refine r_val rfl rfl ?_; apply Exists.intro; apply Exists.intro; refine ⟨?_, ?_⟩; (go_simp; exact ⟨rfl, rfl⟩)
  have hba := ba (.cells (wv k x) 74) (Below.refl w3.heap.size w3)
  have hb4 := hba.drew
  have Hr4 := Lib.hid ((readAt_below hb4 (readAt_lt Hr3.out) 0 7).trans Hr3.out)
  have Hx4 := Lib.hid ((readAt_below hb4 (readAt_lt Hx3.out) 0 64).trans Hx3.out)
  have Hb4 := Lib.hid hb4
  have hnew : readAt (w3.alloc (.cells (wv k x) 74)).drew w3.heap.size 0 65 = some (wv k x) := by simp [go_sem]
  have Hnew := Lib.hid hnew
  have Hv4 := Lib.hid (ownsRow_below Hv3.out hb4)
  clear hba hb4 hnew
  have Hw4 : Hid (∀ b, b < w.heap.size → b ≠ p.bl → (w3.alloc (.cells (wv k x) 74)).drew.heap[b]? = w.heap[b]?) := fun b h1 h2 => (Hb4.out.block b (by rw [Hs3.out]; omega)).trans (Hw3.out b h1 h2)
  have HK4 : Hid (Kb p.has w (w3.alloc (.cells (wv k x) 74)).drew) := HK3.out.blw Hb4.out
  have Him4 : Hid (IM (w3.alloc (.cells (wv k x) 74)).drew p.bl (upd (lastM D.op) k (some (.int .i64 (D.op.length : Nat))))) := Him3.out.kept (Hb4.out.block _ Him3.out.lt)
  have Hk4 : Hid (canAt (w3.alloc (.cells (wv k x) 74)).drew p.B 0 7 = true) := (canAt_below Hb4.out (readAt_lt Hr3.out) 0 7).trans Hk3.out
  have Hs4 : Hid (w.heap.size ≤ (w3.alloc (.cells (wv k x) 74)).drew.heap.size) := by have h1 := Hs3.out; have h2 := Hb4.out.size; show _ ≤ _; omega
  refine ⟨_, fun _ h => h, ⟨Hr4.out, Hx4.out⟩, ?_⟩; simp only [List.getElem_toArray, List.getElem_cons_succ, List.getElem_cons_zero, Act.put, Act.eval, List.setIfInBounds_toArray, List.set_cons_zero, List.set_cons_succ, Array.getD_eq_getD_getElem?, List.getElem?_toArray, List.getElem?_cons_succ, List.getElem?_cons_zero, Option.getD_some]
  have hHs : (w3.alloc (.cells (wv k x) 74)).drew.heap.size = w3.heap.size + 1 := by simp
  have Hsz4 := Lib.hid hHs
  clear hHs Hr3 Hx3 Hw3 HK3 Him3 Hk3 Hv3 Hb4
  have hd3 : w.heap.size + 1 = w3.heap.size := Hs3.out.symm
  have Hd3 := Lib.hid hd3
  clear hd3
  generalize (w3.alloc (.cells (wv k x) 74)).drew = w4 at *
  generalize w3.heap.size = N3 at *
  refine r_any rfl rfl (fun K hK => ?_)
  refine wp_append_lies _ (.tmp 25) (.tmp 29) 62 rfl base 74 i0 _ 65 72 Try.underlying62 hi hz hs hby (by simp [Value.cells]) (by decide) _ D.op.length _ rfl Hv4.out ⟨N3, 0, none⟩ 1 1 (wv k x).toList rfl ?d1 ?d2 ?d3 (by decide) ?d4 ?d5 ?d6 (N3 + 1) Hsz4.out ?_
  case d1 => simp
  case d2 => exact cells_new Hnew.out
  case d3 => simpa using wv_one k x
  case d4 => simp only [maxLen]; omega
  case d5 => omega
  case d6 => have h1 := Hs4.out; have h2 := Hbase.out; omega
  intro g cap' w5 hown5 hgr5 hloc hlt5
  have hr5 : readAt w5 p.B 0 7 = some (d7 p n D.down D.steps) := by
    rw [← Hr4.out]; simp [readAt, hgr5.block p.B (Nat.lt_of_lt_of_le HB.out Hs4.out) HvB.out]
  have hk5 : canAt w5 p.B 0 7 = true := by
    rw [← Hk4.out]; simp [canAt, hgr5.block p.B (Nat.lt_of_lt_of_le HB.out Hs4.out) HvB.out]
  have hx5 : readAt w5 w.heap.size 0 64 = some (av x) := by
    rw [← Hx4.out]; simp [readAt, hgr5.block w.heap.size (readAt_lt Hx4.out) Hn.out.2.2.2]
  refine hK _ _ (fun u => readAt u p.B 0 7 = some (d7 p n D.down D.steps) ∧ readAt u w.heap.size 0 64 = some (av x)) (fun _ h => h) ⟨hr5, hx5⟩ ?_
  clear hK K
  simp only [List.getElem_toArray, List.getElem_cons_succ, List.getElem_cons_zero, Act.put, Act.eval, List.setIfInBounds_toArray, List.set_cons_zero, List.set_cons_succ, Array.getD_eq_getD_getElem?, List.getElem?_toArray, List.getElem?_cons_succ, List.getElem?_cons_zero, Option.getD_some]
  have Hr5 := Lib.hid hr5
  have Hk5 := Lib.hid hk5
  clear hr5 hk5 hx5
  have Hw5 : Hid (∀ b, b < w.heap.size → b ≠ p.bl → some b ≠ p.vo.ownBlock → w5.heap[b]? = w.heap[b]?) := fun b h1 h2 h3 => (hgr5.block b (Nat.lt_of_lt_of_le h1 Hs4.out) h3).trans (Hw4.out b h1 h2)
  have HK5 : Hid (Kb p.has w w5) := HK4.out.trans (Kb.grown (X := p.has) hgr5 (fun b hb => .inr (.inl hb))) (fun i hi => .inl hi)
  have Hs5 : Hid (w.heap.size ≤ w5.heap.size) := Nat.le_trans Hs4.out hgr5.size
  have Him5 : Hid (IM w5 p.bl (lastM (D.op ++ [(k, x)]))) := by
    rw [lastM_snoc _ _ _ _ rfl]
    exact Him4.out.kept (hgr5.block _ (Nat.lt_of_lt_of_le HL.out Hs4.out) HvL.out)
  have Hloc := Lib.hid hloc
  have hown6 : w5.ownsRow base 74 65 (.slice (some ⟨g, 0, none⟩) (D.op.length + 1) cap') (D.op ++ [(k, x)]).length (flat wp2 (D.op ++ [(k, x)])) := by
    rw [flat_snoc, List.length_append]; exact hown5
  have Hown6 := Lib.hid hown6
  clear hown5 hown6 hgr5 hloc hlt5 Hr4 Hx4 Hw4 HK4 Him4 Hk4 Hs4 Hv4 Hnew Hsz4
  repeat (first | (refine t_off rfl rfl ?_; simp only [List.getElem_toArray, List.getElem_cons_succ, List.getElem_cons_zero, Act.put, Act.eval, List.setIfInBounds_toArray, List.set_cons_zero, List.set_cons_succ, Array.getD_eq_getD_getElem?, List.getElem?_toArray, List.getElem?_cons_succ, List.getElem?_cons_zero, Option.getD_some]) | (refine t_move rfl _ rfl rfl ?_; simp only [List.getElem_toArray, List.getElem_cons_succ, List.getElem_cons_zero, Act.put, Act.eval, List.setIfInBounds_toArray, List.set_cons_zero, List.set_cons_succ, Array.getD_eq_getD_getElem?, List.getElem?_toArray, List.getElem?_cons_succ, List.getElem?_cons_zero, Option.getD_some]) | (refine t_assign rfl _ rfl rfl ?_; simp only [List.getElem_toArray, List.getElem_cons_succ, List.getElem_cons_zero, Act.put, Act.eval, List.setIfInBounds_toArray, List.set_cons_zero, List.set_cons_succ, Array.getD_eq_getD_getElem?, List.getElem?_toArray, List.getElem?_cons_succ, List.getElem?_cons_zero, Option.getD_some]) | (refine t_val rfl rfl ?_; apply Exists.intro; refine ⟨fun w' hC' => ?_, ?_⟩; (skip; go_simp; (first | done | exact rfl)); simp only [List.getElem_toArray, List.getElem_cons_succ, List.getElem_cons_zero, Act.put, Act.eval, List.setIfInBounds_toArray, List.set_cons_zero, List.set_cons_succ, Array.getD_eq_getD_getElem?, List.getElem?_toArray, List.getElem?_cons_succ, List.getElem?_cons_zero, Option.getD_some]) | (refine p_off rfl rfl ?_; simp only [List.getElem_toArray, List.getElem_cons_succ, List.getElem_cons_zero, Act.put, Act.eval, List.setIfInBounds_toArray, List.set_cons_zero, List.set_cons_succ, Array.getD_eq_getD_getElem?, List.getElem?_toArray, List.getElem?_cons_succ, List.getElem?_cons_zero, Option.getD_some]) | (refine p_val rfl rfl ?_; apply Exists.intro; refine ⟨fun w' => ?_, ?_⟩; (go_simp; (first | done | exact rfl)); simp only [List.getElem_toArray, List.getElem_cons_succ, List.getElem_cons_zero, Act.put, Act.eval, List.setIfInBounds_toArray, List.set_cons_zero, List.set_cons_succ, Array.getD_eq_getD_getElem?, List.getElem?_toArray, List.getElem?_cons_succ, List.getElem?_cons_zero, Option.getD_some]))
  have f1 : w5.frozen? ⟨p.B, 1, none⟩ = false := by have := canAt_cell Hk5.out 1; rwa [Nat.zero_add] at this
  obtain ⟨-, c1, -⟩ := d7_cells Hr5.out
  refine b_any rfl rfl (fun K hK => ?_)
  go_simp
  refine hK _ _ (fun _ => True) trivial ?_
  clear hK K f1 c1
  try simp only [List.getElem_toArray, List.getElem_cons_succ, List.getElem_cons_zero, Act.put, Act.eval, List.setIfInBounds_toArray, List.set_cons_zero, List.set_cons_succ, Array.getD_eq_getD_getElem?, List.getElem?_toArray, List.getElem?_cons_succ, List.getElem?_cons_zero, Option.getD_some]
  refine t_done ?_
  have he := setCell_setAt (canAt_sub Hk5.out 1 1 (by omega)) (.slice (some ⟨g, 0, none⟩) (D.op.length + 1) cap')
  have ho6 := Ob.setAt w5 p.B 1 #[.slice (some ⟨g, 0, none⟩) (D.op.length + 1) cap']
  have hv : ∀ b, (Value.slice (some ⟨g, 0, none⟩) (D.op.length + 1) cap').ownBlock = some b → p.vo.ownBlock = some b ∨ w.heap.size ≤ b := by
    intro b hb
    have hb' : g = b := by simpa [Value.ownBlock] using hb
    subst hb'
    rcases Hloc.out with h1 | h1
    · exact .inl h1
    · right; have := Hd3.out; omega
  have hgB : ∀ b, (Value.slice (some ⟨g, 0, none⟩) (D.op.length + 1) cap').ownBlock = some b → b ≠ p.B := by
    rintro b hb rfl
    rcases hv _ hb with h1 | h1
    · exact HvB.out h1.symm
    · have := HB.out; omega
  have HN : Hid (DNext w base p n { D with op := D.op ++ [(k, x)] } (w5.setCell ⟨p.B, 1, none⟩ (.slice (some ⟨g, 0, none⟩) (D.op.length + 1) cap'))) := by
    rw [he]
    refine ⟨{ p with vo := .slice (some ⟨g, 0, none⟩) (D.op.length + 1) cap' }, rfl, HH.out.re _ (D.op ++ [(k, x)]) ?_ ?_ ?_ ?_ ?_ ?_ hv Hbase.out, ?_, re_has hv⟩
    · rw [ho6.size]; exact Hs5.out
    · intro b h1 h2 h3 h4; exact (ho6.block b h2).trans (Hw5.out b h1 h3 h4)
    · rw [readAt_setAt_over w5 p.B 0 7 _ Hr5.out Hk5.out 1 _ (by omega) (by simp)]; rfl
    · rw [canAt_setAt _ _ _ _ _ _ _ (canAt_sub Hk5.out 1 1 (by omega))]; exact Hk5.out
    · exact ho6.own Hown6.out hgB
    · exact ho6.im Hn.out.1 Him5.out
    · exact HK5.out.ob ho6 has_B
  have HN2 : Hid (∀ b, b ∈ p.cb → (w5.setCell ⟨p.B, 1, none⟩ (.slice (some ⟨g, 0, none⟩) (D.op.length + 1) cap')).heap[b]? = w.heap[b]?) := by
    show ∀ _, _
    rw [he]
    intro b hb
    have hc := HH.out.ok.c b hb
    exact (ho6.block b (fun e => hc.1 (e ▸ five_B p))).trans (Hw5.out b (HH.out.lt b hb) (fun e => hc.1 (e ▸ five_bl p)) (fun e => hc.2 e.symm))
  clear he ho6 hv hgB
  generalize w5.setCell ⟨p.B, 1, none⟩ (.slice (some ⟨g, 0, none⟩) (D.op.length + 1) cap') = w6 at *
  go_wp2
  go_ret
  exact ⟨rfl, HN.out, HN2.out⟩
end
end Go.Proofs.Ytjedlcfeobhjnaa
