/- What Clone of numbers, Fail, CrashAt, Stable of a disk compute. Conditions: the receiver is a disk; the numbers are small. -/
import Derived.Test.YtjedlcfeobhjnaaDisk8
set_option linter.unusedSimpArgs false
set_option linter.unusedVariables false
namespace Go.Proofs.Ytjedlcfeobhjnaa
open Go.RowKit Go.ChangeMaps

theorem ints_one (l : List Int) : ∀ v ∈ l.map (Value.int .i64), v.oneCell' = true := by
  intro v hv
  obtain ⟨x, _, rfl⟩ := List.mem_map.1 hv
  rfl
set_option maxRecDepth 100000 in
set_option maxHeartbeats 800000 in
theorem clonei_some (a : Addr) (q cap : Nat) (cs : List Int) (w : World) (hq : cs.length = q) (hm : q ≤ 100000) (hr : 0 < q → ∃ b o, a = ⟨b, o, none⟩ ∧ readAt w b o q = some (cs.map (Value.int .i64)).toArray) :
    Calls Try.prog 29 #[.slice (some a) q cap] w fun e w' => (∃ v, e = .returned v ∧ RdS w' v q 1 (cs.map (Value.int .i64)) ∧ ∀ g, v.ownBlock = some g → w.heap.size ≤ g ∧ g < w'.heap.size) ∧ Below w.heap.size w w' := by
  obtain ⟨i0, hi, hz, hs, hby⟩ := info_parts view_int
  have Hr := Lib.hid hr
  have Hq := Lib.hid hq
  clear hr hq
  have heq := fun w => Lib.run_eql_slice_nil (P := Try.prog) w 23 3 (some a) q cap 0 0 Try.underlying23
  go_enter Try.func29, Try.ntmps29
  have hown0 : (w.alloc (.cells #[] 3)).ownsRow w.heap.size 3 1 (.slice (some ⟨w.heap.size, 0, none⟩) 0 0) 0 [] :=
    World.ownsRow_made (size := 1) w #[] 0 (Nat.le_refl _) (by simp [maxLen]) (by simp)
  have hbz := run_buildSlice_zero (P := Try.prog) w 23 3 i0 Try.underlying23 hi
  go_wp2_with (at_builtin; refine wpList_append_own _ rfl _ _ 23 rfl w.heap.size 3 i0 _ 1 8 Try.underlying23 hi hz hs hby rfl (by decide) _ 0 _ rfl hown0 a q cap (cs.map (Value.int .i64)) rfl ?c1 ?c2 ?c3 ?c4 ?c5 ?c6 ?_)
  case c1 => rw [List.length_map, Hq.out, Nat.mul_one]
  case c2 =>
    intro j u hu
    have hj : j < q := by
      have := (List.getElem?_eq_some_iff.1 hu).1
      simpa [Hq.out] using this
    obtain ⟨b, o, rfl, hrd⟩ := Hr.out (by omega)
    have h1 := (readAt_range hrd).1 j u (by simpa using hu)
    rw [Addr.add_lit, World.cell?_alloc_past _ _ _ (readAt_lt hrd)]; exact h1
  case c3 => exact ints_one cs
  case c4 => simp only [maxLen]; omega
  case c5 => omega
  case c6 => simp
  intro v w2 hown hgr hnil
  have HN : Hid (∀ g, v.ownBlock = some g → w.heap.size ≤ g ∧ g < w2.heap.size) := fun g hg => hown.lt g hg
  have HB : Hid (Below w.heap.size w w2) := (ba (.cells #[] 3) (Below.refl w.heap.size w)).trans ⟨hgr.os, hgr.tape, hgr.output, hgr.size, fun k hk => hgr.block k (by simp; omega) (by simp [Value.ownBlock]; omega)⟩
  have HO : Hid (RdS w2 v q 1 (cs.map (Value.int .i64))) := by
    show RdS _ _ _ _ _
    have h := RdS_of_own hown
    simpa using h
  clear hown hgr hnil hown0 hbz
  go_wp2
  go_ret
  exact ⟨⟨v, rfl, HO.out, HN.out⟩, HB.out⟩
theorem clonei_nil (w : World) :
    Calls Try.prog 29 #[.slice none 0 0] w fun e w' => e = .returned (.slice none 0 0) ∧ w = w' := by
  have heq := fun w => Lib.run_eql_slice_nil (P := Try.prog) w 23 3 none 0 0 0 0 Try.underlying23
  go_enter Try.func29, Try.ntmps29
  go_wp2
  go_ret
  exact ⟨rfl, rfl⟩
theorem clonei_any (vc : Value) (cs : List Int) (w : World) (hm : cs.length ≤ 100000) (hc : RdS w vc cs.length 1 (cs.map (Value.int .i64))) :
    Calls Try.prog 29 #[vc] w fun e w' => (∃ v, e = .returned v ∧ RdS w' v cs.length 1 (cs.map (Value.int .i64)) ∧ ∀ g, v.ownBlock = some g → w.heap.size ≤ g ∧ g < w'.heap.size) ∧ Below w.heap.size w w' := by
  obtain ⟨ad, cap, rfl, h1, h2, h3, h4, h5⟩ := hc
  cases ad with
  | none =>
    obtain ⟨e1, rfl⟩ := h4 rfl
    have e2 : cs = [] := List.eq_nil_of_length_eq_zero e1
    subst e2
    refine (clonei_nil w).mono ?_
    rintro _ w' ⟨rfl, rfl⟩
    exact ⟨⟨_, rfl, ⟨none, 0, rfl, Nat.le_refl _, by simp [maxLen], rfl, fun _ => ⟨rfl, rfl⟩, fun h => absurd h (by simp)⟩, fun g hg => (by cases hg)⟩, Below.refl _ _⟩
  | some a =>
    refine clonei_some a cs.length cap cs w rfl hm (fun h0 => ?_)
    obtain ⟨b, o, e, hr⟩ := h5 h0
    cases e
    rw [Nat.mul_one] at hr
    exact ⟨b, o, rfl, hr⟩

section
variable {base n : Nat} {p : DP} {D : DM}
theorem DAt.storeF {w : World} (h : DAt w base p n D) (a : Int) (ha : 1 ≤ a) (h64 : I64 (D.steps + a)) (cuts : List Int) :
    ∃ o, (Instr.mapUpdate 60 (.map (some p.bf)) (.int .i64 (D.steps + a)) (.bool true)).run Try.prog w = .ok () (setBlock w p.bf o) ∧ DAt (setBlock w p.bf o) base p n { D with plan := D.plan ++ [⟨D.steps + a, false, cuts⟩] } := by
  obtain ⟨n1, n2, n3, n4, n5, n6, n7, n8, n9, n10⟩ := h.ok.ne
  obtain ⟨M, hM, hM2, hM3⟩ := h.fa
  obtain ⟨M', hM', hM2'⟩ := h.cr
  obtain ⟨o, hrun, him⟩ := hM.store h64 Try.underlying60 (.bool true)
  have ho := Ob.setBlock w p.bf o
  have hc : ∀ g, g ∈ p.cb → g ≠ p.bf := fun g hg e => (h.ok.c g hg).1 (e ▸ five_bf p)
  refine ⟨o, hrun, h.ok, by rw [ho.readAt n3]; exact h.r, by rw [ho.canAt n3]; exact h.k, by rw [ho.readAt n6]; exact h.sr, by rw [ho.canAt n6]; exact h.sk, h.sc, ho.own h.op (h.ok.o' (five_bf p)), ho.im n8 h.la, ⟨_, him, fun j hj => ?_, fun j v hv => ?_⟩, ⟨M', ho.im n10.symm hM', fun k hk => ?_⟩, fun b hb => by rw [ho.size]; exact h.lt b hb⟩
  · simp only [evF_snoc]
    unfold upd
    by_cases e : j = D.steps + a
    · rw [if_pos e, decide_eq_true e.symm]; simp
    · rw [if_neg e, decide_eq_false (fun e2 => e e2.symm), hM2 j hj]; simp
  · unfold upd at hv
    split at hv
    · cases hv; rfl
    · exact hM3 j v hv
  · have h4 := (hM2' k hk).same (w' := setBlock w p.bf o) (fun b hb _ => ho.block b (hc b hb))
    unfold CutOk at h4 ⊢
    simp only [evC_snoc]
    simpa using h4
theorem DAt.storeC {w : World} (h : DAt w base p n D) (a : Int) (ha : 1 ≤ a) (h64 : I64 (D.steps + a)) (cuts : List Int) (v : Value) (hv : RdS w v cuts.length 1 (cuts.map (Value.int .i64)))
    (hg : ∀ g, v.ownBlock = some g → base ≤ g ∧ g < w.heap.size ∧ ¬ p.has g) :
    ∃ o, (Instr.mapUpdate 61 (.map (some p.bc)) (.int .i64 (D.steps + a)) v).run Try.prog w = .ok () (setBlock w p.bc o) ∧ DAt (setBlock w p.bc o) base { p with cb := v.ownBlock.toList ++ p.cb } n { D with plan := D.plan ++ [⟨D.steps + a, true, cuts⟩] } := by
  obtain ⟨n1, n2, n3, n4, n5, n6, n7, n8, n9, n10⟩ := h.ok.ne
  obtain ⟨M, hM, hM2, hM3⟩ := h.fa
  obtain ⟨M', hM', hM2'⟩ := h.cr
  obtain ⟨o, hrun, him⟩ := hM'.store h64 Try.underlying61 v
  have ho := Ob.setBlock w p.bc o
  have hcb : ∀ g, g ∈ v.ownBlock.toList ++ p.cb → (v.ownBlock = some g) ∨ g ∈ p.cb := fun g hg1 => by
    rcases List.mem_append.1 hg1 with h1 | h1
    · exact .inl (by simpa using h1)
    · exact .inr h1
  have hc : ∀ g, g ∈ p.cb → g ≠ p.bc := fun g hg e => (h.ok.c g hg).1 (e ▸ five_bc p)
  refine ⟨o, hrun, ⟨h.ok.d, h.ok.o, fun g hg1 => ?_, fun b hb => ?_⟩, by rw [ho.readAt n4]; exact h.r, by rw [ho.canAt n4]; exact h.k, by rw [ho.readAt n7]; exact h.sr, by rw [ho.canAt n7]; exact h.sk, h.sc, ho.own h.op (h.ok.o' (five_bc p)), ho.im n9 h.la, ⟨M, ho.im n10 hM, fun j hj => ?_, hM3⟩, ⟨_, him, fun j hj => ?_⟩, fun b hb => ?_⟩
  · rcases hcb g hg1 with h1 | h1
    · have := (hg g h1).2.2
      exact ⟨fun h5 => this (.inl h5), fun e => this (.inr (.inl e))⟩
    · exact h.ok.c g h1
  · rcases hb with h1 | h1 | h1
    · exact h.ok.lo b (.inl h1)
    · exact h.ok.lo b (.inr (.inl h1))
    · rcases hcb b h1 with h2 | h2
      · exact (hg b h2).1
      · exact h.ok.lo b (.inr (.inr h2))
  · simp only [evF_snoc]
    rw [hM2 j hj]; simp
  · have hvn : ∀ g, v.ownBlock = some g → g ≠ p.bc := fun g h1 e => (hg g h1).2.2 (.inl (e ▸ five_bc p))
    by_cases e : j = D.steps + a
    · refine .inr ⟨cuts, v, ?_, ?_, hv.same (fun g h1 _ => ho.block g (hvn g h1)), fun g h1 => List.mem_append.2 (.inl (by simpa using h1))⟩
      · simp only [evC_snoc]; rw [if_pos ⟨e.symm, trivial⟩]
      · unfold upd; rw [if_pos e]
    · have h4 := (hM2' j hj).same (w' := setBlock w p.bc o) (fun b hb _ => ho.block b (hc b hb))
      have e1 : evC (D.plan ++ [⟨D.steps + a, true, cuts⟩]) j = evC D.plan j := by rw [evC_snoc, if_neg (fun h1 => e h1.1.symm)]
      have e2 : upd M' (D.steps + a) (some v) j = M' j := by unfold upd; rw [if_neg e]
      unfold CutOk at h4 ⊢
      simp only
      rw [e1, e2]
      rcases h4 with h4 | ⟨cs, v', h4, h5, h6, h7⟩
      · exact .inl h4
      · exact .inr ⟨cs, v', h4, h5, h6, fun g h1 => List.mem_append.2 (.inr (h7 g h1))⟩
  · rw [ho.size]
    rcases hcb b hb with h1 | h1
    · exact (hg b h1).2.1
    · exact h.lt b h1

set_option maxRecDepth 100000 in
set_option maxHeartbeats 1600000 in
theorem dfail_any (w : World) (a : Int) (m : Nat) (cuts : List Int) (h : DAt w base p n D) (hD : OkD D n m) (hm : m ≤ 100000) (ha : a ≤ 1048576) :
    Calls Try.prog 25 #[.pointer (some ⟨p.B, 0, none⟩), .int .i64 a] w fun e w' => e = .returned (.tuple #[]) ∧ DNext w base p n (planD D a false cuts) w' := by
  by_cases h1 : 1 ≤ a
  · have h64 : I64 (D.steps + a) := by have := hD.s0; have := hD.s1; unfold I64; omega
    obtain ⟨o, hst, hA⟩ := h.drew.storeF a h1 h64 cuts
    have s0 := hD.s0
    have s1 := hD.s1
    have HA := Lib.hid hA
    have Hst := Lib.hid hst
    have Hr := Lib.hid h.drew.r
    have HM : Hid (planD D a false cuts = { D with plan := D.plan ++ [⟨D.steps + a, false, cuts⟩] }) := by unfold Hid planD; rw [if_neg (by omega)]
    have HK : Hid (Kb p.has w (setBlock w.drew p.bf o)) := (Kb.refl p.has w).drew.ob (Ob.setBlock _ _ _) (.inl (five_bf p))
    clear hst hA h hD h64
    have hwr : IntKind.i64.wrap (D.steps + a) = D.steps + a := by rw [IntKind.wrap_i64]; omega
    go_enter Try.func25, Try.ntmps25
    go_wp2_with fail
    refine wp_region_tr (.take 0 (.take 1 (.take 2 (.take 3 (.take 4 (.take 5 (.take 6 (.take 7 (.take 8 (.take 9 (.run 10 .done))))))))))) (fun u => readAt u p.B 0 7 = some (d7 p n D.down D.steps)) (by kernel_rfl) (by kernel_rfl) rfl (by kernel_rfl) Hr.out ?_
    repeat (first | (refine t_off rfl rfl ?_; simp only [List.getElem_toArray, List.getElem_cons_succ, List.getElem_cons_zero, Act.put, Act.eval, List.setIfInBounds_toArray, List.set_cons_zero, List.set_cons_succ, Array.getD_eq_getD_getElem?, List.getElem?_toArray, List.getElem?_cons_succ, List.getElem?_cons_zero, Option.getD_some]) | (refine t_move rfl _ rfl rfl ?_; simp only [List.getElem_toArray, List.getElem_cons_succ, List.getElem_cons_zero, Act.put, Act.eval, List.setIfInBounds_toArray, List.set_cons_zero, List.set_cons_succ, Array.getD_eq_getD_getElem?, List.getElem?_toArray, List.getElem?_cons_succ, List.getElem?_cons_zero, Option.getD_some]) | (refine t_assign rfl _ rfl rfl ?_; simp only [List.getElem_toArray, List.getElem_cons_succ, List.getElem_cons_zero, Act.put, Act.eval, List.setIfInBounds_toArray, List.set_cons_zero, List.set_cons_succ, Array.getD_eq_getD_getElem?, List.getElem?_toArray, List.getElem?_cons_succ, List.getElem?_cons_zero, Option.getD_some]) | (refine t_val rfl rfl ?_; apply Exists.intro; refine ⟨fun w' hC' => ?_, ?_⟩; (obtain ⟨-, -, -, -, c4, c5, -⟩ := d7_cells hC'; go_simp; (first | done | exact rfl)); simp only [List.getElem_toArray, List.getElem_cons_succ, List.getElem_cons_zero, Act.put, Act.eval, List.setIfInBounds_toArray, List.set_cons_zero, List.set_cons_succ, Array.getD_eq_getD_getElem?, List.getElem?_toArray, List.getElem?_cons_succ, List.getElem?_cons_zero, Option.getD_some]) | (refine p_off rfl rfl ?_; simp only [List.getElem_toArray, List.getElem_cons_succ, List.getElem_cons_zero, Act.put, Act.eval, List.setIfInBounds_toArray, List.set_cons_zero, List.set_cons_succ, Array.getD_eq_getD_getElem?, List.getElem?_toArray, List.getElem?_cons_succ, List.getElem?_cons_zero, Option.getD_some]) | (refine p_val rfl rfl ?_; apply Exists.intro; refine ⟨fun w' => ?_, ?_⟩; (go_simp; (first | done | exact rfl)); simp only [List.getElem_toArray, List.getElem_cons_succ, List.getElem_cons_zero, Act.put, Act.eval, List.setIfInBounds_toArray, List.set_cons_zero, List.set_cons_succ, Array.getD_eq_getD_getElem?, List.getElem?_toArray, List.getElem?_cons_succ, List.getElem?_cons_zero, Option.getD_some]))
    have hst := Hst.out
    refine r_any rfl rfl (fun K hK => ?_)
    go_simp
    refine hK _ _ (fun u => readAt u p.B 0 7 = some (d7 p n D.down D.steps)) (fun _ h => h) HA.out.r ?_
    clear hK K hst
    try simp only [List.getElem_toArray, List.getElem_cons_succ, List.getElem_cons_zero, Act.put, Act.eval, List.setIfInBounds_toArray, List.set_cons_zero, List.set_cons_succ, Array.getD_eq_getD_getElem?, List.getElem?_toArray, List.getElem?_cons_succ, List.getElem?_cons_zero, Option.getD_some]
    refine t_done ?_
    go_wp2
    go_end0
    rw [HM.out]
    exact ⟨rfl, p, rfl, HA.out, HK.out, fun b hb => .inl hb⟩
  · have HM : Hid (planD D a false cuts = D) := by unfold Hid planD; rw [if_pos (by omega)]
    have h2 : decide (1 ≤ a) = false := by simpa using h1
    have H := Lib.hid h
    clear h hD h1
    go_enter Try.func25, Try.ntmps25
    go_wp2
    go_end0
    rw [HM.out]
    exact ⟨rfl, p, rfl, H.out, Kb.refl _ _, fun b hb => .inl hb⟩

set_option maxRecDepth 100000 in
set_option maxHeartbeats 1600000 in
theorem dcrashat_any (w : World) (a : Int) (vc : Value) (cs : List Int) (m : Nat) (h : DAt w base p n D) (hD : OkD D n m) (hm : m ≤ 100000) (ha : a ≤ 1048576) (hbase : base ≤ w.heap.size) (hcl : cs.length ≤ 100000) (hc : RdS w vc cs.length 1 (cs.map (Value.int .i64))) :
    Calls Try.prog 11 #[.pointer (some ⟨p.B, 0, none⟩), .int .i64 a, vc] w fun e w' => e = .returned (.tuple #[]) ∧ DNext w base p n (planD D a true cs) w' := by
  by_cases h1 : 1 ≤ a
  · have h64 : I64 (D.steps + a) := by have := hD.s0; have := hD.s1; unfold I64; omega
    have s0 := hD.s0
    have s1 := hD.s1
    have H := Lib.hid h
    have Hc := Lib.hid hc
    have H64 := Lib.hid h64
    have Hbase := Lib.hid hbase
    have Hr := Lib.hid h.drew.r
    have HM : Hid (planD D a true cs = { D with plan := D.plan ++ [⟨D.steps + a, true, cs⟩] }) := by unfold Hid planD; rw [if_neg (by omega)]
    clear h hD h64 hc hbase
    have hwr : IntKind.i64.wrap (D.steps + a) = D.steps + a := by rw [IntKind.wrap_i64]; omega
    go_enter Try.func11, Try.ntmps11
    go_wp2_with fail
    refine wp_region_tr (.take 0 (.take 1 (.take 2 (.take 3 (.take 4 (.take 5 (.take 6 (.take 7 (.take 8 (.take 9 (.take 10 (.run 11 (.run 12 .done))))))))))))) (fun u => readAt u p.B 0 7 = some (d7 p n D.down D.steps)) (by kernel_rfl) (by kernel_rfl) rfl (by kernel_rfl) Hr.out ?_
    repeat (first | (refine t_off rfl rfl ?_; simp only [List.getElem_toArray, List.getElem_cons_succ, List.getElem_cons_zero, Act.put, Act.eval, List.setIfInBounds_toArray, List.set_cons_zero, List.set_cons_succ, Array.getD_eq_getD_getElem?, List.getElem?_toArray, List.getElem?_cons_succ, List.getElem?_cons_zero, Option.getD_some]) | (refine t_move rfl _ rfl rfl ?_; simp only [List.getElem_toArray, List.getElem_cons_succ, List.getElem_cons_zero, Act.put, Act.eval, List.setIfInBounds_toArray, List.set_cons_zero, List.set_cons_succ, Array.getD_eq_getD_getElem?, List.getElem?_toArray, List.getElem?_cons_succ, List.getElem?_cons_zero, Option.getD_some]) | (refine t_assign rfl _ rfl rfl ?_; simp only [List.getElem_toArray, List.getElem_cons_succ, List.getElem_cons_zero, Act.put, Act.eval, List.setIfInBounds_toArray, List.set_cons_zero, List.set_cons_succ, Array.getD_eq_getD_getElem?, List.getElem?_toArray, List.getElem?_cons_succ, List.getElem?_cons_zero, Option.getD_some]) | (refine t_val rfl rfl ?_; apply Exists.intro; refine ⟨fun w' hC' => ?_, ?_⟩; (obtain ⟨-, -, -, -, c4, -, c6⟩ := d7_cells hC'; go_simp; (first | done | exact rfl)); simp only [List.getElem_toArray, List.getElem_cons_succ, List.getElem_cons_zero, Act.put, Act.eval, List.setIfInBounds_toArray, List.set_cons_zero, List.set_cons_succ, Array.getD_eq_getD_getElem?, List.getElem?_toArray, List.getElem?_cons_succ, List.getElem?_cons_zero, Option.getD_some]) | (refine p_off rfl rfl ?_; simp only [List.getElem_toArray, List.getElem_cons_succ, List.getElem_cons_zero, Act.put, Act.eval, List.setIfInBounds_toArray, List.set_cons_zero, List.set_cons_succ, Array.getD_eq_getD_getElem?, List.getElem?_toArray, List.getElem?_cons_succ, List.getElem?_cons_zero, Option.getD_some]) | (refine p_val rfl rfl ?_; apply Exists.intro; refine ⟨fun w' => ?_, ?_⟩; (go_simp; (first | done | exact rfl)); simp only [List.getElem_toArray, List.getElem_cons_succ, List.getElem_cons_zero, Act.put, Act.eval, List.setIfInBounds_toArray, List.set_cons_zero, List.set_cons_succ, Array.getD_eq_getD_getElem?, List.getElem?_toArray, List.getElem?_cons_succ, List.getElem?_cons_zero, Option.getD_some]))
    refine r_call rfl rfl ?_; apply Exists.intro; apply Exists.intro; refine ⟨?_, ?_⟩; (go_simp; exact ⟨rfl, rfl⟩)
    refine (clonei_any vc cs _ hcl (Hc.out.below (Below.refl _ _).drew)).mono ?_
    rintro _ w2 ⟨⟨v, rfl, hv, hg⟩, hb2⟩
    have hb3 : Below w.heap.size w w2 := bt (Below.refl _ _).drew hb2
    have hg2 : ∀ g, v.ownBlock = some g → base ≤ g ∧ g < w2.heap.size ∧ ¬ p.has g := fun g h1 => ⟨Nat.le_trans Hbase.out (hg g h1).1, (hg g h1).2, fun hp => by have h2 := H.out.has_lt g hp; have h3 := (hg g h1).1; simp at h3; omega⟩
    have hr2 := (readAt_below hb3 (readAt_lt H.out.r) 0 7).trans H.out.r
    have Hr2 := Lib.hid hr2
    obtain ⟨o, hst, hA⟩ := (H.out.below hb3).storeC a h1 H64.out cs v hv hg2
    have HA := Lib.hid hA
    have Hst := Lib.hid hst
    have HK : Hid (Kb p.has w (setBlock w2 p.bc o)) := (Kb.of_below (X := p.has) hb3).ob (Ob.setBlock _ _ _) (.inl (five_bc p))
    have HG : Hid (∀ b, DP.has { p with cb := v.ownBlock.toList ++ p.cb } b → p.has b ∨ w.heap.size ≤ b) := fun b hb => by
      rcases hb with h1 | h1 | h1
      · exact .inl (.inl h1)
      · exact .inl (.inr (.inl h1))
      · rcases List.mem_append.1 h1 with h2 | h2
        · exact .inr (hg b (by simpa using h2)).1
        · exact .inl (.inr (.inr h2))
    clear hv hg hb2 hb3 hg2 hr2 hst hA
    refine ⟨_, rfl, _, fun _ h => h, Hr2.out, ?_⟩; simp only [List.getElem_toArray, List.getElem_cons_succ, List.getElem_cons_zero, Act.put, Act.eval, List.setIfInBounds_toArray, List.set_cons_zero, List.set_cons_succ, Array.getD_eq_getD_getElem?, List.getElem?_toArray, List.getElem?_cons_succ, List.getElem?_cons_zero, Option.getD_some]
    have hst := Hst.out
    refine r_any rfl rfl (fun K hK => ?_)
    go_simp
    refine hK _ _ (fun u => readAt u p.B 0 7 = some (d7 p n D.down D.steps)) (fun _ h => h) HA.out.r ?_
    clear hK K hst
    try simp only [List.getElem_toArray, List.getElem_cons_succ, List.getElem_cons_zero, Act.put, Act.eval, List.setIfInBounds_toArray, List.set_cons_zero, List.set_cons_succ, Array.getD_eq_getD_getElem?, List.getElem?_toArray, List.getElem?_cons_succ, List.getElem?_cons_zero, Option.getD_some]
    refine t_done ?_
    go_wp2
    go_end0
    rw [HM.out]
    exact ⟨rfl, { p with cb := v.ownBlock.toList ++ p.cb }, rfl, HA.out, HK.out, HG.out⟩
  · have HM : Hid (planD D a true cs = D) := by unfold Hid planD; rw [if_pos (by omega)]
    have h2 : decide (1 ≤ a) = false := by simpa using h1
    have H := Lib.hid h
    clear h hD h1 hc
    go_enter Try.func11, Try.ntmps11
    go_wp2
    go_end0
    rw [HM.out]
    exact ⟨rfl, p, rfl, H.out, Kb.refl _ _, fun b hb => .inl hb⟩

theorem stable_any (w : World) (h : DAt w base p n D) (hl : D.st.length = n) (hn : n ≤ 5000) :
    Calls Try.prog 19 #[.pointer (some ⟨p.B, 0, none⟩)] w fun e w' => (∃ v, e = .returned v ∧ Own w' w.heap.size v n 64 (flat av D.st)) ∧ Below w.heap.size w w' := by
  obtain ⟨c0, -⟩ := h.cells
  have H := Lib.hid h
  clear h
  go_enter Try.func19, Try.ntmps19
  go_wp2_with fail
  refine (clone_any p.gs 0 n p.gc D.st w hn hl H.out.sr).mono ?_
  rintro _ w2 ⟨⟨v, rfl, ho⟩, hb⟩
  go_wp2
  go_ret
  exact ⟨⟨v, rfl, ho⟩, hb⟩
end
end Go.Proofs.Ytjedlcfeobhjnaa
