/- What Parse of the reference of package frame computes. No conditions. -/
import Derived.Test.YtlonmghkdobhdaaFr4
import Derived.Deep.RegionLaw
set_option linter.unusedSimpArgs false
set_option linter.unusedVariables false
namespace Go.Proofs.Ytlonmghkdobhdaa
open Go.RowKit

section
variable {P : Program} {ops : Array Oper} {o : Oper} {a : Act} {w : World} {K : Act → World → Prop} {Q : Exit → Act → World → Prop} {E : Prop}
/-- A call of Tag, as one step of a region that draws. -/
theorem step_tag {ops : Array Oper} {o : Oper} {a : Act} {w : World} {K : Act → World → Prop} {Q : Exit → Act → World → Prop} {E : Prop} (hg : o.guard = none) (x : Operand) (t : TypeId)
    (hop : o.op = .call { callee := .value (.func 13), args := #[x], argTypes := #[t] }) (v : Value) (hx : a.eval x = v) (R : Value → World → Prop)
    (hc : Calls Try.prog 13 #[v] w fun e w' => ∃ r, e = .returned r ∧ R r w') (h : ∀ r w', R r w' → K (a.put o.dst r) w') :
    if Region.wanted o (yielded ops a.tmps) = true then Oper.wp Try.prog o a w K Q else E := by
  have hw : Region.wanted o (yielded ops a.tmps) = true := by simp [Region.wanted, hg]
  rw [if_pos hw]
  have hrun : (execOp a.eval o).run Try.prog w = .ok (.enter 13 #[v]) w := by
    simp [execOp, hop, resolve, invoke, Deferred.ofValue, go_sem]
    rw [← hx]; cases x <;> simp [Act.eval]
  unfold Oper.wp
  rw [hrun, Oper.upon_enter]
  refine hc.mono ?_
  rintro e w' ⟨r, rfl, hr⟩
  exact h r w' hr
theorem step_append_own (hg : o.guard = none) (s x : Operand) (t : TypeId)
    (ho : o.op = .call { callee := .builtin .append, args := #[s, x], argTypes := #[t, t] })
    (base : Nat) (e : TypeId) (i : TypeInfo) (z : Value) (size bytes : Nat) (ht : P.underlying t = some (.slice e)) (hi : P.info? e = some i) (hz : i.zero = some z)
    (hsize : i.size = size) (hby : i.bytes = bytes) (hzs : z.cells.size = size) (hsz : 0 < size)
    (v : Value) (n : Nat) (xs : List Value) (hs : a.eval s = v) (hown : w.ownsRow base e size v n xs)
    (ad : Addr) (m c : Nat) (news : List Value) (hx : a.eval x = .slice (some ad) m c) (hl : news.length = m * size) (hnews : ∀ j u, news[j]? = some u → w.cell? (ad.add j) = some u) (h1 : ∀ u ∈ news, u.oneCell' = true)
    (h63 : n + m ≤ maxLen) (hbytes : (n + m) * bytes ≤ 140737488355328) (hbase : base ≤ w.heap.size)
    (h : ∀ v' w', w'.ownsRow base e size v' (n + m) (xs ++ news) → w.grownBy w' v.ownBlock → (v' = .slice none 0 0 ↔ v = .slice none 0 0 ∧ m = 0) → K (a.put o.dst v') w') :
    if Region.wanted o (yielded ops a.tmps) = true then Oper.wp P o a w K Q else E := by
  have hw : Region.wanted o (yielded ops a.tmps) = true := by simp [Region.wanted, hg]
  rw [if_pos hw]
  exact wp_append_own w s x t ho base e i z size bytes ht hi hz hsize hby hzs hsz v n xs hs hown ad m c news hx hl hnews h1 h63 hbytes hbase h
end

theorem slice_sec_in (w : World) (b o n : Nat) (hn : n ≤ 54) :
    (Instr.sliceAt 25 (.pointer (some ⟨b, o, none⟩)) (some (.int .i64 2)) (some (.int .i64 (2 + (n : Int)))) none).run Try.prog w = .ok (.slice (some ⟨b, o + 2, none⟩) n 62) w := by
  have h1 : ¬ (64 : Int) < 2 + n := by omega
  have h2 : ¬ (2 + (n : Int)) < 2 := by omega
  have h3 : ¬ (2 + (n : Int)) < 0 := by omega
  cases hq : Try.prog.info? 5 with
  | none => have := info_u8; simp [hq] at this
  | some i =>
    have hs : i.size = 1 := by have := info_u8; simp [hq] at this; exact this
    simp [Instr.sliceAt, run_underlying Try.underlying25, Instr.sureAddr, Instr.sliceBounds, Instr.sliceBound, asIntOf, h1, h2, h3, sizeOf, typeInfo, hq, hs, Addr.add]
    rw [if_pos (by omega), if_pos (by omega)]
    have e : (2 + (n : Int)).toNat - 2 = n := by omega
    rw [e]
theorem len_sum (x : Sec) : lenOf x = 256 * ((sl x).getD 0 0).toNat + ((sl x).getD 1 0).toNat := by
  unfold lenOf
  have h := sl_length x
  have e : (sl x).take 2 = [(sl x).getD 0 0, (sl x).getD 1 0] := by
    apply List.ext_getElem
    · simp
    · intro i h1 h2
      simp at h1 h2
      have : i = 0 ∨ i = 1 := by omega
      rcases this with rfl | rfl <;> simp [List.getD, h]
  rw [e]
  simp only [nb, List.foldl_cons, List.foldl_nil]
  omega
theorem sto_sum (x : Sec) : stoOf x = ((sl x).getD 56 0).toNat * 16777216 + ((sl x).getD 57 0).toNat * 65536 + ((sl x).getD 58 0).toNat * 256 + ((sl x).getD 59 0).toNat := by
  unfold stoOf
  have h := sl_length x
  have e : ((sl x).drop 56).take 4 = [(sl x).getD 56 0, (sl x).getD 57 0, (sl x).getD 58 0, (sl x).getD 59 0] := by
    apply List.ext_getElem
    · simp
    · intro i h1 h2
      simp at h1 h2
      have : i = 0 ∨ i = 1 ∨ i = 2 ∨ i = 3 := by omega
      rcases this with rfl | rfl | rfl | rfl <;> simp [List.getD, h]
  rw [e]
  simp only [nb, List.foldl_cons, List.foldl_nil]
  omega

set_option maxHeartbeats 6400000 in
theorem rparse_any (x : Sec) (w : World) :
    Calls Try.prog 14 #[.agg (av x)] w fun e w' => ParseOut x w.heap.size e w' ∧ Below w.heap.size w w' := by
  obtain ⟨w0, hw0⟩ : ∃ w0, w.alloc (.cells (av x) 25) = w0 := ⟨_, rfl⟩
  have hr0 : readAt w0 w.heap.size 0 64 = some (av x) := by rw [← hw0]; simp [go_sem]
  have hB0 : Below w.heap.size w w0 := by rw [← hw0]; exact ba _ (Below.refl _ _)
  have hsz0 : w0.heap.size = w.heap.size + 1 := by rw [← hw0]; simp
  have c0 := sl_cell hr0 0 (by omega)
  have c1 := sl_cell hr0 1 (by omega)
  have c6 := sl_cell hr0 56 (by omega)
  have c7 := sl_cell hr0 57 (by omega)
  have c8 := sl_cell hr0 58 (by omega)
  have c9 := sl_cell hr0 59 (by omega)
  have hls := len_sum x
  have hss := sto_sum x
  have b0 := toNat_lt ((sl x).getD 0 0)
  have b1 := toNat_lt ((sl x).getD 1 0)
  have b6 := toNat_lt ((sl x).getD 56 0)
  have b7 := toNat_lt ((sl x).getD 57 0)
  have b8 := toNat_lt ((sl x).getD 58 0)
  have b9 := toNat_lt ((sl x).getD 59 0)
  generalize ((sl x).getD 0 0).toNat = z0 at *
  generalize ((sl x).getD 1 0).toNat = z1 at *
  generalize ((sl x).getD 56 0).toNat = z6 at *
  generalize ((sl x).getD 57 0).toNat = z7 at *
  generalize ((sl x).getD 58 0).toNat = z8 at *
  generalize ((sl x).getD 59 0).toNat = z9 at *
  have hlt0 : w.heap.size < w0.heap.size := by omega
  have Hr0 := Lib.hid hr0
  have HB0 := Lib.hid hB0
  have Hls := Lib.hid hls
  have Hss := Lib.hid hss
  clear hB0 hsz0 hls hss
  go_enter Try.func14, Try.ntmps14
  by_cases h54 : 54 < lenOf x
  · have d0 : decide ((54 : Int) < 256 * (z0 : Int) + (z1 : Int)) = true := by have := Hls.out; simp; omega
    have hno : okF x = false := by unfold okF; rw [decide_eq_false (by omega)]; rfl
    have Hno := Lib.hid hno
    clear hno h54 hr0
    go_wp2
    go_ret3
    refine ⟨?_, HB0.out⟩
    unfold ParseOut
    rw [if_neg (by rw [Hno.out]; simp)]
    rfl
  · have d0 : decide ((54 : Int) < 256 * (z0 : Int) + (z1 : Int)) = false := by have := Hls.out; simp; omega
    have hle : lenOf x ≤ 54 := by omega
    clear h54
    go_wp2_with fail
    rw [show (256 * (z0 : Int) + (z1 : Int)) = ((lenOf x : Nat) : Int) by have := Hls.out; omega, show ((z6 : Int) * 16777216 + (z7 : Int) * 65536 + (z8 : Int) * 256 + (z9 : Int)) = ((stoOf x : Nat) : Int) by have := Hss.out; omega]
    clear c0 c1 c6 c7 c8 c9 b0 b1 b6 b7 b8 b9 d0 Hls Hss hr0 hw0
    refine (rfsum_any x _).mono ?_
    rintro _ w1 ⟨rfl, hb1⟩
    have hok : okF x = (decide (∀ c ∈ padOf x, c = 0) && decide (stoOf x = sumOf x)) := by unfold okF; rw [decide_eq_true hle]; simp
    have hsto32 : stoOf x < 4294967296 := nb_lt32 _ (by simp)
    have hsum32 : sumOf x < 4294967296 := csum_lt _
    have Hok := Lib.hid hok
    have Hb1 := Lib.hid (HB0.out.trans (hb1.mono HB0.out.size))
    have hr1 : readAt w1 w.heap.size 0 64 = some (av x) := by rw [readAt_below hb1 hlt0]; exact Hr0.out
    have Hr1 := Lib.hid hr1
    have hlt1 : w.heap.size < w1.heap.size := readAt_lt hr1
    obtain ⟨n, hn⟩ : ∃ n, lenOf x = n := ⟨_, rfl⟩
    rw [hn] at hle ⊢
    have Hn := Lib.hid hn
    clear hok hb1 hr1 hn Hr0 hlt0
    obtain ⟨S, hSS⟩ : ∃ S, sumOf x = S := ⟨_, rfl⟩
    obtain ⟨D, hDD⟩ : ∃ D, stoOf x = D := ⟨_, rfl⟩
    rw [hSS] at hsum32 ⊢
    rw [hDD] at hsto32 ⊢
    have HSS := Lib.hid hSS
    have HDD := Lib.hid hDD
    clear hSS hDD
    by_cases hds : D = S
    · subst hds
      have hne : ((D : Int) != (D : Int)) = false := by simp
      go_wp2_with fail
      go_loop [7] (fun q => ∃ k : Nat, 2 + n ≤ k ∧ k ≤ 56 ∧ q = .int .i64 k ∧ Hid (∀ j, 2 + n ≤ j → j < k → (sl x).getD j 0 = 0)) (fun q => 56 - (intOf q).toNat)
      case atStart => exact ⟨2 + n, by omega, by omega, by go_num, fun j h1 h2 => absurd h1 (by omega)⟩
      case round =>
        obtain ⟨k, hk1, hk2, rfl, hz⟩ := hrel
        by_cases hlt : k < 56
        · have hcell := sl_cell Hr1.out k (by omega)
          by_cases hc : (sl x).getD k 0 = 0
          · have hz2 : Hid (∀ j, 2 + n ≤ j → j < k + 1 → (sl x).getD j 0 = 0) := fun j h1 h2 => by
              rcases Nat.lt_or_eq_of_le (Nat.lt_succ_iff.1 h2) with h | h
              · exact hz.out j h1 h
              · rw [h]; exact hc
            have hd : ((((sl x).getD k 0).toNat : Int) != 0) = false := by rw [hc]; rfl
            clear hc
            generalize (((sl x).getD k 0).toNat : Int) = y at *
            go_wp2
            go_round
            case rel => exact ⟨k + 1, by omega, by omega, by go_num, hz2.out⟩
            case measure => simp [intOf]; omega
          · have hd : ((((sl x).getD k 0).toNat : Int) != 0) = true := by
              rw [bne_iff_ne]; intro e; exact hc (UInt8.toNat_inj.1 (by have : (0 : UInt8).toNat = 0 := rfl; omega))
            have hno : okF x = false := by
              rw [Hok.out]
              have : ¬ ∀ c ∈ padOf x, c = 0 := fun h => hc (h _ (by
                unfold padOf
                rw [Hn.out]
                have hj : k - (2 + n) < (((sl x).drop (2 + n)).take (54 - n)).length := by simp; omega
                have e : (sl x).getD k 0 = (((sl x).drop (2 + n)).take (54 - n))[k - (2 + n)] := by
                  simp only [List.getElem_take, List.getElem_drop, List.getD_eq_getElem?_getD]
                  rw [List.getElem?_eq_getElem (by simp; omega)]
                  simp only [Option.getD_some]
                  congr 1; omega
                rw [e]; exact List.getElem_mem _))
              rw [decide_eq_false this]; rfl
            have Hno := Lib.hid hno
            clear hno hc
            generalize (((sl x).getD k 0).toNat : Int) = y at *
            go_wp2
            go_ret3
            refine ⟨?_, Hb1.out⟩
            unfold ParseOut
            rw [if_neg (by rw [Hno.out]; simp)]
            rfl
        · obtain rfl : k = 56 := by omega
          have hyes : okF x = true := by
            rw [Hok.out, HSS.out, HDD.out]
            have : ∀ c ∈ padOf x, c = 0 := by
              intro c hc
              unfold padOf at hc
              rw [Hn.out] at hc
              obtain ⟨j, hj, rfl⟩ := List.getElem_of_mem hc
              simp only [List.length_take, List.length_drop, sl_length] at hj
              have := hz.out (2 + n + j) (by omega) (by omega)
              simp only [List.getElem_take, List.getElem_drop]
              rw [List.getD_eq_getElem?_getD, List.getElem?_eq_getElem (by simp; omega)] at this
              exact this
            rw [decide_eq_true this]; simp
          have Hyes := Lib.hid hyes
          clear hyes hz
          obtain ⟨i0, hi, hz, hsz, hby⟩ := info_parts view_u8
          have hbz := fun (W : World) => run_buildSlice_zero (P := Try.prog) W 23 5 i0 Try.underlying23 hi
          have hsl := fun (W : World) => slice_sec_in W w.heap.size 0 n (by omega)
          have hwr : IntKind.i64.wrap (2 + (n : Int)) = 2 + (n : Int) := by rw [IntKind.wrap_i64]; omega
          have hr1 := Hr1.out
          have hpay : payOf x = ((sl x).drop 2).take n := by unfold payOf; rw [Hn.out]
          have hpl : (payOf x).length = n := by rw [hpay]; simp; omega
          have Hpl := Lib.hid hpl
          have hbs := sec_bs hr1 2 n 62 (by omega) (by omega) (by omega)
          rw [Nat.zero_add, ← hpay] at hbs
          obtain ⟨a, ha, hsrc⟩ : ∃ a', some (⟨w.heap.size, 2, none⟩ : Addr) = some a' ∧ ∀ j u, ((payOf x).map B8)[j]? = some u → w1.cell? (a'.add j) = some u := by
            rcases hbs.src with ⟨h, _⟩ | h
            · cases h
            · exact h
          cases ha
          have HSrc : Hid (∀ W, Below w1.heap.size w1 W → ∀ j u, ((payOf x).map B8)[j]? = some u → W.cell? ((⟨w.heap.size, 2, none⟩ : Addr).add j) = some u) := fun W hW j u hu => by
            have h := hsrc j u hu
            rw [Addr.add_lit] at h ⊢
            rw [hW.cell (p := ⟨w.heap.size, 2 + j, none⟩) hlt1]; exact h
          have hown0 : ((w1.alloc (.cells #[] 5)).drew).ownsRow w.heap.size 5 1 (.slice (some ⟨w1.heap.size, 0, none⟩) 0 0) 0 [] :=
            ownsRow_below (World.ownsRow_made (size := 1) w1 #[] 0 (by omega) (by simp [maxLen]) (by simp)) (Below.refl _ _).drew
          have Hown0 := Lib.hid hown0
          have Hbd : Hid (Below w1.heap.size w1 (w1.alloc (.cells #[] 5)).drew) := (ba _ (Below.refl _ _)).drew
          have Hbe : Hid (Below w1.heap.size w1 w1.drew) := (Below.refl _ _).drew
          clear hpay hpl hbs hsrc hown0
          generalize hPP : payOf x = Pay at *
          have HPP := Lib.hid hPP
          clear hPP
          go_wp2_with fail
          go_region_law (first
            | (refine step_tag rfl (.tmp 52) _ rfl (.agg (av x)) rfl (fun r w' => r = .int .u32 (tagOf x : Nat) ∧ Below _ _ w') ((rtag_any x _).mono fun e w' h => ⟨_, h.1, rfl, h.2⟩) ?_; rintro _ w5 ⟨rfl, hb5⟩; have HO5 : Hid (Below w1.heap.size w1 w5) := (by first | exact bt Hbe.out hb5 | exact bt Hbd.out hb5); have Hb5 := Lib.hid hb5; clear hb5; have HX5 : Hid ((w5.alloc (.cells #[] 5)).ownsRow w.heap.size 5 1 (.slice (some ⟨w5.heap.size, 0, none⟩) 0 0) 0 []) := (World.ownsRow_made (size := 1) w5 #[] 0 (by have := HO5.out.size; omega) (by simp [maxLen]) (by simp)))
            | (refine step_append_own rfl (.tmp 54) (.tmp 57) 23 rfl w.heap.size 5 i0 _ 1 1 Try.underlying23 hi hz hsz hby rfl (by decide) _ 0 _ rfl (ownsRow_below Hown0.out Hb5.out) ⟨w.heap.size, 2, none⟩ n 62 (Pay.map B8) rfl (by rw [List.length_map, Hpl.out]; omega) (HSrc.out _ HO5.out) (map_B8_one _) (by simp only [maxLen]; omega) (by omega) (by have := HO5.out.size; omega) ?_; intro v6 w6 hown6 hgr6 _; have Hfin : Hid (w6.ownsRow w.heap.size 5 1 v6 (0 + n) ([] ++ Pay.map B8) ∧ Below w.heap.size w w6) := ⟨hown6, (Hb1.out.trans (HO5.out.mono (by omega))).grown hgr6 (by have := HO5.out.size; omega) (fun b hbk => ((ownsRow_below Hown0.out Hb5.out).lt b hbk).1)⟩; clear hown6 hgr6)
            | (refine step_append_own rfl (.tmp 54) (.tmp 57) 23 rfl w.heap.size 5 i0 _ 1 1 Try.underlying23 hi hz hsz hby rfl (by decide) _ 0 _ rfl HX5.out ⟨w.heap.size, 2, none⟩ n 62 (Pay.map B8) rfl (by rw [List.length_map, Hpl.out]; omega) (HSrc.out _ (bt HO5.out (ba _ (Below.refl _ _)))) (map_B8_one _) (by simp only [maxLen]; omega) (by omega) (by have := HO5.out.size; simp; omega) ?_; intro v6 w6 hown6 hgr6 _; have Hfin : Hid (w6.ownsRow w.heap.size 5 1 v6 (0 + n) ([] ++ Pay.map B8) ∧ Below w.heap.size w w6) := ⟨hown6, ((Hb1.out.trans (HO5.out.mono (by omega))).trans ((ba _ (Below.refl w5.heap.size w5)).mono (by have := HO5.out.size; omega))).grown hgr6 (by have := HO5.out.size; simp; omega) (fun b hbk => (HX5.out.lt b hbk).1)⟩; clear hown6 hgr6))
          all_goals
            have hown : Hid (ByOwn w6 w.heap.size v6 (payOf x)) := by
              have h := Hfin.out.1
              show ByOwn _ _ _ _
              unfold ByOwn
              rw [HPP.out, Hpl.out]
              rw [Nat.zero_add, List.nil_append] at h
              exact h
            have hb := Lib.hid Hfin.out.2
            clear Hfin HX5 Hb5 HO5 hsl hbz hwr hr1 Hown0 HSrc
            go_wp2
            go_ret3
            refine ⟨?_, hb.out⟩
            unfold ParseOut
            rw [if_pos Hyes.out]
            exact ⟨_, rfl, hown.out⟩
    · have hne : ((D : Int) != (S : Int)) = true := by rw [bne_iff_ne]; omega
      have hno : okF x = false := by rw [Hok.out, HSS.out, HDD.out, decide_eq_false hds]; simp
      have Hno := Lib.hid hno
      clear hno hds
      go_wp2
      go_ret3
      refine ⟨?_, Hb1.out⟩
      unfold ParseOut
      rw [if_neg (by rw [Hno.out]; simp)]
      rfl
end Go.Proofs.Ytlonmghkdobhdaa
