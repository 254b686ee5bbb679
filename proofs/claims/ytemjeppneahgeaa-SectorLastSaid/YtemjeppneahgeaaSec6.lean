/- What rows of tolllaw15 computes: the writes and their cuts. Conditions: at most 50 rows, whose numbers fit 64 bits; a number of sectors from 1 to 8. -/
import Derived.Test.YtemjeppneahgeaaSec5
import Derived.Maps.AppendAt
set_option linter.unusedSimpArgs false
set_option linter.unusedVariables false
namespace Go.Proofs.Ytemjeppneahgeaa
open Go.RowKit

def Is64 (x : Int) : Prop := -9223372036854775808 ≤ x ∧ x ≤ 9223372036854775807
/-- A row: At, Cut, Byte. -/
abbrev Rw3 := Int × Int × UInt8
def rv (r : Rw3) : Array Value := #[.int .i64 r.1, .int .i64 r.2.1, B8 r.2.2]
@[simp] theorem size_rv (r : Rw3) : (rv r).size = 3 := rfl
def norm (n : Nat) (x : Int) : Int := (wrap64 (x.tmod n + n)).tmod n
def Sep (u v : Value) : Prop := ∀ g, u.ownBlock = some g → v.ownBlock ≠ some g
theorem Sep.symm {u v : Value} (h : Sep u v) : Sep v u := fun g h1 h2 => h g h2 h1
theorem Sep_nil (v : Value) : Sep (.slice none 0 0) v := fun g h => by simp [Value.ownBlock] at h
theorem wvp (p : Int × Sec) : (wv p.1 p.2).size = 65 := size_wv _ _
def wp2 (p : Int × Sec) : Array Value := wv p.1 p.2
def writes (n : Nat) (R : List Rw3) : List (Int × Sec) := R.map fun r => (norm n r.1, fill r.2.2)
def cutsOf (R : List Rw3) : List Int := R.map fun r => r.2.1

/-- What stays owned when another owned row has grown. -/
theorem own_kept {w w' : World} {base e size n : Nat} {v u : Value} {xs : List Value} (h : w.ownsRow base e size v n xs) (hg : w.grownBy w' u.ownBlock) (hs : Sep v u) : w'.ownsRow base e size v n xs := by
  refine h.kept hg ?_
  cases hv : v.ownBlock with
  | none => exact .inl rfl
  | some g => right; exact fun e => hs g hv e.symm
theorem sep_grown {w : World} {u v v' : Value} {base e size n : Nat} {xs : List Value} (hs : Sep u v) (hu : w.ownsRow base e size u n xs) {s : Nat} (h : v'.ownBlock = v.ownBlock ∨ v'.ownBlock = some s) (hsz : w.heap.size ≤ s) : Sep u v' := by
  intro g hg h2
  rcases h with h | h
  · rw [h] at h2; exact hs g hg h2
  · rw [h] at h2
    have := (hu.lt g hg).2
    simp only [Option.some.injEq] at h2
    omega

theorem mkU8_toNat (b : UInt8) : mkU8 (b.toNat : Int) = b := by simp [mkU8]
theorem fill_u8 (b : UInt8) (w : World) :
    Calls Try.prog 21 #[.int .u8 (b.toNat : Int)] w fun e w' => e = .returned (.agg (av (fill b))) ∧ Below w.heap.size w w' := by
  have := fill_any (b.toNat : Int) w ⟨by omega, by have := b.toNat_lt; omega⟩
  rw [mkU8_toNat] at this; exact this

set_option maxHeartbeats 1600000 in
theorem rows_any (ad : Option Addr) (m c n : Nat) (R : List Rw3) (w : World) (hm : m ≤ 50) (hl : R.length = m) (hr : RdS w (.slice ad m c) m 3 (flat rv R)) (h64 : ∀ r ∈ R, Is64 r.1 ∧ Is64 r.2.1) (hn : 1 ≤ n) (hn8 : n ≤ 8) :
    Calls Try.prog 14 #[.slice ad m c, .int .i64 n] w fun e w' => (∃ va vb vc, e = .returned (.tuple #[va, vb, vc]) ∧
      w'.ownsRow w.heap.size 52 65 va m (flat wp2 (writes n R)) ∧ w'.ownsRow w.heap.size 42 65 vb m (flat wp2 (writes n R)) ∧ w'.ownsRow w.heap.size 3 1 vc m ((cutsOf R).map (Value.int .i64)) ∧ Sep va vb ∧ Sep va vc ∧ Sep vb vc) ∧ Below w.heap.size w w' := by
  obtain ⟨ia, hia, hza, hsa, hba⟩ := info_parts view_Rw
  obtain ⟨ib, hib, hzb, hsb, hbb⟩ := info_parts view_Wr
  obtain ⟨ic, hic, hzc, hsc, hbc⟩ := info_parts view_int
  have Hl := Lib.hid hl
  have Hr := Lib.hid hr
  clear hl hr
  go_enter Try.func14, Try.ntmps14
  go_wp2
  go_loopw [7, 8, 9, 10] (fun va vb vc i wr => ∃ k : Nat, k ≤ m ∧ i = .int .i64 k ∧
      wr.ownsRow w.heap.size 52 65 va k (flat wp2 (writes n (R.take k))) ∧ wr.ownsRow w.heap.size 42 65 vb k (flat wp2 (writes n (R.take k))) ∧ wr.ownsRow w.heap.size 3 1 vc k ((cutsOf (R.take k)).map (Value.int .i64)) ∧ Hid (Sep va vb) ∧ Hid (Sep va vc) ∧ Hid (Sep vb vc) ∧ Below w.heap.size w wr) (fun _ _ _ i _ => m - (intOf i).toNat)
  case atStart => exact ⟨0, Nat.zero_le _, rfl, by simpa [writes, flat] using World.ownsRow_nil _ _ _ _, by simpa [writes, flat] using World.ownsRow_nil _ _ _ _, by simpa [cutsOf] using World.ownsRow_nil _ _ _ _, Sep_nil _, Sep_nil _, Sep_nil _, Below.refl _ _⟩
  case round =>
    obtain ⟨k, hk, rfl, howna, hownb, hownc, sab, sac, sbc, hb⟩ := hrel
    by_cases hlt : k < m
    · obtain ⟨b, o, cap, e1, _, _, hrd⟩ := (Hr.out.below hb).at k hlt
      simp only [Value.slice.injEq, true_and] at e1
      obtain ⟨rfl, rfl⟩ := e1
      rw [flat_get rv 3 size_rv R k (by rw [Hl.out]; exact hlt)] at hrd
      have h64k := h64 (R[k]'(by rw [Hl.out]; exact hlt)) (List.getElem_mem _)
      have htk : R.take (k + 1) = R.take k ++ [R[k]'(by rw [Hl.out]; exact hlt)] := List.take_succ_eq_append_getElem _
      have Htk := Lib.hid htk
      clear htk
      obtain ⟨r, hrk⟩ : ∃ r, R[k]'(by rw [Hl.out]; exact hlt) = r := ⟨_, rfl⟩
      have Hrk := Lib.hid hrk
      rw [hrk] at hrd h64k Htk
      clear hrk
      obtain ⟨at_, ct, by_⟩ := r
      have hc0 := readAt_cell hrd 0 (.int .i64 at_) rfl
      have hc1 := readAt_cell hrd 1 (.int .i64 ct) rfl
      have hc2 := readAt_cell hrd 2 (.int .u8 (by_.toNat : Int)) rfl
      rw [Nat.add_zero] at hc0
      obtain ⟨⟨h1, h2⟩, _⟩ := h64k
      clear hrd h64
      have hbw : b < w.heap.size := by
        obtain ⟨b', o', cap', e1, _, _, hrd⟩ := Hr.out.at k hlt
        simp only [Value.slice.injEq, Option.some.injEq, Addr.mk.injEq, true_and] at e1
        obtain ⟨⟨rfl, _⟩, _⟩ := e1
        exact readAt_lt hrd
      have H1 := Lib.hid howna
      have H2 := Lib.hid hownb
      have H3 := Lib.hid hownc
      clear howna hownb hownc
      go_wp2_with fail
      refine (fill_u8 by_ wr).mono ?_
      rintro _ w2 ⟨rfl, hb2⟩
      have hown := ownsRow_below H1.out hb2
      have H2 := Lib.hid (ownsRow_below H2.out hb2)
      have H3 := Lib.hid (ownsRow_below H3.out hb2)
      have hB2 : w.heap.size ≤ w2.heap.size := Nat.le_trans hb.size hb2.size
      have hb3 := hb.trans (hb2.mono hb.size)
      clear hb2 hb H1 hc0 hc1 hc2
      go_wp2_with (at_builtin; refine wpList_append_own_at _ rfl _ _ 34 rfl w.heap.size 52 ia _ 65 72 Try.underlying34 hia hza hsa hba (size_wv 0 zsec) (by decide) _ k _ rfl (hown.alloc _) ⟨w2.heap.size, 0, none⟩ 1 1 (wv ((wrap64 (at_.tmod (n : Int) + (n : Int))).tmod (n : Int)) (fill by_)).toList rfl ?a1 ?a2 ?a3 ?a4 ?a5 ?a6 ?_)
      case a1 => simp
      case a2 => exact cells_new (n := 65) (by simp [go_sem])
      case a3 => simpa using wv_one _ _
      case a4 => simp only [maxLen]; omega
      case a5 => omega
      case a6 => simp; omega
      intro va' w3 H1' hgr _ hob
      have H2' := Lib.hid (own_kept (H2.out.alloc (.cells (wv ((wrap64 (at_.tmod (n : Int) + (n : Int))).tmod (n : Int)) (fill by_)) 52)) hgr sab.out.symm)
      have H3' := Lib.hid (own_kept (H3.out.alloc (.cells (wv ((wrap64 (at_.tmod (n : Int) + (n : Int))).tmod (n : Int)) (fill by_)) 52)) hgr sac.out.symm)
      have sab' : Hid (Sep va' u8) := (sep_grown sab.out.symm H2.out hob (by omega)).symm
      have sac' : Hid (Sep va' u9) := (sep_grown sac.out.symm H3.out hob (by omega)).symm
      have hb4 : Below w.heap.size w w3 := (hb3.alloc hB2 _).grown hgr (by simp; omega) (fun b hbk => (hown.lt b hbk).1)
      have hB4 : w.heap.size ≤ w3.heap.size := hb4.size
      have H1 := Lib.hid H1'
      clear hgr hown hb3 hB2 H2 H3 sab sac hob H1'
      -- the second append
      obtain ⟨b', o', cap', e1, _, _, hrd⟩ := (Hr.out.below hb4).at k hlt
      simp only [Value.slice.injEq, Option.some.injEq, Addr.mk.injEq, true_and] at e1
      obtain ⟨⟨rfl, rfl, _⟩, rfl⟩ := e1
      rw [flat_get rv 3 size_rv R k (by rw [Hl.out]; exact hlt), Hrk.out] at hrd
      have hc2 := readAt_cell hrd 2 (.int .u8 (by_.toNat : Int)) rfl
      clear hrd
      go_wp2_with fail
      refine (fill_u8 by_ w3).mono ?_
      rintro _ w5 ⟨rfl, hb5⟩
      have hown := ownsRow_below H2'.out hb5
      have H1 := Lib.hid (ownsRow_below H1.out hb5)
      have H3 := Lib.hid (ownsRow_below H3'.out hb5)
      have hB5 : w.heap.size ≤ w5.heap.size := Nat.le_trans hb4.size hb5.size
      have hb6 := hb4.trans (hb5.mono hb4.size)
      clear hb5 hb4 hB4 hc2 H2' H3'
      go_wp2_with (at_builtin; refine wpList_append_own_at _ rfl _ _ 35 rfl w.heap.size 42 ib _ 65 72 Try.underlying35 hib hzb hsb hbb (size_wv 0 zsec) (by decide) _ k _ rfl (hown.alloc _) ⟨w5.heap.size, 0, none⟩ 1 1 (wv ((wrap64 (at_.tmod (n : Int) + (n : Int))).tmod (n : Int)) (fill by_)).toList rfl ?b1 ?b2 ?b3 ?b4 ?b5 ?b6 ?_)
      case b1 => simp
      case b2 => exact cells_new (n := 65) (by simp [go_sem])
      case b3 => simpa using wv_one _ _
      case b4 => simp only [maxLen]; omega
      case b5 => omega
      case b6 => simp; omega
      intro vb' w6 H2' hgr _ hob
      have H1' := Lib.hid (own_kept (H1.out.alloc (.cells (wv ((wrap64 (at_.tmod (n : Int) + (n : Int))).tmod (n : Int)) (fill by_)) 42)) hgr sab'.out)
      have H3' := Lib.hid (own_kept (H3.out.alloc (.cells (wv ((wrap64 (at_.tmod (n : Int) + (n : Int))).tmod (n : Int)) (fill by_)) 42)) hgr sbc.out.symm)
      have sab2 : Hid (Sep va' vb') := sep_grown sab'.out H1.out hob (by omega)
      have sbc2 : Hid (Sep vb' u9) := (sep_grown sbc.out.symm H3.out hob (by omega)).symm
      have hb7 : Below w.heap.size w w6 := (hb6.alloc hB5 _).grown hgr (by simp; omega) (fun b hbk => (hown.lt b hbk).1)
      have hB7 : w.heap.size ≤ w6.heap.size := hb7.size
      have H2 := Lib.hid H2'
      have hown := H3'.out
      clear hgr hb6 hB5 H3 sbc hob H2' sab' H1
      -- the third one
      obtain ⟨b', o', cap', e1, _, _, hrd⟩ := (Hr.out.below hb7).at k hlt
      simp only [Value.slice.injEq, Option.some.injEq, Addr.mk.injEq, true_and] at e1
      obtain ⟨⟨rfl, rfl, _⟩, rfl⟩ := e1
      rw [flat_get rv 3 size_rv R k (by rw [Hl.out]; exact hlt), Hrk.out] at hrd
      have hc1 := readAt_cell hrd 1 (.int .i64 ct) rfl
      clear hrd
      go_wp2_with (at_builtin; refine wpList_append_own_at _ rfl _ _ 36 rfl w.heap.size 3 ic _ 1 8 Try.underlying36 hic hzc hsc hbc rfl (by decide) _ k _ rfl (hown.alloc _) ⟨w6.heap.size, 0, none⟩ 1 1 [.int .i64 ct] rfl rfl ?d2 ?d3 ?d4 ?d5 ?d6 ?_)
      case d2 => exact cells_new (n := 1) (cs := #[.int .i64 ct]) (by simp [go_sem])
      case d3 => simp [Value.oneCell']
      case d4 => simp only [maxLen]; omega
      case d5 => omega
      case d6 => simp; omega
      intro vc' w8 H3 hgr _ hob
      have H1'' := own_kept (H1'.out.alloc (.cells #[.int .i64 ct] 3)) hgr sac'.out
      have H2'' := own_kept (H2.out.alloc (.cells #[.int .i64 ct] 3)) hgr sbc2.out
      have sac3 : Hid (Sep va' vc') := sep_grown sac'.out H1'.out hob (by omega)
      have sbc3 : Hid (Sep vb' vc') := sep_grown sbc2.out H2.out hob (by omega)
      have hb9 : Below w.heap.size w w8 := (hb7.alloc hB7 _).grown hgr (by simp; omega) (fun b hbk => (hown.lt b hbk).1)
      have G1 := Lib.hid H1''
      have G2 := Lib.hid H2''
      have G3 := Lib.hid H3
      clear hgr hb7 hB7 H3 sac' sbc2 hob H1'' H2'' H1' H2 hown hc1
      go_wp2
      go_roundw
      case rel =>
        refine ⟨k + 1, by omega, by go_num, ?_, ?_, ?_, sab2, sac3, sbc3, hb9⟩
        · rw [Htk.out, writes, List.map_append, List.map_cons, List.map_nil, flat_snoc]; exact G1.out
        · rw [Htk.out, writes, List.map_append, List.map_cons, List.map_nil, flat_snoc]; exact G2.out
        · rw [Htk.out, cutsOf, List.map_append, List.map_append]; exact G3.out
      case measure => simp [intOf]; omega
    · obtain rfl : k = m := by omega
      have ek : R.take k = R := List.take_of_length_le (by rw [Hl.out]; exact Nat.le_refl _)
      rw [ek] at howna hownb hownc
      clear ek
      go_wp2
      refine bodyPost_ret (results_tmp3 rfl _ _ _) rfl ⟨⟨u7, u8, u9, rfl, howna, hownb, hownc, sab.out, sac.out, sbc.out⟩, hb⟩
end Go.Proofs.Ytemjeppneahgeaa
