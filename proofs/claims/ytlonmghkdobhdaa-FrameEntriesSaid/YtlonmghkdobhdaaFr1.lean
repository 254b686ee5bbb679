/- What number, Tag of package frame, Take, Done of package wire and Tag, sum of the reference compute. Conditions: the numbers fit; the slices read as bytes. -/
import Derived.Test.YtlonmghkdobhdaaFrP
import Derived.Test.YtlonmghkdobhdaaSecE
import Derived.Laws.OwnMore
set_option linter.unusedSimpArgs false
set_option linter.unusedVariables false
namespace Go.Proofs.Ytlonmghkdobhdaa
open Go.RowKit

theorem fnumber_any (k x : Nat) (w : World) (hk1 : 1 ≤ k) (hk8 : k ≤ 8) (hx : x < 256 ^ k) (hx64 : x < 18446744073709551616) :
    Calls Try.prog 26 #[.int .i64 k, .int .u64 x] w fun e w' => (∃ B, w.heap.size ≤ B ∧ e = .returned (.slice (some ⟨B, 0, none⟩) k k) ∧ Bs w' (some ⟨B, 0, none⟩) k k (be k x)) ∧ Below w.heap.size w w' := by
  go_enter Try.func26, Try.ntmps26
  go_wp2_with fail
  refine (wnumber_any k x _ hk1 hk8 hx hx64).mono ?_
  rintro _ w1 ⟨⟨B, hB, rfl, hb⟩, hb1⟩
  have Hb := Lib.hid hb
  clear hb
  go_wp2
  go_ret
  exact ⟨⟨B, hB, rfl, Hb.out⟩, hb1⟩

theorem take_ok (B : Nat) (l : List UInt8) (n : Nat) (w : World) (h : Rdr w B l) (hn : n ≤ l.length) (hs : n ≤ 1073741824) :
    Calls Try.prog 30 #[.pointer (some ⟨B, 0, none⟩), .int .i64 n] w fun e w' => (∃ v, e = .returned v ∧ NotNil v ∧ ByOwn w' w.heap.size v (l.take n)) ∧ Rdr w' B (l.drop n) ∧ ∃ w1, OnlyB B w w1 ∧ Below w1.heap.size w1 w' := by
  have H := Lib.hid h
  clear h
  have d0 : decide ((n : Int) < 0) = false := by simp
  go_enter Try.func30, Try.ntmps30
  go_wp2_with fail
  refine (next_ok B l n _ H.out hn).mono ?_
  rintro _ w1 ⟨g, o, hg, rfl, hbs, hrd, ho⟩
  have Hbs := Lib.hid hbs
  have Hrd := Lib.hid hrd
  have Ho := Lib.hid ho
  clear hbs hrd ho
  go_wp2_with fail
  refine (clone_any _ n n _ _ Hbs.out (by omega)).mono ?_
  rintro _ w2 ⟨⟨v, rfl, hne, hown⟩, hb2⟩
  have hfin : Hid (ByOwn w2 w.heap.size v (l.take n) ∧ NotNil v ∧ Rdr w2 B (l.drop n) ∧ Below w1.heap.size w1 w2) := ⟨ownsRow_base hown (by rw [Ho.out.size]; exact Nat.le_refl _), hne, Hrd.out.below hb2, hb2⟩
  clear hne hown hb2
  go_wp2
  go_ret
  exact ⟨⟨_, rfl, hfin.out.2.1, hfin.out.1⟩, hfin.out.2.2.1, w1, Ho.out, hfin.out.2.2.2⟩
theorem take_no (B : Nat) (n : Nat) (w : World) (h : RdrBad w B ∨ ∃ l, Rdr w B l ∧ l.length < n) (hs : n ≤ 1073741824) :
    Calls Try.prog 30 #[.pointer (some ⟨B, 0, none⟩), .int .i64 n] w fun e w' => e = .returned (.slice none 0 0) ∧ RdrBad w' B ∧ OnlyB B w w' := by
  have d0 : decide ((n : Int) < 0) = false := by simp
  have hnx : Calls Try.prog 41 #[.pointer (some ⟨B, 0, none⟩), .int .u64 n] w (NextNo B w) := by
    rcases h with h | ⟨l, h, hl⟩
    · exact next_bad B n w h
    · exact next_no B l n w h (by omega)
  have Hnx := Lib.hid hnx
  clear h hnx
  go_enter Try.func30, Try.ntmps30
  go_wp2_with fail
  refine Hnx.out.mono ?_
  rintro _ w1 ⟨rfl, hb, ho⟩
  go_wp2
  go_ret
  exact ⟨rfl, hb, ho⟩

/-- A sector in a block, cut. -/
theorem sec_bs {w : World} {b o : Nat} {x : Sec} (h : readAt w b o 64 = some (av x)) (i k c : Nat) (hi : i + k ≤ 64) (hc : k ≤ c) (hcm : c ≤ 64) : Bs w (some ⟨b, o + i, none⟩) k c (((sl x).drop i).take k) := by
  refine ⟨by simp; omega, hc, by omega, fun h => (by cases h), fun h0 => ⟨b, o + i, rfl, ?_⟩⟩
  rw [readAt_sub h (o + i) k (by omega) (by omega), show o + i - o = i by omega, av_sl, bv_extract]

theorem ftag_any (x : Sec) (w : World) :
    Calls Try.prog 19 #[.agg (av x)] w fun e w' => e = .returned (.int .u32 (tagOf x : Nat)) ∧ Below w.heap.size w w' := by
  have hr : readAt (w.alloc (.cells (av x) 25)) w.heap.size 0 64 = some (av x) := by simp [go_sem]
  have hb := sec_bs hr 60 4 4 (by omega) (by omega) (by omega)
  have hB := ba (.cells (av x) 25) (Below.refl w.heap.size w)
  have ht : ((sl x).drop 60).take 4 = (sl x).drop 60 := List.take_of_length_le (by simp)
  rw [ht] at hb
  have hnb : nb ((sl x).drop 60) < 4294967296 := by
    have := nb_lt ((sl x).drop 60)
    simp only [List.length_drop, sl_length] at this
    exact this
  have Hb := Lib.hid hb
  have HB := Lib.hid hB
  have htag : tagOf x = nb ((sl x).drop 60) := rfl
  rw [htag]
  have hl4 : ((sl x).drop 60).length = 4 := by simp
  have Hl4 := Lib.hid hl4
  clear hr hb hB ht htag hl4
  generalize (sl x).drop 60 = l at *
  have htk : l.take 4 = l := List.take_of_length_le (by rw [Hl4.out]; exact Nat.le_refl _)
  have Htk := Lib.hid htk
  clear htk
  obtain ⟨t, ht⟩ : ∃ t, nb l = t := ⟨_, rfl⟩
  rw [ht] at hnb ⊢
  have HT := Lib.hid ht
  clear ht
  go_enter Try.func19, Try.ntmps19
  go_wp2_with fail
  refine (new_any _ 4 4 l _ Hb.out (by omega)).mono ?_
  rintro _ w1 ⟨⟨B, hBB, rfl, hrd⟩, hb1⟩
  have Hrd := Lib.hid hrd
  have Hb1 := Lib.hid (bt HB.out hb1)
  have hBge := Nat.le_trans HB.out.size hBB
  clear hrd hb1 HB hBB
  go_wp2_with fail
  refine (Number_ok B l 4 _ Hrd.out (by omega) (by omega) (by rw [Hl4.out]; exact Nat.le_refl _)).mono ?_
  rw [Htk.out, HT.out]
  rintro _ w2 ⟨rfl, _, ho⟩
  have hfin := Lib.hid (ho.below Hb1.out hBge)
  clear ho Hb1 Hrd
  go_wp2
  go_ret
  exact ⟨rfl, hfin.out⟩

/-! ### the reference -/
theorem bv_get (l : List UInt8) (i : Nat) (hi : i < l.length) : (bv l)[i]? = some (.int .u8 ((l.getD i 0).toNat : Int)) := by
  simp [bv, B8, List.getD, hi]
theorem sl_cell {w : World} {b : Nat} {x : Sec} (h : readAt w b 0 64 = some (av x)) (i : Nat) (hi : i < 64) : w.cell? ⟨b, i, none⟩ = some (.int .u8 (((sl x).getD i 0).toNat : Int)) := by
  have := readAt_cell h i (.int .u8 (((sl x).getD i 0).toNat : Int)) (by rw [av_sl]; exact bv_get _ i (by rw [sl_length]; exact hi))
  rwa [Nat.zero_add] at this
theorem tag_sum (x : Sec) : tagOf x = ((sl x).getD 60 0).toNat * 16777216 + ((sl x).getD 61 0).toNat * 65536 + ((sl x).getD 62 0).toNat * 256 + ((sl x).getD 63 0).toNat := by
  unfold tagOf
  have h := sl_length x
  have e : (sl x).drop 60 = [(sl x).getD 60 0, (sl x).getD 61 0, (sl x).getD 62 0, (sl x).getD 63 0] := by
    apply List.ext_getElem
    · simp
    · intro i h1 h2
      simp at h1 h2
      have : i = 0 ∨ i = 1 ∨ i = 2 ∨ i = 3 := by omega
      rcases this with rfl | rfl | rfl | rfl <;> simp [List.getD, h]
  rw [e]
  simp only [nb, List.foldl_cons, List.foldl_nil]
  omega

theorem rtag_any (x : Sec) (w : World) :
    Calls Try.prog 13 #[.agg (av x)] w fun e w' => e = .returned (.int .u32 (tagOf x : Nat)) ∧ Below w.heap.size w w' := by
  have hr : readAt (w.alloc (.cells (av x) 25)) w.heap.size 0 64 = some (av x) := by simp [go_sem]
  have c0 := sl_cell hr 60 (by omega)
  have c1 := sl_cell hr 61 (by omega)
  have c2 := sl_cell hr 62 (by omega)
  have c3 := sl_cell hr 63 (by omega)
  have hs := tag_sum x
  have b0 := toNat_lt ((sl x).getD 60 0)
  have b1 := toNat_lt ((sl x).getD 61 0)
  have b2 := toNat_lt ((sl x).getD 62 0)
  have b3 := toNat_lt ((sl x).getD 63 0)
  have Hs := Lib.hid hs
  clear hs hr
  generalize ((sl x).getD 60 0).toNat = z0 at *
  generalize ((sl x).getD 61 0).toNat = z1 at *
  generalize ((sl x).getD 62 0).toNat = z2 at *
  generalize ((sl x).getD 63 0).toNat = z3 at *
  have hB := Lib.hid (ba (.cells (av x) 25) (Below.refl w.heap.size w))
  rw [Hs.out]
  go_enter Try.func13, Try.ntmps13
  go_wp2
  go_ret
  exact ⟨ret_int (by omega), hB.out⟩
end Go.Proofs.Ytlonmghkdobhdaa
