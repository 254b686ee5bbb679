/- What Make of package frame computes. Conditions: the number fits 32 bits; the slice reads as bytes. -/
import Derived.Test.YtlonmghkdobhdaaFr2
set_option linter.unusedSimpArgs false
set_option linter.unusedVariables false
namespace Go.Proofs.Ytlonmghkdobhdaa
open Go.RowKit

theorem fmake_no (g : Int) (ad : Option Addr) (n c : Nat) (w : World) (h : 54 < n) :
    Calls Try.prog 9 #[.int .u32 g, .slice ad n c] w fun e w' => e = .returned (.tuple #[.agg (av zsec), .bool false]) ∧ Below w.heap.size w w' := by
  have d0 : decide ((54 : Int) < (n : Int)) = true := by simp; omega
  go_enter Try.func9, Try.ntmps9
  go_wp2
  refine bodyPost_ret (results_sec_tmp rfl _ _ (w.heap.size) 0 (av zsec) _ rfl rfl ?_) rfl ⟨rfl, ?_⟩
  · simp [go_sem]
  · exact ba _ (Below.refl _ _)

theorem secOf_pad (l : List UInt8) (h : l.length ≤ 64) : sl (secOf l) = l ++ List.replicate (64 - l.length) 0 := by
  apply List.ext_getElem
  · simp; omega
  · intro i h1 h2
    simp at h1
    by_cases hi : i < l.length
    · rw [List.getElem_append_left hi]
      simp [sl, secOf, List.getD, hi]
    · rw [List.getElem_append_right (by omega)]
      simp [sl, secOf, List.getD, hi]

theorem body_pad (p : List UInt8) (n : Nat) (hn : p.length = n) (h : n ≤ 54) : (sl (secOf (be 2 n ++ p))).take 56 = bodyL p := by
  have hl : (be 2 n ++ p).length = n + 2 := by rw [List.length_append, be_length, hn]; omega
  rw [secOf_pad _ (by omega), hl]
  have e : List.replicate (64 - (n + 2)) (0 : UInt8) = List.replicate (54 - n) 0 ++ List.replicate 8 0 := by
    rw [List.replicate_append_replicate]; congr 1; omega
  rw [e, ← List.append_assoc]
  have hb : be 2 n ++ p ++ List.replicate (54 - n) 0 = bodyL p := by unfold bodyL; rw [hn, List.append_assoc]
  rw [hb]
  exact take_len (bodyL_length p (by omega))

theorem put_bv (l m : List UInt8) (i : Nat) : putAt (bv l) i (bv m) = bv (l.take i ++ m ++ l.drop (i + m.length)) := by
  simp [putAt, bv, List.map_take, List.map_drop]
theorem put_rec (X : Sec) (p : List UInt8) (g T : Nat) (hb : (sl X).take 56 = bodyL p) (hp : p.length ≤ 54) (hT : csum (bodyL p ++ be 4 g) = T) : putAt (putAt (av X) 56 (bv (be 4 T))) 60 (bv (be 4 g)) = av (recS g p) := by
  rw [av_sl, put_bv, put_bv, av_sl, sl_recS g p hp, recL, hT, hb]
  have hl := bodyL_length p hp
  have h64 := sl_length X
  congr 1
  rw [List.take_append_of_le_length (by simp [hl]), List.take_of_length_le (by simp [hl]), List.drop_of_length_le (by simp [hl]), List.append_nil, List.append_assoc]
theorem copy_num (w : World) (b B3 o d : Nat) (hd : 4 ≤ d) (l : List UInt8) {c : Nat} (h : canAt w b o 4 = true) (hl : Bs w (some ⟨B3, 0, none⟩) 4 c l) :
    (Builtin.copy_ #[23, 23] 3 #[.slice (some ⟨b, o, none⟩) d d, .slice (some ⟨B3, 0, none⟩) 4 c]).run Try.prog w = .ok (goInt 4) (setAt w b o (bv l)) := by
  obtain ⟨b', o', e, hr⟩ := hl.2.2.2.2 (by omega)
  cases e
  exact copy_sec w 3 b o d d B3 0 4 c 4 (by simp only [Nat.min_def]; split <;> omega) (bv l) h hr (bv_one _)

set_option maxHeartbeats 3200000 in
theorem fmake_yes (g : Nat) (ad : Option Addr) (n c : Nat) (p : List UInt8) (w : World) (hg : g < 4294967296) (hp : Bs w ad n c p) (h : n ≤ 54) :
    Calls Try.prog 9 #[.int .u32 g, .slice ad n c] w fun e w' => e = .returned (.tuple #[.agg (av (recS g p)), .bool true]) ∧ Below w.heap.size w w' := by
  have d0 : decide ((54 : Int) < (n : Int)) = false := by simp; omega
  have Hp := Lib.hid hp
  have Hlen := Lib.hid hp.1
  have hb0 := ba (.cells (av zsec) 25) (Below.refl w.heap.size w)
  have Hp0 := Lib.hid (hp.below hb0)
  have Hb0 := Lib.hid hb0
  have hc0 : canAt (w.alloc (.cells (av zsec) 25)) w.heap.size 0 64 = true := by simp [go_sem]
  have Hc0 := Lib.hid hc0
  clear hp hb0 hc0
  go_enter Try.func9, Try.ntmps9
  go_wp2_with fail
  generalize w.alloc (.cells (av zsec) 25) = w0 at *
  refine (fnumber_any 2 n _ (by omega) (by omega) (by omega) (by omega)).mono ?_
  rintro _ w1 ⟨⟨B1, hB1, rfl, hbe⟩, hb1⟩
  have hx := bt hb1 (ba (.cells #[.slice (some ⟨B1, 0, none⟩) 2 2, .slice ad n c] 23) (Below.refl w1.heap.size w1))
  have hy := ba (.cells #[.slice (some ⟨B1, 0, none⟩) 2 2, .slice ad n c] 23) (Below.refl w1.heap.size w1)
  have HP := Lib.hid (Ps.two (w := w1.alloc (.cells #[.slice (some ⟨B1, 0, none⟩) 2 2, .slice ad n c] 23)) (B := w1.heap.size) (by simp [go_sem]) (hbe.below hy) (Hp0.out.below hx))
  have Hb1 := Lib.hid (Hb0.out.trans (hx.mono Hb0.out.size))
  have hlt0 := canAt_lt Hc0.out
  have Hc1 : Hid (canAt (w1.alloc (.cells #[.slice (some ⟨B1, 0, none⟩) 2 2, .slice ad n c] 23)) w.heap.size 0 64 = true) := by show _ = _; rw [canAt_below hx hlt0]; exact Hc0.out
  clear hx hy hbe hb1 Hb0 Hc0 Hp0
  go_wp2_with fail
  refine (join_any _ 2 2 _ _ HP.out (by simp [Hlen.out]; omega)).mono ?_
  rintro _ w2 ⟨⟨v, rfl, hne, hown⟩, hb2⟩
  obtain ⟨ja, jc, rfl, hjb⟩ := hown.bs
  have hjl : ([be 2 n, p] : List (List UInt8)).flatten.length = n + 2 := by simp [Hlen.out]; omega
  have hjf : ([be 2 n, p] : List (List UInt8)).flatten = be 2 n ++ p := by simp
  rw [hjl] at hjb ⊢
  rw [hjf] at hjb
  have Hjb := Lib.hid hjb
  have Hb2 := Lib.hid (Hb1.out.trans (hb2.mono Hb1.out.size))
  have Hc2 : Hid (canAt w2 w.heap.size 0 64 = true) := by show _ = _; rw [canAt_below hb2 (canAt_lt Hc1.out)]; exact Hc1.out
  clear hown hne hjb hjl hjf hb2 Hb1 Hc1 HP
  go_wp2_with fail
  refine (make_yes ja (n + 2) jc _ _ Hjb.out.old (by omega)).mono ?_
  rintro _ w3 ⟨rfl, hb3⟩
  have hbody := body_pad p n Hlen.out (by omega)
  have Hbody := Lib.hid hbody
  generalize secOf (be 2 n ++ p) = X at *
  have Hb3 := Lib.hid (ba (.cells (av X) 25) (Hb2.out.trans (hb3.mono Hb2.out.size)))
  have hc3 : canAt w3 w.heap.size 0 64 = true := by rw [canAt_below hb3 (canAt_lt Hc2.out)]; exact Hc2.out
  have Hc3 : Hid (canAt (w3.alloc (.cells (av X) 25)) w.heap.size 0 64 = true) := by
    show _ = _
    rw [canAt_below (ba (.cells (av X) 25) (Below.refl w3.heap.size w3)) (canAt_lt hc3)]; exact hc3
  have Hr4 : Hid (readAt (w3.alloc (.cells (av X) 25)) w3.heap.size 0 64 = some (av X)) := by show _ = _; simp [go_sem]
  have Hk4 : Hid (canAt (w3.alloc (.cells (av X) 25)) w3.heap.size 0 64 = true) := by show _ = _; simp [go_sem]
  have hwS : w.heap.size < w3.heap.size := canAt_lt hc3
  clear hbody hb3 Hb2 Hc2 hc3 Hjb
  go_wp2_with fail
  generalize w3.alloc (.cells (av X) 25) = w4 at *
  refine (fnumber_any 4 g _ (by omega) (by omega) (by omega) (by omega)).mono ?_
  rintro _ w5 ⟨⟨B2, hB2, rfl, hbe⟩, hb5⟩
  have Hb5 := Lib.hid (Hb3.out.trans (hb5.mono Hb3.out.size))
  have Hc5 : Hid (canAt w5 w.heap.size 0 64 = true) := by show _ = _; rw [canAt_below hb5 (canAt_lt Hc3.out)]; exact Hc3.out
  have Hr5 : Hid (readAt w5 w3.heap.size 0 64 = some (av X)) := by show _ = _; rw [readAt_below hb5 (readAt_lt Hr4.out)]; exact Hr4.out
  have Hk5 : Hid (canAt w5 w3.heap.size 0 64 = true) := by show _ = _; rw [canAt_below hb5 (canAt_lt Hk4.out)]; exact Hk4.out
  have hS4 := readAt_lt Hr4.out
  have Hbe := Lib.hid hbe
  clear Hb3 Hc3 Hr4 Hk4 hb5 hbe
  have hy := (ba (.cells #[.slice (some ⟨w3.heap.size, 0, none⟩) 56 64, .slice (some ⟨B2, 0, none⟩) 4 4] 23) (Below.refl w5.heap.size w5)).drew
  have hA := (sec_bs Hr5.out 0 56 64 (by omega) (by omega) (by omega)).below hy
  rw [List.drop_zero, Nat.add_zero, Hbody.out] at hA
  have HP := Lib.hid (Ps.two (w := (w5.alloc (.cells #[.slice (some ⟨w3.heap.size, 0, none⟩) 56 64, .slice (some ⟨B2, 0, none⟩) 4 4] 23)).drew) (B := w5.heap.size) (by simp [go_sem]) hA (Hbe.out.below hy))
  have Hy := Lib.hid hy
  have hfl : ([bodyL p, be 4 g] : List (List UInt8)).flatten = bodyL p ++ be 4 g := by simp
  have Hfl := Lib.hid hfl
  have hS5 := readAt_lt Hr5.out
  obtain ⟨T, hT⟩ : ∃ T, csum (bodyL p ++ be 4 g) = T := ⟨_, rfl⟩
  have hTlt : T < 4294967296 := by rw [← hT]; exact csum_lt _
  have HT := Lib.hid hT
  have hwr : IntKind.u64.wrap (T : Int) = (T : Int) := by rw [IntKind.wrap_u64]; omega
  clear hy hA hfl hT
  go_wp2_with fail
  go_region_with (first
    | (go_at_call 27; refine (sum_any _ 2 2 _ _ HP.out).mono ?_; rw [Hfl.out, HT.out]; rintro _ w6 ⟨rfl, hb6⟩; have Hb6 := Lib.hid (bt Hy.out hb6); clear hb6)
    | (go_at_call 26; refine (fnumber_any 4 T _ (by omega) (by omega) (by omega) (by omega)).mono ?_; rintro _ w7 ⟨⟨B3, hB3, rfl, hbe3⟩, hb7⟩; have Hb7 := Lib.hid (bt Hb6.out hb7); have Hbe3 := Lib.hid hbe3; clear hbe3 hb7; have hcp := copy_num w7 w3.heap.size B3 56 8 (by omega) (be 4 T) (by rw [canAt_below Hb7.out hS5]; exact canAt_sub Hk5.out 56 4 (by omega)) Hbe3.out))
  have hle7 := Hb7.out.size
  have hk7 : canAt w7 w3.heap.size 0 64 = true := by rw [canAt_below Hb7.out hS5]; exact Hk5.out
  have hr7 : readAt w7 w3.heap.size 0 64 = some (av X) := by rw [readAt_below Hb7.out hS5]; exact Hr5.out
  have hc7 : canAt w7 w.heap.size 0 64 = true := by rw [canAt_below Hb7.out (by omega)]; exact Hc5.out
  have hg7 := Hbe.out.below Hb7.out
  have hk7' := canAt_sub hk7 56 4 (by omega)
  have Hr8 : Hid (readAt (setAt w7 w3.heap.size 56 (bv (be 4 T))) w3.heap.size 0 64 = some (putAt (av X) 56 (bv (be 4 T)))) := by
    show _ = _; rw [readAt_setAt_over _ _ 0 64 _ hr7 hk7 56 _ (by omega) (by simp)]
  have Hk8 : Hid (canAt (setAt w7 w3.heap.size 56 (bv (be 4 T))) w3.heap.size 0 64 = true) := by
    show _ = _; rw [canAt_setAt _ _ _ _ _ _ _ (by simpa using hk7')]; exact hk7
  have Hc8 : Hid (canAt (setAt w7 w3.heap.size 56 (bv (be 4 T))) w.heap.size 0 64 = true) := by
    show _ = _; rw [canAt_setAt_other _ _ _ _ _ _ _ (by omega)]; exact hc7
  have Hg8 : Hid (Bs (setAt w7 w3.heap.size 56 (bv (be 4 T))) (some ⟨B2, 0, none⟩) 4 4 (be 4 g)) := (OnlyB.setAt w7 w3.heap.size 56 (bv (be 4 T))).bs (by omega) hg7
  have Hb8 : Hid (Below w.heap.size w (setAt w7 w3.heap.size 56 (bv (be 4 T)))) := setAt_below (Hb5.out.trans (Hb7.out.mono Hb5.out.size)) (by omega) _ _
  clear hcp hk7 hr7 hc7 hg7 hk7' Hbe3 Hb7 Hb6 HP Hy Hfl Hbe Hk5 Hr5 Hc5 Hb5 hwr
  generalize setAt w7 w3.heap.size 56 (bv (be 4 T)) = w8 at *
  have hk8' := canAt_sub Hk8.out 60 4 (by omega)
  have hcp2 := copy_num w8 w3.heap.size B2 60 4 (by omega) (be 4 g) hk8' Hg8.out
  have hput := put_rec X p g T Hbody.out (by rw [Hlen.out]; exact h) HT.out
  have Hr9 : readAt (setAt w8 w3.heap.size 60 (bv (be 4 g))) w3.heap.size 0 64 = some (av (recS g p)) := by
    rw [readAt_setAt_over _ _ 0 64 _ Hr8.out Hk8.out 60 _ (by omega) (by simp), Nat.sub_zero, hput]
  have Hc9 : canAt (setAt w8 w3.heap.size 60 (bv (be 4 g))) w.heap.size 0 64 = true := by
    rw [canAt_setAt_other _ _ _ _ _ _ _ (by omega)]; exact Hc8.out
  have Hb9 : Hid (Below w.heap.size w (setAt w8 w3.heap.size 60 (bv (be 4 g)))) := setAt_below Hb8.out (by omega) _ _
  clear hput Hr8 Hk8 Hc8 Hb8 Hg8 hk8'
  have hc9' := Lib.hid Hc9
  go_wp2
  refine bodyPost_ret (results_sec_tmp rfl _ _ (w.heap.size) 0 (av (recS g p)) _ rfl rfl ?_) rfl ⟨rfl, setAt_below Hb9.out (Nat.le_refl _) _ _⟩
  exact readAt_setAt_same _ _ _ _ _ (by simp) hc9'.out
end Go.Proofs.Ytlonmghkdobhdaa
