/- awake of tolllaw10 answers true. No conditions. -/
import Derived.Test.YtmkiggcghbeacaaCrc5
import Derived.Lib.SlBytesConst
set_option linter.unusedSimpArgs false
set_option linter.unusedVariables false
namespace Go.Proofs.Ytmkiggcghbeacaa
open Go.RowKit

theorem Bs.lit {w : World} {B : Nat} {l : List UInt8} (n : Nat) (hn : l.length = n) (hm : n ≤ 4096) (hr : readAt w B 0 n = some (bv l)) : Bs w (some ⟨B, 0, none⟩) n n l :=
  ⟨hn, Nat.le_refl _, by omega, fun h => (by cases h), fun _ => ⟨B, 0, rfl, hr⟩⟩
theorem take_append4 (l : List UInt8) (S : Nat) : (l ++ be 4 S).take ((l ++ be 4 S).length - 4) = l := by
  rw [List.length_append, be_length, Nat.add_sub_cancel, List.take_left]
theorem okC_append (l : List UInt8) : okC (l ++ be 4 (csum l)) = true := by
  unfold okC
  rw [take_append4, List.length_append, be_length, Nat.add_sub_cancel, List.drop_left, nb_be4 _ (csum_lt l)]
  simp
theorem CheckPost.yes {l : List UInt8} {base : Nat} {e : Ending} {w' : World} (h : CheckPost l base e w') (hk : okC l = true) : Checked l base e w' := by
  unfold CheckPost at h; rwa [if_pos hk] at h
theorem CheckPost.no {l : List UInt8} {base : Nat} {e : Ending} {w' : World} (h : CheckPost l base e w') (hk : okC l = false) : e = .returned (.tuple #[.slice none 0 0, .bool false]) := by
  unfold CheckPost at h; rwa [if_neg (by rw [hk]; simp)] at h
theorem Ps.none (w : World) : Ps w none 0 0 [] := ⟨rfl, Nat.le_refl _, by omega, fun i hi => absurd hi (by omega)⟩

theorem sum_check : csum [49, 50, 51, 52, 53, 54, 55, 56, 57] = 3808858755 := by decide +kernel
theorem sum_nil : csum [] = 0 := by decide +kernel

@[go_sem] theorem run_conv_const (w : World) (C : Array Value) (b n c : Nat) (h : b = w.heap.size) :
    (convert 24 24 (.slice (some ⟨b, 0, none⟩) n c)).run Try.prog (w.alloc (.cells C 5)) = .ok (.slice (some ⟨b, 0, none⟩) n c) (w.alloc (.cells C 5 (C.size, C.size + 1))) := by
  subst h
  exact Lib.run_convert_bytes_const (P := Try.prog) w 24 5 C n c Try.underlying24 Try.underlying5

set_option maxHeartbeats 3200000 in
theorem awake_any (w : World) : Calls Try.prog 7 #[] w fun x w' => x = .returned (.bool true) ∧ Below w.heap.size w w' := by
  go_enter Try.func7, Try.ntmps7
  go_wp2_with fail
  refine (append_any (some ⟨w.heap.size, 0, none⟩) 2 2 [1, 2] _ (Bs.lit 2 rfl (by omega) (by simp [go_sem]; rfl)) (by omega)).mono ?_
  rintro _ w1 ⟨⟨v, rfl, hown⟩, hb1⟩
  have Hb1 := Lib.hid (bt (ba _ (Below.refl w.heap.size w)) hb1)
  have hok := okC_append [1, 2]
  have htk := take_append4 [1, 2] (csum [1, 2])
  have hlen : ([1, 2] ++ be 4 (csum [1, 2])).length = 6 := by simp
  generalize [1, 2] ++ be 4 (csum [1, 2]) = l at *
  obtain ⟨ad, c, rfl, hbs⟩ := hown.bs
  rw [hlen] at hbs ⊢
  have Hbs := Lib.hid hbs
  have Hok := Lib.hid hok
  have Htk := Lib.hid htk
  clear hb1 hok htk hlen hown hbs
  go_wp2_with fail
  refine (check_all ad 6 c l _ Hbs.out (by omega) (by omega)).mono ?_
  rintro _ w2 ⟨hp, hb2⟩
  obtain ⟨v, rfl, hown⟩ := hp.yes Hok.out
  rw [Htk.out] at hown
  obtain ⟨ad, c, rfl, hbs⟩ := hown.bs
  have Hb2 := Lib.hid (bt Hb1.out hb2)
  have Hbs2 := Lib.hid hbs
  clear hp hb2 hown hbs Hok Htk Hbs Hb1
  go_wp2_with fail
  refine (check_short _ 3 3 _ (by omega)).mono ?_
  rintro _ _ ⟨rfl, rfl⟩
  have Hb3 := Lib.hid (ba (.cells #[.int .u8 1, .int .u8 2, .int .u8 3] 5) Hb2.out)
  have Hbs3 := Lib.hid (Hbs2.out.below (ba (.cells #[.int .u8 1, .int .u8 2, .int .u8 3] 5) (Below.refl _ _)))
  clear Hb2 Hbs2
  generalize w2.alloc (.cells #[.int .u8 1, .int .u8 2, .int .u8 3] 5) = w3 at *
  have hx : Below w3.heap.size w3 (((w3.alloc (.cells #[.int .u8 49, .int .u8 50, .int .u8 51, .int .u8 52] 5 (4, 5))).alloc (.cells #[.int .u8 53, .int .u8 54, .int .u8 55, .int .u8 56, .int .u8 57] 5 (5, 6))).alloc (.cells #[.slice (some ⟨w3.heap.size, 0, none⟩) 4 4, .slice (some ⟨w3.heap.size + 1, 0, none⟩) 5 5] 24)) := ba _ (ba _ (ba _ (Below.refl _ _)))
  have HP : Hid (Ps (((w3.alloc (.cells #[.int .u8 49, .int .u8 50, .int .u8 51, .int .u8 52] 5 (4, 5))).alloc (.cells #[.int .u8 53, .int .u8 54, .int .u8 55, .int .u8 56, .int .u8 57] 5 (5, 6))).alloc (.cells #[.slice (some ⟨w3.heap.size, 0, none⟩) 4 4, .slice (some ⟨w3.heap.size + 1, 0, none⟩) 5 5] 24)) (some ⟨w3.heap.size + 1 + 1, 0, none⟩) 2 2 [[49, 50, 51, 52], [53, 54, 55, 56, 57]]) :=
    Ps.two (ad := some ⟨w3.heap.size, 0, none⟩) (bd := some ⟨w3.heap.size + 1, 0, none⟩) (n := 4) (c := 4) (m := 5) (c2 := 5) (by simp [go_sem]) (Bs.lit 4 rfl (by omega) (by simp [go_sem]; rfl)) (Bs.lit 5 rfl (by omega) (by simp [go_sem]; rfl))
  have hfl : ([[49, 50, 51, 52], [53, 54, 55, 56, 57]] : List (List UInt8)).flatten = [49, 50, 51, 52, 53, 54, 55, 56, 57] := rfl
  have Hfl := Lib.hid hfl
  have Hx := Lib.hid hx
  clear hfl hx
  go_wp2_with fail
  refine (sum_any _ 2 2 _ _ HP.out).mono ?_
  rw [Hfl.out, sum_check]
  rintro _ w4 ⟨rfl, hb4⟩
  have Hbs4 := Lib.hid (Hbs3.out.below (bt Hx.out hb4))
  have Hb4 := Lib.hid (bt Hb3.out (bt Hx.out hb4))
  clear hb4 Hx HP Hfl Hbs3 Hb3
  go_wp2_with fail
  refine (sum_any none 0 0 [] _ (Ps.none _)).mono ?_
  rw [show ([] : List (List UInt8)).flatten = [] by rfl, sum_nil]
  rintro _ w5 ⟨rfl, hb5⟩
  have Hbs5 := Lib.hid (Hbs4.out.below (bt hb5 (ba (.cells #[.int .u8 1, .int .u8 2] 5) (Below.refl w5.heap.size w5))))
  have Hb5 := Lib.hid (bt Hb4.out (bt hb5 (ba (.cells #[.int .u8 1, .int .u8 2] 5) (Below.refl w5.heap.size w5))))
  clear hb5 Hbs4 Hb4
  go_wp2_with fail
  refine (same_any _ _ _ _ _ _ _ [1, 2] _ Hbs5.out (Bs.lit 2 rfl (by omega) (by simp [go_sem]; rfl))).mono ?_
  rintro _ w6 ⟨rfl, hb6⟩
  have Hb6 := Lib.hid (bt Hb5.out hb6)
  clear hb6 Hbs5 Hb5
  go_wp2_with fail
  refine (step_any 1 1 _ (by omega) (by unfold Is64; omega)).mono ?_
  rw [show stepN (1 : Int).toNat 1 = 2197175160 by decide]
  rintro _ _ ⟨rfl, rfl⟩
  go_wp2_with fail
  refine (step_any 5 (-1) _ (by omega) (by unfold Is64; omega)).mono ?_
  rw [show stepN (-1 : Int).toNat 5 = 5 by decide]
  rintro _ _ ⟨rfl, rfl⟩
  go_wp2_with fail
  refine (update_any none 0 0 [] 0 _ (by omega) (Bs.nil _)).mono ?_
  rw [show 4294967295 - upd (4294967295 - 0) [] = 0 by decide]
  rintro _ w7 ⟨rfl, hb7⟩
  have hfin := bt Hb6.out hb7
  go_wp2
  go_ret
  exact ⟨rfl, hfin⟩
end Go.Proofs.Ytmkiggcghbeacaa
