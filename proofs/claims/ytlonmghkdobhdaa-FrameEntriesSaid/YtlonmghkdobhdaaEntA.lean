/- The law FrameEntries returns true. Conditions: the numbers fit their kinds. -/
import Derived.Test.YtlonmghkdobhdaaEnt6
import Derived.Test.YtlonmghkdobhdaaEnt7
import Derived.Test.YtlonmghkdobhdaaEnt9
import Derived.Test.YtlonmghkdobhdaaEntL
import Derived.Lib.SlBytesConst
set_option linter.unusedSimpArgs false
set_option linter.unusedVariables false
namespace Go.Proofs.Ytlonmghkdobhdaa
open Go.RowKit

def sE (g : Nat) (d : Dig) (x : Int) : Sec := if okX x = true then recS g (payE d x.toNat) else zsec
theorem fentry_any (g : Nat) (d : Dig) (x : Int) (w : World) (hg : g < 4294967296) :
    Calls Try.prog 20 #[.int .u32 g, .agg (ev d x)] w fun e w' => e = .returned (.tuple #[.agg (av (sE g d x)), .bool (okX x)]) ∧ Below w.heap.size w w' := by
  unfold sE
  by_cases h : okX x = true
  · rw [if_pos h, h]
    have h1 : 0 ≤ x ∧ x ≤ 4611686018427387904 := by unfold okX at h; simpa using h
    obtain ⟨n, rfl⟩ := Int.eq_ofNat_of_zero_le h1.1
    exact fentry_yes g d n w hg (by omega)
  · have h0 : okX x = false := by simpa using h
    rw [if_neg h, h0]
    exact fentry_no g d x w h0

theorem conv_drew (w : World) (C : Array Value) (n c : Nat) : (convert 23 23 (.slice (some ⟨w.heap.size, 0, none⟩) n c)).run Try.prog (w.alloc (.cells C 5)).drew = .ok (.slice (some ⟨w.heap.size, 0, none⟩) n c) (w.alloc (.cells C 5 (C.size, C.size + 1))).drew :=
  Lib.run_convert_bytes_const (P := Try.prog) w.drew 23 5 C n c Try.underlying23 Try.underlying5

set_option maxHeartbeats 6400000 in
theorem law_fentries (g : Nat) (d : Dig) (x : Int) (w : World) (hg : g < 4294967296) :
    Calls Try.prog 7 #[.int .u32 g, .agg (ev d x)] w fun r w' => r = .returned (.bool true) ∧ Below w.heap.size w w' := by
  have Hb0 := Lib.hid (ba (.cells (ev d x) 39) (Below.refl w.heap.size w))
  have Hr0 := Lib.hid (newE0 w d x)
  have Hg := Lib.hid hg
  have HX := Lib.hid (headTag_rec g hg)
  have HK := Lib.hid (okH_rec g)
  obtain ⟨A, hA⟩ : ∃ A, w.heap.size = A := ⟨_, rfl⟩
  rw [hA] at Hr0
  have HA := Lib.hid hA
  clear hg
  go_enter Try.func7, Try.ntmps7
  go_wp2_with fail
  clear hA
  refine (awake_any _).mono ?_
  rintro _ w1 ⟨rfl, hb1⟩
  have hr1 := (readAt_below hb1 (readAt_lt Hr0.out) 0 33).trans Hr0.out
  have Hr1 := Lib.hid hr1
  have Hb1 := Lib.hid (bt Hb0.out hb1)
  clear hb1 Hr0 Hb0
  go_wp2_with fail
  clear hr1
  refine (fentry_any g d x _ Hg.out).mono ?_
  rintro _ w2 ⟨rfl, hb2⟩
  generalize hS : sE g d x = X at *
  have HS := Lib.hid hS
  clear hS
  have hy := bt hb2 (ba (.cells (av X) 25) (Below.refl w2.heap.size w2))
  have Hr2 := Lib.hid ((readAt_below hy (readAt_lt Hr1.out) 0 33).trans Hr1.out)
  have Hb2 := Lib.hid (bt Hb1.out hy)
  have Hs2 := Lib.hid (show readAt (w2.alloc (.cells (av X) 25)) w2.heap.size 0 64 = some (av X) by simp [go_sem])
  clear hb2 hy Hr1 Hb1
  go_wp2_with fail
  generalize w2.alloc (.cells (av X) 25) = w3 at *
  generalize hE1 : w2.heap.size = B at *
  clear hE1
  refine (header_any g _ Hg.out).mono ?_
  rintro _ w4 ⟨rfl, hb4⟩
  obtain ⟨Y, hY⟩ : ∃ Y, recS g toll = Y := ⟨_, rfl⟩
  rw [hY]
  have hy := bt hb4 (ba (.cells (av Y) 25) (Below.refl w4.heap.size w4))
  have Hr4 := Lib.hid ((readAt_below hy (readAt_lt Hr2.out) 0 33).trans Hr2.out)
  have Hs4 := Lib.hid ((readAt_below hy (readAt_lt Hs2.out) 0 64).trans Hs2.out)
  have Hb4 := Lib.hid (bt Hb2.out hy)
  have Hh4 := Lib.hid (show readAt (w4.alloc (.cells (av Y) 25)) w4.heap.size 0 64 = some (av Y) by simp [go_sem])
  have HY := Lib.hid hY
  clear hb4 hy Hr2 Hb2 Hs2 hY
  go_wp2_with fail
  generalize w4.alloc (.cells (av Y) 25) = w5 at *
  generalize hE2 : w4.heap.size = C at *
  clear hE2
  refine (fhead_any Y _).mono ?_
  rw [← HY.out, HX.out, HK.out, HY.out]
  rintro _ w6 ⟨rfl, hb6⟩
  have Hr6 := Lib.hid ((readAt_below hb6 (readAt_lt Hr4.out) 0 33).trans Hr4.out)
  have Hs6 := Lib.hid ((readAt_below hb6 (readAt_lt Hs4.out) 0 64).trans Hs4.out)
  have Hh6 := Lib.hid ((readAt_below hb6 (readAt_lt Hh4.out) 0 64).trans Hh4.out)
  have Hb6 := Lib.hid (bt Hb4.out hb6)
  clear hb6 Hr4 Hs4 Hh4 Hb4 HX HK
  go_wp2_with fail
  have Hx := Lib.hid (show ∀ u, Below w6.heap.size w6 u → readAt u C 0 64 = some (av Y) from fun u h => (readAt_below h (readAt_lt Hh6.out) 0 64).trans Hh6.out)
  refine wp_region_tr (.take 0 (.take 1 (.run 2 (.run 3 (.run 4 (.take 5 (.take 6 (.take 7 (.take 8 (.take 9 (.take 10 (.take 11 (.take 12 (.take 13 (.take 14 .done))))))))))))))) (fun u => Below w6.heap.size w6 u) (by kernel_rfl) (by kernel_rfl) rfl (by kernel_rfl) (Below.refl _ _).drew ?_
  repeat (first | (refine t_off rfl rfl ?_; simp only [List.getElem_toArray, List.getElem_cons_succ, List.getElem_cons_zero, Act.put, Act.eval, List.setIfInBounds_toArray, List.set_cons_zero, List.set_cons_succ, Array.getD_eq_getD_getElem?, List.getElem?_toArray, List.getElem?_cons_succ, List.getElem?_cons_zero, Option.getD_some]) | (refine t_move rfl _ rfl rfl ?_; simp only [List.getElem_toArray, List.getElem_cons_succ, List.getElem_cons_zero, Act.put, Act.eval, List.setIfInBounds_toArray, List.set_cons_zero, List.set_cons_succ, Array.getD_eq_getD_getElem?, List.getElem?_toArray, List.getElem?_cons_succ, List.getElem?_cons_zero, Option.getD_some]) | (refine t_assign rfl _ rfl rfl ?_; simp only [List.getElem_toArray, List.getElem_cons_succ, List.getElem_cons_zero, Act.put, Act.eval, List.setIfInBounds_toArray, List.set_cons_zero, List.set_cons_succ, Array.getD_eq_getD_getElem?, List.getElem?_toArray, List.getElem?_cons_succ, List.getElem?_cons_zero, Option.getD_some]) | (refine t_val rfl rfl ?_; apply Exists.intro; refine ⟨fun w' hC' => ?_, ?_⟩; (have hc' := Hx.out w' hC'; go_simp; exact rfl); simp only [List.getElem_toArray, List.getElem_cons_succ, List.getElem_cons_zero, Act.put, Act.eval, List.setIfInBounds_toArray, List.set_cons_zero, List.set_cons_succ, Array.getD_eq_getD_getElem?, List.getElem?_toArray, List.getElem?_cons_succ, List.getElem?_cons_zero, Option.getD_some]))
  refine r_val rfl rfl ?_; apply Exists.intro; apply Exists.intro; refine ⟨?_, ?_⟩; (go_simp; exact ⟨rfl, rfl⟩)
  have hy := ba (.cells #[.int .u8 84, .int .u8 79, .int .u8 76, .int .u8 76] 5) (Below.refl w6.heap.size w6)
  have hlit := (Bs.lit (l := toll) 4 rfl (by omega) (lit_toll w6 (0, 0))).below (Below.refl _ _).drew
  have Hl := Lib.hid hlit
  have Hy := Lib.hid hy.drew
  clear hy hlit
  refine ⟨_, fun _ h => h, Hy.out, ?_⟩; simp only [List.getElem_toArray, List.getElem_cons_succ, List.getElem_cons_zero, Act.put, Act.eval, List.setIfInBounds_toArray, List.set_cons_zero, List.set_cons_succ, Array.getD_eq_getD_getElem?, List.getElem?_toArray, List.getElem?_cons_succ, List.getElem?_cons_zero, Option.getD_some]
  clear Hl Hy
  have hy := ba (.cells #[.int .u8 84, .int .u8 79, .int .u8 76, .int .u8 76] 5 (4, 5)) (Below.refl w6.heap.size w6)
  have hlit := (Bs.lit (l := toll) 4 rfl (by omega) (lit_toll w6 (4, 5))).below (Below.refl _ _).drew
  have Hl := Lib.hid hlit
  have Hy := Lib.hid hy.drew
  have kc := conv_drew w6 #[.int .u8 84, .int .u8 79, .int .u8 76, .int .u8 76] 4 4
  clear hy hlit
  refine r_val rfl rfl ?_; apply Exists.intro; apply Exists.intro; refine ⟨?_, ?_⟩; (go_simp; exact ⟨rfl, rfl⟩)
  clear kc
  refine ⟨_, fun _ h => h, Hy.out, ?_⟩; simp only [List.getElem_toArray, List.getElem_cons_succ, List.getElem_cons_zero, Act.put, Act.eval, List.setIfInBounds_toArray, List.set_cons_zero, List.set_cons_succ, Array.getD_eq_getD_getElem?, List.getElem?_toArray, List.getElem?_cons_succ, List.getElem?_cons_zero, Option.getD_some]
  refine r_call rfl rfl ?_; apply Exists.intro; apply Exists.intro; refine ⟨?_, ?_⟩; (go_simp; exact ⟨rfl, rfl⟩)
  refine (rmake_any g _ 4 4 toll _ Hg.out Hl.out (by omega)).mono ?_
  rw [HY.out]
  rintro _ w7 ⟨rfl, hb7⟩
  have Hb7 := Lib.hid (bt Hy.out hb7)
  clear hb7 Hl Hy
  refine ⟨_, rfl, _, fun _ h => h, Hb7.out, ?_⟩; simp only [List.getElem_toArray, List.getElem_cons_succ, List.getElem_cons_zero, Act.put, Act.eval, List.setIfInBounds_toArray, List.set_cons_zero, List.set_cons_succ, Array.getD_eq_getD_getElem?, List.getElem?_toArray, List.getElem?_cons_succ, List.getElem?_cons_zero, Option.getD_some]
  repeat (first | (refine t_off rfl rfl ?_; simp only [List.getElem_toArray, List.getElem_cons_succ, List.getElem_cons_zero, Act.put, Act.eval, List.setIfInBounds_toArray, List.set_cons_zero, List.set_cons_succ, Array.getD_eq_getD_getElem?, List.getElem?_toArray, List.getElem?_cons_succ, List.getElem?_cons_zero, Option.getD_some]) | (refine t_move rfl _ rfl rfl ?_; simp only [List.getElem_toArray, List.getElem_cons_succ, List.getElem_cons_zero, Act.put, Act.eval, List.setIfInBounds_toArray, List.set_cons_zero, List.set_cons_succ, Array.getD_eq_getD_getElem?, List.getElem?_toArray, List.getElem?_cons_succ, List.getElem?_cons_zero, Option.getD_some]) | (refine t_assign rfl _ rfl rfl ?_; simp only [List.getElem_toArray, List.getElem_cons_succ, List.getElem_cons_zero, Act.put, Act.eval, List.setIfInBounds_toArray, List.set_cons_zero, List.set_cons_succ, Array.getD_eq_getD_getElem?, List.getElem?_toArray, List.getElem?_cons_succ, List.getElem?_cons_zero, Option.getD_some]) | (refine t_val rfl rfl ?_; apply Exists.intro; refine ⟨fun w' hC' => ?_, ?_⟩; (skip; go_simp; exact rfl); simp only [List.getElem_toArray, List.getElem_cons_succ, List.getElem_cons_zero, Act.put, Act.eval, List.setIfInBounds_toArray, List.set_cons_zero, List.set_cons_succ, Array.getD_eq_getD_getElem?, List.getElem?_toArray, List.getElem?_cons_succ, List.getElem?_cons_zero, Option.getD_some]))
  refine t_done ?_
  have Hr7 := Lib.hid ((readAt_below Hb7.out (readAt_lt Hr6.out) 0 33).trans Hr6.out)
  have Hs7 := Lib.hid ((readAt_below Hb7.out (readAt_lt Hs6.out) 0 64).trans Hs6.out)
  have HB7 := Lib.hid (bt Hb6.out Hb7.out)
  have hr7 := Hr7.out
  clear Hx Hr6 Hs6 Hh6 Hb6 Hb7
  go_wp2_with fail
  clear hr7
  refine (right_any d x _).mono ?_
  rintro _ w8 ⟨rfl, hb8⟩
  have Hr8 := Lib.hid ((readAt_below hb8 (readAt_lt Hr7.out) 0 33).trans Hr7.out)
  have Hs8 := Lib.hid ((readAt_below hb8 (readAt_lt Hs7.out) 0 64).trans Hs7.out)
  have HB8 := Lib.hid (bt HB7.out hb8)
  clear hb8 Hr7 Hs7 HB7
  by_cases hok : okX x = true
  · rw [hok]
    have h1 : 0 ≤ x ∧ x ≤ 4611686018427387904 := by unfold okX at hok; simpa using hok
    obtain ⟨n, rfl⟩ := Int.eq_ofNat_of_zero_le h1.1
    have hn : n ≤ 4611686018427387904 := by omega
    have hXr : recS g (payE d n) = X := by rw [← HS.out]; unfold sE; rw [if_pos hok]; rfl
    have eok : okE X = true := by rw [← hXr]; exact ent_ok g d n hn
    have etg : eT X = g := by unfold eT; rw [if_pos eok, ← hXr]; exact ent_tag g d n Hg.out
    have etd : eD X = d := by unfold eD; rw [if_pos eok, ← hXr]; exact ent_ent g d n
    have etx : eX X = (n : Int) := by unfold eX; rw [if_pos eok, ← hXr, ent_exp g d n hn]
    have HE : Hid (∀ e, PEnt X e → e = .returned (.tuple #[.int .u32 (g : Nat), .agg (ev d (n : Int)), .bool true])) := fun e h => by have := h.gen; rw [etg, etd, etx, eok] at this; exact this
    have HXr := Lib.hid hXr
    have Hn := Lib.hid hn
    have hs8 := Hs8.out
    clear h1 hXr eok etg etd etx HS hok hn
    go_wp2_with fail
    clear hs8
    refine (fpentry_any X _).mono ?_
    rintro _ w9 ⟨hpe, hb9⟩
    obtain rfl := HE.out _ hpe
    have hy := bt hb9 (ba (.cells (ev d (n : Int)) 39) (Below.refl w9.heap.size w9))
    have Hr9 := Lib.hid ((readAt_below hy (readAt_lt Hr8.out) 0 33).trans Hr8.out)
    have Hs9 := Lib.hid ((readAt_below hy (readAt_lt Hs8.out) 0 64).trans Hs8.out)
    have He9 := Lib.hid (newE w9 d (n : Int))
    have HB9 := Lib.hid (bt HB8.out hy)
    have hlt9 : A < w9.heap.size := by have h1 := readAt_lt Hr8.out; have h2 := hb9.size; omega
    clear hb9 hy hpe Hr8 Hs8 HB8 HE
    go_wp2_with fail
    clear hlt9
    generalize w9.alloc (.cells (ev d (n : Int)) 39) = w10 at *
    generalize hE3 : w9.heap.size = E at *
    clear hE3
    have Hxs := Lib.hid (show ∀ u, Below w10.heap.size w10 u → readAt u B 0 64 = some (av X) from fun u h => (readAt_below h (readAt_lt Hs9.out) 0 64).trans Hs9.out)
    have Hxr := Lib.hid (show ∀ u, Below w10.heap.size w10 u → readAt u A 0 33 = some (ev d (n : Int)) from fun u h => (readAt_below h (readAt_lt Hr9.out) 0 33).trans Hr9.out)
    have Hxe := Lib.hid (show ∀ u, Below w10.heap.size w10 u → readAt u E 0 33 = some (ev d (n : Int)) from fun u h => (readAt_below h (readAt_lt He9.out) 0 33).trans He9.out)
    refine wp_region_tr (.take 0 (.take 1 (.take 2 (.take 3 (.take 4 (.run 5 (.run 6 (.take 7 (.take 8 (.take 9 (.take 10 (.take 11 (.take 12 (.take 13 (.take 14 (.take 15 (.take 16 (.take 17 (.take 18 (.take 19 (.take 20 (.take 21 (.take 22 .done))))))))))))))))))))))) (fun u => Below w10.heap.size w10 u) (by kernel_rfl) (by kernel_rfl) rfl (by kernel_rfl) (Below.refl _ _).drew ?_
    repeat (first | (refine t_off rfl rfl ?_; simp only [List.getElem_toArray, List.getElem_cons_succ, List.getElem_cons_zero, Act.put, Act.eval, List.setIfInBounds_toArray, List.set_cons_zero, List.set_cons_succ, Array.getD_eq_getD_getElem?, List.getElem?_toArray, List.getElem?_cons_succ, List.getElem?_cons_zero, Option.getD_some]) | (refine t_move rfl _ rfl rfl ?_; simp only [List.getElem_toArray, List.getElem_cons_succ, List.getElem_cons_zero, Act.put, Act.eval, List.setIfInBounds_toArray, List.set_cons_zero, List.set_cons_succ, Array.getD_eq_getD_getElem?, List.getElem?_toArray, List.getElem?_cons_succ, List.getElem?_cons_zero, Option.getD_some]) | (refine t_assign rfl _ rfl rfl ?_; simp only [List.getElem_toArray, List.getElem_cons_succ, List.getElem_cons_zero, Act.put, Act.eval, List.setIfInBounds_toArray, List.set_cons_zero, List.set_cons_succ, Array.getD_eq_getD_getElem?, List.getElem?_toArray, List.getElem?_cons_succ, List.getElem?_cons_zero, Option.getD_some]) | (refine t_val rfl rfl ?_; apply Exists.intro; refine ⟨fun w' hC' => ?_, ?_⟩; (have hc1 := Hxs.out w' hC'; have hc2 := Hxr.out w' hC'; have hc3 := Hxe.out w' hC'; go_simp; exact rfl); simp only [List.getElem_toArray, List.getElem_cons_succ, List.getElem_cons_zero, Act.put, Act.eval, List.setIfInBounds_toArray, List.set_cons_zero, List.set_cons_succ, Array.getD_eq_getD_getElem?, List.getElem?_toArray, List.getElem?_cons_succ, List.getElem?_cons_zero, Option.getD_some]))
    refine r_call rfl rfl ?_; apply Exists.intro; apply Exists.intro; refine ⟨?_, ?_⟩; (go_simp; exact ⟨rfl, rfl⟩)
    refine (payload_any d n _ Hn.out).mono ?_
    rintro _ w11 ⟨⟨pa, pc, rfl, hp⟩, hb11⟩
    have Hp := Lib.hid hp
    have Hb11 := Lib.hid (bt (Below.refl w10.heap.size w10).drew hb11)
    clear hp hb11
    refine ⟨_, rfl, _, fun _ h => h, Hb11.out, ?_⟩; simp only [List.getElem_toArray, List.getElem_cons_succ, List.getElem_cons_zero, Act.put, Act.eval, List.setIfInBounds_toArray, List.set_cons_zero, List.set_cons_succ, Array.getD_eq_getD_getElem?, List.getElem?_toArray, List.getElem?_cons_succ, List.getElem?_cons_zero, Option.getD_some]
    refine r_call rfl rfl ?_; apply Exists.intro; apply Exists.intro; refine ⟨?_, ?_⟩; (go_simp; exact ⟨rfl, rfl⟩)
    refine (rmake_any g _ 40 _ (payE d n) _ Hg.out Hp.out (by omega)).mono ?_
    rw [HXr.out]
    rintro _ w12 ⟨rfl, hb12⟩
    have Hb12 := Lib.hid (bt Hb11.out hb12)
    clear hb12 Hp Hb11
    refine ⟨_, rfl, _, fun _ h => h, Hb12.out, ?_⟩; simp only [List.getElem_toArray, List.getElem_cons_succ, List.getElem_cons_zero, Act.put, Act.eval, List.setIfInBounds_toArray, List.set_cons_zero, List.set_cons_succ, Array.getD_eq_getD_getElem?, List.getElem?_toArray, List.getElem?_cons_succ, List.getElem?_cons_zero, Option.getD_some]
    repeat (first | (refine t_off rfl rfl ?_; simp only [List.getElem_toArray, List.getElem_cons_succ, List.getElem_cons_zero, Act.put, Act.eval, List.setIfInBounds_toArray, List.set_cons_zero, List.set_cons_succ, Array.getD_eq_getD_getElem?, List.getElem?_toArray, List.getElem?_cons_succ, List.getElem?_cons_zero, Option.getD_some]) | (refine t_move rfl _ rfl rfl ?_; simp only [List.getElem_toArray, List.getElem_cons_succ, List.getElem_cons_zero, Act.put, Act.eval, List.setIfInBounds_toArray, List.set_cons_zero, List.set_cons_succ, Array.getD_eq_getD_getElem?, List.getElem?_toArray, List.getElem?_cons_succ, List.getElem?_cons_zero, Option.getD_some]) | (refine t_assign rfl _ rfl rfl ?_; simp only [List.getElem_toArray, List.getElem_cons_succ, List.getElem_cons_zero, Act.put, Act.eval, List.setIfInBounds_toArray, List.set_cons_zero, List.set_cons_succ, Array.getD_eq_getD_getElem?, List.getElem?_toArray, List.getElem?_cons_succ, List.getElem?_cons_zero, Option.getD_some]) | (refine t_val rfl rfl ?_; apply Exists.intro; refine ⟨fun w' hC' => ?_, ?_⟩; (have hc1 := Hxs.out w' hC'; have hc2 := Hxr.out w' hC'; have hc3 := Hxe.out w' hC'; go_simp; exact rfl); simp only [List.getElem_toArray, List.getElem_cons_succ, List.getElem_cons_zero, Act.put, Act.eval, List.setIfInBounds_toArray, List.set_cons_zero, List.set_cons_succ, Array.getD_eq_getD_getElem?, List.getElem?_toArray, List.getElem?_cons_succ, List.getElem?_cons_zero, Option.getD_some]))
    refine t_done ?_
    have hfin := Lib.hid (bt HB9.out Hb12.out)
    clear Hb12 HB9 Hxs Hxr Hxe Hr9 Hs9 He9 HXr Hn
    go_wp2
    go_ret
    exact ⟨rfl, hfin.out⟩
  · have hno : okX x = false := by simpa using hok
    have hXz : zsec = X := by rw [← HS.out]; unfold sE; rw [if_neg hok]
    subst hXz
    rw [hno]
    clear hok HS
    have hs8 := Hs8.out
    go_wp2
    go_ret
    exact ⟨rfl, HB8.out⟩
theorem law_fentriesI (a : Int) (d : Dig) (x : Int) (w : World) (h : 0 ≤ a ∧ a ≤ 4294967295) :
    Calls Try.prog 7 #[.int .u32 a, .agg (ev d x)] w fun r w' => r = .returned (.bool true) ∧ Below w.heap.size w w' := by
  obtain ⟨g, rfl⟩ := Int.eq_ofNat_of_zero_le h.1
  exact law_fentries g d x w (by omega)
end Go.Proofs.Ytlonmghkdobhdaa
