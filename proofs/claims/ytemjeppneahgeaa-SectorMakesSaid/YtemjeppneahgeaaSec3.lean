/- Comparing and building sectors; the check awake of tolllaw15 returns true; the law SectorMatchesReference returns true. Conditions: integer arguments fit their kinds. -/
import Derived.Test.YtemjeppneahgeaaSec2
import Derived.Test.YtemjeppneahgeaaQuiet
set_option linter.unusedSimpArgs false
set_option linter.unusedVariables false
namespace Go.Proofs.Ytemjeppneahgeaa
open Go.RowKit

theorem cells_u8 : Try.prog.cellsOf 5 = 1 := by kernel_rfl
theorem plain_u8 : Try.prog.plainKey 5 = true := by kernel_rfl
theorem run_eqItems_av {n : Nat} (w : World) (d : Nat) (x y : Vector UInt8 n) : ∀ is : List Nat, (∀ i ∈ is, i < n) →
    (Op.eqItems (d + 1) 5 (Try.prog.cellsOf 5) (av x) (av y) is).run Try.prog w = .ok (is.all fun i => x[i]? == y[i]?) w
  | [], _ => by simp [Op.eqItems]
  | i :: is, h => by
    have hi := h i (by simp)
    have ih := run_eqItems_av w d x y is (fun j hj => h j (by simp [hj]))
    have h1 := run_part_plain w plain_u8 (av_get x i hi)
    have h2 := run_part_plain w plain_u8 (av_get y i hi)
    have h3 := run_equalIn_int (P := Try.prog) w d 5 .u8 .u8 (x[i].toNat : Int) (y[i].toNat : Int) Try.underlying5
    simp only [Op.eqItems, Sem.run_bind, cells_u8, Nat.mul_one, h1, h2, h3, Result.andThen_ok]
    have e : ((x[i].toNat : Int) == (y[i].toNat : Int)) = (x[i]? == y[i]?) := by
      rw [Bool.eq_iff_iff]
      simp [hi]
      constructor
      · intro h; exact UInt8.toNat_inj.1 (by omega)
      · intro h; rw [h]
    rw [e]
    simp only [List.all_cons]
    rw [cells_u8] at ih
    cases hq : (x[i]? == y[i]?) <;> simp [ih]
theorem all_range_eq {n : Nat} (x y : Vector UInt8 n) : ((List.range n).all fun i => x[i]? == y[i]?) = (x == y) := by
  rw [Bool.eq_iff_iff, List.all_eq_true]
  simp only [List.mem_range, beq_iff_eq]
  constructor
  · intro h; apply Vector.ext; intro i hi
    have := h i hi; simpa [hi] using this
  · intro h; subst h; simp
@[go_sem ↓ high] theorem run_equalIn_sec (w : World) (x y : Sec) : (Op.equalIn 10000 22 (.agg (av x)) (.agg (av y))).run Try.prog w = .ok (x == y) w := by
  cases hq : Try.prog.info? 5 with
  | none => have := info_u8; simp [hq] at this
  | some i =>
    rw [run_equalIn_array w 9999 (av x) (av y) Try.underlying22 hq, run_eqItems_av w 9998 x y _ (by simp), all_range_eq]
@[go_sem] theorem eqGuardType_sec : Try.prog.eqGuardType Try.prog.depth 22 = false := by kernel_rfl

def BuildSec (parts : Array (Nat × Value)) : Sem Value := Instr.build 22 parts
@[go_sem ↓] theorem build_sec (parts : Array (Nat × Value)) : Instr.build 22 parts = BuildSec parts := rfl
def sec1 (a : UInt8) : Sec := Vector.ofFn fun i => if i.val = 0 then a else 0
def sec2 (a b : UInt8) : Sec := Vector.ofFn fun i => if i.val = 0 then a else if i.val = 1 then b else 0
def sec3 (a b c : UInt8) : Sec := Vector.ofFn fun i => if i.val = 0 then a else if i.val = 1 then b else if i.val = 2 then c else 0
theorem built0 : Try.prog.built 22 [] = some (av zsec) := by kernel_rfl
theorem built7 : Try.prog.built 22 [(0, .int .u8 7)] = some (av (sec1 7)) := by kernel_rfl
theorem built12 : Try.prog.built 22 [(0, .int .u8 1), (1, .int .u8 2)] = some (av (sec2 1 2)) := by kernel_rfl
theorem built123 : Try.prog.built 22 [(0, .int .u8 1), (1, .int .u8 2), (2, .int .u8 3)] = some (av (sec3 1 2 3)) := by kernel_rfl
@[go_sem] theorem run_build0 (w : World) : (BuildSec #[]).run Try.prog w = .ok (.agg (av zsec)) w := run_build w _ _ _ built0
@[go_sem] theorem run_build7 (w : World) : (BuildSec #[(0, .int .u8 7)]).run Try.prog w = .ok (.agg (av (sec1 7))) w := run_build w _ _ _ built7
@[go_sem] theorem run_build12 (w : World) : (BuildSec #[(0, .int .u8 1), (1, .int .u8 2)]).run Try.prog w = .ok (.agg (av (sec2 1 2))) w := run_build w _ _ _ built12
@[go_sem] theorem run_build123 (w : World) : (BuildSec #[(0, .int .u8 1), (1, .int .u8 2), (2, .int .u8 3)]).run Try.prog w = .ok (.agg (av (sec3 1 2 3))) w := run_build w _ _ _ built123

def z65 : Array Value := (List.replicate 65 (Value.int .u8 0)).toArray
theorem make65 (w : World) : (Instr.makeSlice 27 (.int .i64 65) (.int .i64 65)).run Try.prog w = .ok (.slice (some ⟨w.heap.size, 0, none⟩) 65 65) (w.alloc (.cells z65 5)) := by kernel_rfl

set_option maxHeartbeats 400000 in
theorem awake_any (w : World) :
    Calls Try.prog 8 #[] w fun r w' => r = .returned (.bool true) ∧ Below w.heap.size w w' := by
  go_enter Try.func8, Try.ntmps8
  go_wp2_with fail
  refine (make_yes _ 1 1 [7] _ ⟨rfl, by decide, fun _ => ⟨w.heap.size, 0, rfl, by simp [go_sem]; rfl⟩⟩ (by decide)).mono ?_
  rintro _ w1 ⟨rfl, hb1⟩
  have hmk := make65
  go_wp2_with fail
  refine (make_no _ 65 65 _ (by decide)).mono ?_
  rintro _ w2 ⟨rfl, hb2⟩
  clear hmk
  have hs1 : readAt w2 w1.heap.size 0 64 = some (av (secOf [7])) := by
    rw [readAt_below hb2 (by simp only [World.size_alloc]; omega)]; simp [go_sem]
  go_wp2_with fail
  refine (tear_any zsec (sec3 1 2 3) 2 _).mono ?_
  rintro _ w3 ⟨rfl, hb3⟩
  have hs2 : readAt w3 w1.heap.size 0 64 = some (av (secOf [7])) := by
    have := readAt_lt hs1
    rw [readAt_below hb3 (by simp only [World.size_alloc]; omega)]; simp [go_sem, hs1, this]
  have hlt := readAt_lt hs2
  have e7 : (secOf [7] == sec1 7) = true := by decide +kernel
  have e12 : (tear zsec (sec3 1 2 3) 2 == sec2 1 2) = true := by decide +kernel
  clear hs1
  go_wp2_with fail
  refine (cut_any (-1) _).mono ?_
  rintro _ _ ⟨rfl, rfl⟩
  rw [show cutN (-1) = 0 from rfl]
  go_wp2_with fail
  refine (cut_any 70 _).mono ?_
  rintro _ _ ⟨rfl, rfl⟩
  rw [show cutN 70 = 64 from rfl]
  go_wp2_with fail
  refine (cut_any 5 _).mono ?_
  rintro _ _ ⟨rfl, rfl⟩
  rw [show cutN 5 = 5 from rfl]
  go_wp2_with fail
  go_ret
  exact ⟨rfl, ba _ (bt (ba _ (bt (ba _ (ba _ (bt (ba _ (Below.refl _ _)) hb1))) hb2)) hb3)⟩

/-- The class of worlds in which two sectors lie where they lay. -/
def Two (w : World) (b1 b2 : Nat) (x y : Sec) (w' : World) : Prop := readAt w' b1 0 64 = some (av x) ∧ readAt w' b2 0 64 = some (av y) ∧ Below w.heap.size w w'
theorem Two.below {w : World} {b1 b2 : Nat} {x y : Sec} {w1 w2 : World} (h : Two w b1 b2 x y w1) (hb : Below w1.heap.size w1 w2) : Two w b1 b2 x y w2 :=
  ⟨by rw [readAt_below hb (readAt_lt h.1)]; exact h.1, by rw [readAt_below hb (readAt_lt h.2.1)]; exact h.2.1, bt h.2.2 hb⟩

theorem cut_eq (c : Int) : (cutN c : Int) = max 0 (min 64 c) := by unfold cutN; omega

set_option maxHeartbeats 400000 in
theorem law_matches_A (x y : Sec) (c : Int) (w : World) (h1 : c < 64) (h2 : (0 < c) = False) (h3 : ((cutN c : Int) == 0) = true) :
    Calls Try.prog 3 #[.agg (av x), .agg (av y), .int .i64 c] w fun r w' => r = .returned (.bool true) ∧ Below w.heap.size w w' := by
  go_enter Try.func3, Try.ntmps3
  go_wp2_with fail
  refine (awake_any _).mono ?_
  rintro _ w1 ⟨rfl, hb1⟩
  go_wp2_with fail
  have hC : Two w w.heap.size (w.heap.size + 1) x y w1.drew := by
    refine ⟨?_, ?_, (bt (ba _ (ba _ (Below.refl _ _))) hb1).drew⟩
    · rw [readAt_drew, readAt_below hb1 (by simp only [World.size_alloc]; omega)]; simp [go_sem]
    · rw [readAt_drew, readAt_below hb1 (by simp only [World.size_alloc]; omega)]; simp [go_sem]
  refine wp_region_quiet (C := Two w w.heap.size (w.heap.size + 1) x y) (by kernel_rfl) (by kernel_rfl) hC ?_
  have hgd : (tear x y c == tear x y c) = true := by simp
  repeat (first
    | (refine q_off rfl ?_; simp only [Act.put, Act.eval, List.setIfInBounds_toArray, List.set_cons_zero, List.set_cons_succ, Array.getD_eq_getD_getElem?, List.getElem?_toArray, List.getElem?_cons_succ, List.getElem?_cons_zero, Option.getD_some])
    | (refine q_move _ rfl rfl ?_; simp only [Act.put, Act.eval, List.setIfInBounds_toArray, List.set_cons_zero, List.set_cons_succ, Array.getD_eq_getD_getElem?, List.getElem?_toArray, List.getElem?_cons_succ, List.getElem?_cons_zero, Option.getD_some])
    | (refine q_assign _ rfl rfl ?_; simp only [Act.put, Act.eval, List.setIfInBounds_toArray, List.set_cons_zero, List.set_cons_succ, Array.getD_eq_getD_getElem?, List.getElem?_toArray, List.getElem?_cons_succ, List.getElem?_cons_zero, Option.getD_some])
    | (refine q_ex rfl ?_; apply Exists.intro; refine ⟨fun w' hC' => ?_, ?_⟩; (obtain ⟨f1, f2, f3⟩ := hC'; go_simp; exact rfl); simp only [Act.put, Act.eval, List.setIfInBounds_toArray, List.set_cons_zero, List.set_cons_succ, Array.getD_eq_getD_getElem?, List.getElem?_toArray, List.getElem?_cons_succ, List.getElem?_cons_zero, Option.getD_some])
    | (refine q_cx rfl ?_; apply Exists.intro; apply Exists.intro; apply Exists.intro; refine ⟨fun w' hC' => ?_, fun w' hC' => ?_, ?_⟩; (go_simp; exact ⟨rfl, rfl⟩); (first | (refine (tear_any x y c _).mono ?_; rintro _ w2 ⟨rfl, hb⟩; exact ⟨rfl, hC'.below hb⟩) | (refine (rtear_any x y c _).mono ?_; rintro _ w2 ⟨rfl, hb⟩; exact ⟨rfl, hC'.below hb⟩) | (refine (cut_any c _).mono ?_; rintro _ w2 ⟨rfl, rfl⟩; exact ⟨rfl, hC'⟩)); simp only [Act.put, Act.eval, List.setIfInBounds_toArray, List.set_cons_zero, List.set_cons_succ, Array.getD_eq_getD_getElem?, List.getElem?_toArray, List.getElem?_cons_succ, List.getElem?_cons_zero, Option.getD_some]))
  refine wpQuiet_nil ?_
  intro w' hC'
  have hbw := hC'.2.2
  clear hC hC' hb1
  go_wp2
  go_ret
  exact ⟨rfl, hbw⟩

set_option maxHeartbeats 400000 in
theorem law_matches_B (x y : Sec) (c : Int) (w : World) (h1 : c < 64) (h2 : 0 < c) (h3 : ((cutN c : Int) == c) = true) :
    Calls Try.prog 3 #[.agg (av x), .agg (av y), .int .i64 c] w fun r w' => r = .returned (.bool true) ∧ Below w.heap.size w w' := by
  go_enter Try.func3, Try.ntmps3
  go_wp2_with fail
  refine (awake_any _).mono ?_
  rintro _ w1 ⟨rfl, hb1⟩
  go_wp2_with fail
  have hC : Two w w.heap.size (w.heap.size + 1) x y w1.drew := by
    refine ⟨?_, ?_, (bt (ba _ (ba _ (Below.refl _ _))) hb1).drew⟩
    · rw [readAt_drew, readAt_below hb1 (by simp only [World.size_alloc]; omega)]; simp [go_sem]
    · rw [readAt_drew, readAt_below hb1 (by simp only [World.size_alloc]; omega)]; simp [go_sem]
  refine wp_region_quiet (C := Two w w.heap.size (w.heap.size + 1) x y) (by kernel_rfl) (by kernel_rfl) hC ?_
  have hgd : (tear x y c == tear x y c) = true := by simp
  repeat (first
    | (refine q_off rfl ?_; simp only [Act.put, Act.eval, List.setIfInBounds_toArray, List.set_cons_zero, List.set_cons_succ, Array.getD_eq_getD_getElem?, List.getElem?_toArray, List.getElem?_cons_succ, List.getElem?_cons_zero, Option.getD_some])
    | (refine q_move _ rfl rfl ?_; simp only [Act.put, Act.eval, List.setIfInBounds_toArray, List.set_cons_zero, List.set_cons_succ, Array.getD_eq_getD_getElem?, List.getElem?_toArray, List.getElem?_cons_succ, List.getElem?_cons_zero, Option.getD_some])
    | (refine q_assign _ rfl rfl ?_; simp only [Act.put, Act.eval, List.setIfInBounds_toArray, List.set_cons_zero, List.set_cons_succ, Array.getD_eq_getD_getElem?, List.getElem?_toArray, List.getElem?_cons_succ, List.getElem?_cons_zero, Option.getD_some])
    | (refine q_ex rfl ?_; apply Exists.intro; refine ⟨fun w' hC' => ?_, ?_⟩; (obtain ⟨f1, f2, f3⟩ := hC'; go_simp; exact rfl); simp only [Act.put, Act.eval, List.setIfInBounds_toArray, List.set_cons_zero, List.set_cons_succ, Array.getD_eq_getD_getElem?, List.getElem?_toArray, List.getElem?_cons_succ, List.getElem?_cons_zero, Option.getD_some])
    | (refine q_cx rfl ?_; apply Exists.intro; apply Exists.intro; apply Exists.intro; refine ⟨fun w' hC' => ?_, fun w' hC' => ?_, ?_⟩; (go_simp; exact ⟨rfl, rfl⟩); (first | (refine (tear_any x y c _).mono ?_; rintro _ w2 ⟨rfl, hb⟩; exact ⟨rfl, hC'.below hb⟩) | (refine (rtear_any x y c _).mono ?_; rintro _ w2 ⟨rfl, hb⟩; exact ⟨rfl, hC'.below hb⟩) | (refine (cut_any c _).mono ?_; rintro _ w2 ⟨rfl, rfl⟩; exact ⟨rfl, hC'⟩)); simp only [Act.put, Act.eval, List.setIfInBounds_toArray, List.set_cons_zero, List.set_cons_succ, Array.getD_eq_getD_getElem?, List.getElem?_toArray, List.getElem?_cons_succ, List.getElem?_cons_zero, Option.getD_some]))
  refine wpQuiet_nil ?_
  intro w' hC'
  have hbw := hC'.2.2
  clear hC hC' hb1
  go_wp2
  go_ret
  exact ⟨rfl, hbw⟩

set_option maxHeartbeats 400000 in
theorem law_matches_C (x y : Sec) (c : Int) (w : World) (h1 : (c < 64) = False) (h3 : ((cutN c : Int) == 64) = true) :
    Calls Try.prog 3 #[.agg (av x), .agg (av y), .int .i64 c] w fun r w' => r = .returned (.bool true) ∧ Below w.heap.size w w' := by
  go_enter Try.func3, Try.ntmps3
  go_wp2_with fail
  refine (awake_any _).mono ?_
  rintro _ w1 ⟨rfl, hb1⟩
  go_wp2_with fail
  have hC : Two w w.heap.size (w.heap.size + 1) x y w1.drew := by
    refine ⟨?_, ?_, (bt (ba _ (ba _ (Below.refl _ _))) hb1).drew⟩
    · rw [readAt_drew, readAt_below hb1 (by simp only [World.size_alloc]; omega)]; simp [go_sem]
    · rw [readAt_drew, readAt_below hb1 (by simp only [World.size_alloc]; omega)]; simp [go_sem]
  refine wp_region_quiet (C := Two w w.heap.size (w.heap.size + 1) x y) (by kernel_rfl) (by kernel_rfl) hC ?_
  have hgd : (tear x y c == tear x y c) = true := by simp
  repeat (first
    | (refine q_off rfl ?_; simp only [Act.put, Act.eval, List.setIfInBounds_toArray, List.set_cons_zero, List.set_cons_succ, Array.getD_eq_getD_getElem?, List.getElem?_toArray, List.getElem?_cons_succ, List.getElem?_cons_zero, Option.getD_some])
    | (refine q_move _ rfl rfl ?_; simp only [Act.put, Act.eval, List.setIfInBounds_toArray, List.set_cons_zero, List.set_cons_succ, Array.getD_eq_getD_getElem?, List.getElem?_toArray, List.getElem?_cons_succ, List.getElem?_cons_zero, Option.getD_some])
    | (refine q_assign _ rfl rfl ?_; simp only [Act.put, Act.eval, List.setIfInBounds_toArray, List.set_cons_zero, List.set_cons_succ, Array.getD_eq_getD_getElem?, List.getElem?_toArray, List.getElem?_cons_succ, List.getElem?_cons_zero, Option.getD_some])
    | (refine q_ex rfl ?_; apply Exists.intro; refine ⟨fun w' hC' => ?_, ?_⟩; (obtain ⟨f1, f2, f3⟩ := hC'; go_simp; exact rfl); simp only [Act.put, Act.eval, List.setIfInBounds_toArray, List.set_cons_zero, List.set_cons_succ, Array.getD_eq_getD_getElem?, List.getElem?_toArray, List.getElem?_cons_succ, List.getElem?_cons_zero, Option.getD_some])
    | (refine q_cx rfl ?_; apply Exists.intro; apply Exists.intro; apply Exists.intro; refine ⟨fun w' hC' => ?_, fun w' hC' => ?_, ?_⟩; (go_simp; exact ⟨rfl, rfl⟩); (first | (refine (tear_any x y c _).mono ?_; rintro _ w2 ⟨rfl, hb⟩; exact ⟨rfl, hC'.below hb⟩) | (refine (rtear_any x y c _).mono ?_; rintro _ w2 ⟨rfl, hb⟩; exact ⟨rfl, hC'.below hb⟩) | (refine (cut_any c _).mono ?_; rintro _ w2 ⟨rfl, rfl⟩; exact ⟨rfl, hC'⟩)); simp only [Act.put, Act.eval, List.setIfInBounds_toArray, List.set_cons_zero, List.set_cons_succ, Array.getD_eq_getD_getElem?, List.getElem?_toArray, List.getElem?_cons_succ, List.getElem?_cons_zero, Option.getD_some]))
  refine wpQuiet_nil ?_
  intro w' hC'
  have hbw := hC'.2.2
  clear hC hC' hb1
  go_wp2
  go_ret
  exact ⟨rfl, hbw⟩

theorem law_matches (x y : Sec) (c : Int) (w : World) :
    Calls Try.prog 3 #[.agg (av x), .agg (av y), .int .i64 c] w fun r w' => r = .returned (.bool true) ∧ Below w.heap.size w w' := by
  have := cut_eq c
  by_cases h1 : c < 64
  · by_cases h2 : 0 < c
    · exact law_matches_B x y c w h1 h2 (by rw [beq_iff_eq]; omega)
    · exact law_matches_A x y c w h1 (by simp; omega) (by rw [beq_iff_eq]; omega)
  · exact law_matches_C x y c w (by simp; omega) (by rw [beq_iff_eq]; omega)

end Go.Proofs.Ytemjeppneahgeaa
