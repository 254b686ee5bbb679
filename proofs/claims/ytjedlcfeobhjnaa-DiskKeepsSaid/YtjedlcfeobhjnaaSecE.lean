/- Comparing sectors; the sector of zeros. Lemmas; no conditions on the program. -/
import Derived.Test.YtjedlcfeobhjnaaSecB
set_option linter.unusedSimpArgs false
set_option linter.unusedVariables false
namespace Go.Proofs.Ytjedlcfeobhjnaa
open Go.RowKit

theorem cells_u8 : Try.prog.cellsOf 5 = 1 := by kernel_rfl
theorem plain_u8 : Try.prog.plainKey 5 = true := by kernel_rfl
theorem run_eqItems_av {n : Nat} (w : World) (d : Nat) (x y : Vector UInt8 n) : ∀ is : List Nat, (∀ i ∈ is, i < n) →
    (Op.eqItems (d + 1) 5 (Try.prog.cellsOf 5) (av x) (av y) is).run Try.prog w = .ok (is.all fun i => x[i]? == y[i]?) w
  | [], _ => by simp [Op.eqItems]
  | i :: is, h => by
    have hi := h i (by simp)
    have ih := run_eqItems_av w d x y is (fun j hj => h j (by simp [hj]))
    have h1 := run_part_plain w plain_u8 (av_get x i hi)
    have h2 := run_part_plain w plain_u8 (av_get y i hi)
    have h3 := run_equalIn_int (P := Try.prog) w d 5 .u8 .u8 (x[i].toNat : Int) (y[i].toNat : Int) Try.underlying5
    simp only [Op.eqItems, Sem.run_bind, cells_u8, Nat.mul_one, h1, h2, h3, Result.andThen_ok]
    have e : ((x[i].toNat : Int) == (y[i].toNat : Int)) = (x[i]? == y[i]?) := by
      rw [Bool.eq_iff_iff]
      simp [hi]
      constructor
      · intro h; exact UInt8.toNat_inj.1 (by omega)
      · intro h; rw [h]
    rw [e]
    simp only [List.all_cons]
    rw [cells_u8] at ih
    cases hq : (x[i]? == y[i]?) <;> simp [ih]
theorem all_range_eq {n : Nat} (x y : Vector UInt8 n) : ((List.range n).all fun i => x[i]? == y[i]?) = (x == y) := by
  rw [Bool.eq_iff_iff, List.all_eq_true]
  simp only [List.mem_range, beq_iff_eq]
  constructor
  · intro h; apply Vector.ext; intro i hi
    have := h i hi; simpa [hi] using this
  · intro h; subst h; simp
@[go_sem ↓ high] theorem run_equalIn_sec (w : World) (x y : Sec) : (Op.equalIn 10000 35 (.agg (av x)) (.agg (av y))).run Try.prog w = .ok (x == y) w := by
  cases hq : Try.prog.info? 5 with
  | none => have := info_u8; simp [hq] at this
  | some i =>
    rw [run_equalIn_array w 9999 (av x) (av y) Try.underlying35 hq, run_eqItems_av w 9998 x y _ (by simp), all_range_eq]
@[go_sem] theorem eqGuardType_sec : Try.prog.eqGuardType Try.prog.depth 35 = false := by kernel_rfl

def BuildSec (parts : Array (Nat × Value)) : Sem Value := Instr.build 35 parts
@[go_sem ↓] theorem build_sec (parts : Array (Nat × Value)) : Instr.build 35 parts = BuildSec parts := rfl
theorem built0 : Try.prog.built 35 [] = some (av zsec) := by kernel_rfl
@[go_sem] theorem run_build0 (w : World) : (BuildSec #[]).run Try.prog w = .ok (.agg (av zsec)) w := run_build w _ _ _ built0
end Go.Proofs.Ytjedlcfeobhjnaa
