/- What early of tolllaw22 computes. No conditions. -/
import Derived.Test.YtmmimjpgaalbcaaAwake
set_option linter.unusedSimpArgs false
set_option linter.unusedVariables false
namespace Go.Proofs.Ytmmimjpgaalbcaa
open Go.RowKit

def Early (x : Int) : Prop := 0 ≤ x ∧ x ≤ 2305843009213693952
/-- An answer yes says that all five numbers are early. -/
def SaysEarly (x : Ending) (s e t now skew : Int) : Prop := ∃ b, x = .returned (.bool b) ∧ (b = true → Early s ∧ Early e ∧ Early t ∧ Early now ∧ Early skew)

def mn (x y : Int) : Int := if y < x then y else x
def mx (x y : Int) : Int := if x < y then y else x
theorem mx_le (a b c : Int) : mx a b ≤ c ↔ a ≤ c ∧ b ≤ c := by unfold mx; split <;> omega
theorem le_mn (a b c : Int) : c ≤ mn a b ↔ c ≤ a ∧ c ≤ b := by unfold mn; split <;> omega
theorem run_min_int5 (P : Program) (w : World) (ts : Array TypeId) (t : TypeId) (a b c d e : Int) : (Builtin.min_ ts t #[.int .i64 a, .int .i64 b, .int .i64 c, .int .i64 d, .int .i64 e]).run P w = .ok (.int .i64 (mn (mn (mn (mn a b) c) d) e)) w := by
  simp only [Builtin.min_, mn]
  simp [Builtin.min2, List.foldlM]
  first | rfl | ((repeat' split) <;> first | rfl | omega)
theorem run_max_int5 (P : Program) (w : World) (ts : Array TypeId) (t : TypeId) (a b c d e : Int) : (Builtin.max_ ts t #[.int .i64 a, .int .i64 b, .int .i64 c, .int .i64 d, .int .i64 e]).run P w = .ok (.int .i64 (mx (mx (mx (mx a b) c) d) e)) w := by
  simp only [Builtin.max_, mx]
  simp [Builtin.max2, List.foldlM]
  first | rfl | ((repeat' split) <;> first | rfl | omega)
attribute [go_sem] run_min_int5 run_max_int5

set_option maxHeartbeats 3200000 in
theorem early_any (r q : ByteArray) (ad bd : Option Addr) (n m c c2 : Nat) (s e t mi sq now skew : Int) (k : Key) (w : World) :
    Calls Try.prog 12 #[.agg (tv r ad n c s e k), .agg #[.string q, .slice bd m c2, .int .i64 t, .int .u32 mi, .int .u32 sq], .int .i64 now, .int .i64 skew] w fun x w' => SaysEarly x s e t now skew ∧ Below w.heap.size w w' := by
  have hb0 := ba (.cells #[.string q, .slice bd m c2, .int .i64 t, .int .u32 mi, .int .u32 sq] 33) (ba (.cells (tv r ad n c s e k) 27) (Below.refl _ w))
  have Hb := Lib.hid hb0
  clear hb0
  go_enter Try.func12, Try.ntmps12
  go_wp2_with fail
  · have hA : 0 ≤ mn (mn (mn (mn s e) t) now) skew := by assumption
    have hfin := Hb.out
    go_ret
    refine ⟨⟨_, rfl, fun h => ?_⟩, hfin⟩
    have h' := of_decide_eq_true h
    rw [mx_le, mx_le, mx_le, mx_le] at h'
    rw [le_mn, le_mn, le_mn, le_mn] at hA
    unfold Early
    omega
  · have hfin := Hb.out
    go_ret
    exact ⟨⟨_, rfl, fun h => by cases h⟩, hfin⟩
end Go.Proofs.Ytmmimjpgaalbcaa
