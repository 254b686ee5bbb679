/- The record of an entry gives the entry back. Plain law. -/
import Derived.Test.YtlonmghkdobhdaaEntP
set_option linter.unusedSimpArgs false
set_option linter.unusedVariables false
namespace Go.Proofs.Ytlonmghkdobhdaa
open Go.RowKit

theorem digOf_dl (d : Dig) : digOf (dl d) = d := by
  apply Vector.ext
  intro i hi
  simp [digOf, dl, List.getD, hi]
theorem payE_le (d : Dig) (n : Nat) : (payE d n).length ≤ 54 := by simp
section
variable (g : Nat) (d : Dig) (n : Nat)
theorem ent_tag (hg : g < 4294967296) : tagOf (recS g (payE d n)) = g := rec_tag (payE_le d n) hg
theorem ent_pay : payOf (recS g (payE d n)) = payE d n := rec_pay (payE_le d n)
theorem ent_exp (hn : n ≤ 4611686018427387904) : expOf (recS g (payE d n)) = n := by
  unfold expOf
  rw [ent_pay]
  unfold payE
  rw [drop_len (dl_length d), nb_be 8 n (by omega)]
theorem ent_ent : entOf (recS g (payE d n)) = d := by
  unfold entOf
  rw [ent_pay]
  unfold payE
  rw [take_len (dl_length d), digOf_dl]
theorem ent_ok (hn : n ≤ 4611686018427387904) : okE (recS g (payE d n)) = true := by
  unfold okE
  rw [rec_ok (payE_le d n), ent_pay, ent_exp g d n hn, payE_length, decide_eq_true hn]
  rfl
end
end Go.Proofs.Ytlonmghkdobhdaa
