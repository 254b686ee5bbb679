/- The law's told: the error that a disk gives for its code and sector is told right. -/
import Derived.Test.YtjedlcfeobhjnaaFault
set_option linter.unusedSimpArgs false
set_option linter.unusedVariables false
namespace Go.Proofs.Ytjedlcfeobhjnaa
open Go.RowKit Go.ChangeMaps

set_option maxRecDepth 100000 in
set_option maxHeartbeats 1600000 in
theorem told_any (c k : Int) (w : World) :
    Calls Try.prog 37 #[errV c k, .int .i64 c, .int .i64 k] w fun e w' => e = .returned (.bool true) ∧ Below w.heap.size w w' := by
  have hp := fplace_any c k w
  by_cases h15 : c = 15
  · subst h15
    rw [show errV 15 k = faultV 15 k from rfl] at hp ⊢
    rw [show plN 15 k = k from rfl] at hp
    unfold faultV at hp ⊢
    go_enter Try.func37, Try.ntmps37
    go_wp2_with fail
    refine hp.mono ?_
    rintro _ w2 ⟨rfl, hb⟩
    clear hp
    go_wp2
    go_ret
    exact ⟨rfl, hb⟩
  · by_cases h0 : c = 0
    · subst h0
      rw [show errV 0 k = .nilIface from rfl] at hp ⊢
      go_enter Try.func37, Try.ntmps37
      go_wp2_with fail
      refine hp.mono ?_
      rintro _ w2 ⟨rfl, hb⟩
      clear hp
      go_wp2
      go_ret
      exact ⟨rfl, hb⟩
    · rw [show errV c k = codeV c by unfold errV; rw [if_neg h0, if_neg h15]] at hp ⊢
      have d15 : decide (c = 15) = false := by simpa using h15
      rw [d15] at hp
      unfold codeV at hp ⊢
      go_enter Try.func37, Try.ntmps37
      go_wp2_with fail
      refine hp.mono ?_
      rintro _ w2 ⟨rfl, hb⟩
      clear hp
      go_wp2
      go_ret
      exact ⟨by simp [show (c == 15) = false by simpa using h15, show (c == 0) = false by simpa using h0], hb⟩
end Go.Proofs.Ytjedlcfeobhjnaa
