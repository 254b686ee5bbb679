/- The law DiskCrashes returns true, for every input. Conditions: the slices read as operations and numbers; the byte is one. -/
import Derived.Test.YtjedlcfeobhjnaaDLaw1
set_option linter.unusedSimpArgs false
set_option linter.unusedVariables false
namespace Go.Proofs.Ytjedlcfeobhjnaa
open Go.RowKit

theorem law_dcrashesI (v : Value) (adc : Option Addr) (cc : Nat) (L : List (OpM × Value)) (cs : List Int) (a : Int) (w : World) (hL : OpsR w v L) (hc : RdS w (.slice adc cs.length cc) cs.length 1 (cs.map (Value.int .i64))) (hb : 0 ≤ a ∧ a ≤ 255) :
    Calls Try.prog 3 #[v, .int .u8 a, .slice adc cs.length cc] w fun e w' => e = .returned (.bool true) ∧ Below w.heap.size w w' := by
  obtain ⟨nb, rfl⟩ := Int.eq_ofNat_of_zero_le hb.1
  have hn : nb ≤ 255 := by omega
  cases hf : fewB L with
  | false => exact law_dcr_no v adc cc L cs nb w hL hn (.inl hf)
  | true =>
    by_cases h20 : 20 < cs.length
    · exact law_dcr_no v adc cc L cs nb w hL hn (.inr ⟨hf, h20⟩)
    · exact law_dcr_yes v adc cc L cs nb w hL hn hf (by omega) hc
end Go.Proofs.Ytjedlcfeobhjnaa
