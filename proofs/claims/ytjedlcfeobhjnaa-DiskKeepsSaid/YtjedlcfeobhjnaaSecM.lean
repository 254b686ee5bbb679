/- What Make of package sector computes. Conditions: the slice reads as bytes. -/
import Derived.Test.YtjedlcfeobhjnaaSecB
set_option linter.unusedSimpArgs false
set_option linter.unusedVariables false
namespace Go.Proofs.Ytjedlcfeobhjnaa
open Go.RowKit

def secOf (l : List UInt8) : Sec := Vector.ofFn fun i => l.getD i 0
theorem av_secOf (l : List UInt8) (h : l.length ≤ 64) : putAt (av zsec) 0 (bv l) = av (secOf l) := by
  apply Array.ext_getElem?
  intro i
  rw [putAt_get _ _ _ (by simpa using h)]
  by_cases hi : i < 64
  · rw [av_get _ i hi]
    by_cases h2 : i < l.length
    · rw [if_pos (by simp; exact h2)]
      simp [bv, B8, secOf, h2]
      rw [av_get _ i hi]
      simp [h2]
    · rw [if_neg (by simp; omega), av_get _ i hi]
      simp [secOf, zsec, List.getD, h2]
  · rw [if_neg (by simp; omega)]; simp [hi]

theorem results_sec_tmp {fn : Func} {p q : Tmp} (h : fn.results = #[.cell p 35, .tmp q]) (tmps : Array Value) (w : World) (b o : Nat) (cs : Array Value) (v : Value)
    (hp : tmps.getD p undef = .pointer (some ⟨b, o, none⟩)) (hq : tmps.getD q undef = v) (hg : readAt w b o 64 = some cs) : (results fn tmps).run Try.prog w = .ok (.tuple #[.agg cs, v]) w := by
  have hp' : tmps[p]?.getD undef = .pointer (some ⟨b, o, none⟩) := by simpa using hp
  have hq' : tmps[q]?.getD undef = v := by simpa using hq
  simp [results, h, hp', hq', asAddr, run_loadVar_at w b o 64 35 _ cs hg Try.underlying35 rfl info_sec]

end Go.Proofs.Ytjedlcfeobhjnaa
