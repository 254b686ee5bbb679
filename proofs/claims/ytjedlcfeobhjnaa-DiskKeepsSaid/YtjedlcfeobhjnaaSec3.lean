/- Comparing and building sectors; the check awake of tolllaw15 returns true; the law SectorMatchesReference returns true. Conditions: integer arguments fit their kinds. -/
import Derived.Test.YtjedlcfeobhjnaaSec2
import Derived.Test.YtjedlcfeobhjnaaSecE
import Derived.Test.YtjedlcfeobhjnaaQuiet
set_option linter.unusedSimpArgs false
set_option linter.unusedVariables false
namespace Go.Proofs.Ytjedlcfeobhjnaa
open Go.RowKit

def sec1 (a : UInt8) : Sec := Vector.ofFn fun i => if i.val = 0 then a else 0
def sec2 (a b : UInt8) : Sec := Vector.ofFn fun i => if i.val = 0 then a else if i.val = 1 then b else 0
def sec3 (a b c : UInt8) : Sec := Vector.ofFn fun i => if i.val = 0 then a else if i.val = 1 then b else if i.val = 2 then c else 0
theorem built7 : Try.prog.built 35 [(0, .int .u8 7)] = some (av (sec1 7)) := by kernel_rfl
theorem built12 : Try.prog.built 35 [(0, .int .u8 1), (1, .int .u8 2)] = some (av (sec2 1 2)) := by kernel_rfl
theorem built123 : Try.prog.built 35 [(0, .int .u8 1), (1, .int .u8 2), (2, .int .u8 3)] = some (av (sec3 1 2 3)) := by kernel_rfl
@[go_sem] theorem run_build7 (w : World) : (BuildSec #[(0, .int .u8 7)]).run Try.prog w = .ok (.agg (av (sec1 7))) w := run_build w _ _ _ built7
@[go_sem] theorem run_build12 (w : World) : (BuildSec #[(0, .int .u8 1), (1, .int .u8 2)]).run Try.prog w = .ok (.agg (av (sec2 1 2))) w := run_build w _ _ _ built12
@[go_sem] theorem run_build123 (w : World) : (BuildSec #[(0, .int .u8 1), (1, .int .u8 2), (2, .int .u8 3)]).run Try.prog w = .ok (.agg (av (sec3 1 2 3))) w := run_build w _ _ _ built123

def z65 : Array Value := (List.replicate 65 (Value.int .u8 0)).toArray
theorem make65 (w : World) : (Instr.makeSlice 107 (.int .i64 65) (.int .i64 65)).run Try.prog w = .ok (.slice (some ⟨w.heap.size, 0, none⟩) 65 65) (w.alloc (.cells z65 5)) := by kernel_rfl

/-- The class of worlds in which two sectors lie where they lay. -/
def Two (w : World) (b1 b2 : Nat) (x y : Sec) (w' : World) : Prop := readAt w' b1 0 64 = some (av x) ∧ readAt w' b2 0 64 = some (av y) ∧ Below w.heap.size w w'
theorem Two.below {w : World} {b1 b2 : Nat} {x y : Sec} {w1 w2 : World} (h : Two w b1 b2 x y w1) (hb : Below w1.heap.size w1 w2) : Two w b1 b2 x y w2 :=
  ⟨by rw [readAt_below hb (readAt_lt h.1)]; exact h.1, by rw [readAt_below hb (readAt_lt h.2.1)]; exact h.2.1, bt h.2.2 hb⟩

theorem cut_eq (c : Int) : (cutN c : Int) = max 0 (min 64 c) := by unfold cutN; omega

end Go.Proofs.Ytjedlcfeobhjnaa
