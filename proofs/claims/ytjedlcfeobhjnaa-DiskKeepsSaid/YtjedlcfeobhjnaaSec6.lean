/- What rows of tolllaw15 computes: the writes and their cuts. Conditions: at most 50 rows, whose numbers fit 64 bits; a number of sectors from 1 to 8. -/
import Derived.Test.YtjedlcfeobhjnaaSec5
import Derived.Maps.AppendAt
set_option linter.unusedSimpArgs false
set_option linter.unusedVariables false
namespace Go.Proofs.Ytjedlcfeobhjnaa
open Go.RowKit


/-- A row: At, Cut, Byte. -/
abbrev Rw3 := Int × Int × UInt8
def rv (r : Rw3) : Array Value := #[.int .i64 r.1, .int .i64 r.2.1, B8 r.2.2]
@[simp] theorem size_rv (r : Rw3) : (rv r).size = 3 := rfl
def norm (n : Nat) (x : Int) : Int := (wrap64 (x.tmod n + n)).tmod n
def Sep (u v : Value) : Prop := ∀ g, u.ownBlock = some g → v.ownBlock ≠ some g
theorem Sep.symm {u v : Value} (h : Sep u v) : Sep v u := fun g h1 h2 => h g h2 h1
theorem Sep_nil (v : Value) : Sep (.slice none 0 0) v := fun g h => by simp [Value.ownBlock] at h
theorem wvp (p : Int × Sec) : (wv p.1 p.2).size = 65 := size_wv _ _
def wp2 (p : Int × Sec) : Array Value := wv p.1 p.2
def writes (n : Nat) (R : List Rw3) : List (Int × Sec) := R.map fun r => (norm n r.1, fill r.2.2)
def cutsOf (R : List Rw3) : List Int := R.map fun r => r.2.1

/-- What stays owned when another owned row has grown. -/
theorem own_kept {w w' : World} {base e size n : Nat} {v u : Value} {xs : List Value} (h : w.ownsRow base e size v n xs) (hg : w.grownBy w' u.ownBlock) (hs : Sep v u) : w'.ownsRow base e size v n xs := by
  refine h.kept hg ?_
  cases hv : v.ownBlock with
  | none => exact .inl rfl
  | some g => right; exact fun e => hs g hv e.symm
theorem sep_grown {w : World} {u v v' : Value} {base e size n : Nat} {xs : List Value} (hs : Sep u v) (hu : w.ownsRow base e size u n xs) {s : Nat} (h : v'.ownBlock = v.ownBlock ∨ v'.ownBlock = some s) (hsz : w.heap.size ≤ s) : Sep u v' := by
  intro g hg h2
  rcases h with h | h
  · rw [h] at h2; exact hs g hg h2
  · rw [h] at h2
    have := (hu.lt g hg).2
    simp only [Option.some.injEq] at h2
    omega


theorem fill_u8 (b : UInt8) (w : World) :
    Calls Try.prog 14 #[.int .u8 (b.toNat : Int)] w fun e w' => e = .returned (.agg (av (fill b))) ∧ Below w.heap.size w w' := by
  have := fill_any (b.toNat : Int) w ⟨by omega, by have := b.toNat_lt; omega⟩
  rw [mkU8_toNat] at this; exact this

end Go.Proofs.Ytjedlcfeobhjnaa
