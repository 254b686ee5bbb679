/- How arguments that are read as data are opened: arrays of bytes, slices whose elements take several cells. No conditions on the program. -/
import Derived.Test.YtjedlcfeobhjnaaSlices
import Derived.ProofKit
import Derived.OpenShut
import Derived.ShutString
import Derived.ChangeOld
import Derived.Below
import Derived.Deep.Strs
import Derived.Lib.SmallJoins
set_option linter.unusedSimpArgs false
set_option linter.unusedVariables false
namespace Go.Proofs.Ytjedlcfeobhjnaa
open Go.RowKit Go.ChangeShapes Go.WideShapes Go.ChangeAt Go.Deep

theorem readAt_of_cells (w : World) (b o n : Nat) (f : Nat → Value) (h0 : 0 < n) (h : ∀ j, j < n → w.cell? ⟨b, o + j, none⟩ = some (f j)) : readAt w b o n = some (Array.ofFn (n := n) fun i => f i) := by
  have hc := h (n - 1) (by omega)
  unfold World.cell? at hc
  unfold readAt
  split at hc
  · rename_i c t fr hb
    simp only [Option.isSome_none, Bool.false_eq_true, if_false] at hc
    have hlt : o + (n - 1) < c.size := by
      rcases Nat.lt_or_ge (o + (n - 1)) c.size with h' | h'
      · exact h'
      · simp [Array.getElem?_eq_none h'] at hc
    simp only at hb
    simp only [hb]
    rw [if_pos (by omega)]
    congr 1
    apply Array.ext_getElem?
    intro i
    rw [extract_get _ _ _ _ (by omega)]
    by_cases hi : i < n
    · rw [if_pos hi]
      have := h i hi
      simp only [World.cell?, hb, Option.isSome_none, Bool.false_eq_true, if_false] at this
      rw [this]; simp [hi]
    · rw [if_neg hi]; simp [hi]
  · simp at hc
def mkU8 (n : Int) : UInt8 := UInt8.ofNat n.toNat
theorem B8_u8 (n : Int) (h : 0 ≤ n ∧ n ≤ 255) : B8 (mkU8 n) = .int .u8 n := by
  simp only [B8, mkU8, Value.int.injEq, true_and, UInt8.toNat_ofNat']
  omega
theorem mkU8_toNat (b : UInt8) : mkU8 (b.toNat : Int) = b := by simp [mkU8]
theorem bytes_of_ints {cs : Array Value} {n : Nat} (hs : cs.size = n) (h : ∀ i, i < n → ∃ z : Int, cs[i]? = some (.int .u8 z) ∧ 0 ≤ z ∧ z ≤ 255) : ∃ x : Vector UInt8 n, cs = av x := by
  refine ⟨Vector.ofFn fun i => (match cs[i.val]? with | some (.int .u8 z) => mkU8 z | _ => 0), ?_⟩
  apply Array.ext_getElem?
  intro i
  by_cases hi : i < n
  · obtain ⟨z, hz, h0, h1⟩ := h i hi
    rw [av_get _ i hi, hz]
    have := B8_u8 z ⟨h0, h1⟩
    simp only [B8] at this
    simp [hz, this]
  · simp [Array.getElem?_eq_none (show cs.size ≤ i by omega), hi]

section
variable {H : Type} {enc : TypeId × Value → H} {P : Program} {w : World} {base b0 : Nat} {r : Reach} {spare : Nat → Bool} {held : Bool}

theorem open_flat {α : Type} (f : α → Array Value) (sz : Nat) (hsz : ∀ x, (f x).size = sz) (hs0 : 0 < sz) {t e : TypeId} {fuel : Nat} {ad : Option Addr} {n c : Nat} {x : DataW H × List MemPlace} (hu : P.underlying t = some (.slice e)) (hc : P.cellsOf e = sz) (Pr : α → Prop)
    (hrow : ∀ (k : Nat) (cs : List Value) (y : DataW H × List MemPlace), DataW.trod enc P w base spare held k e cs = some y → ∃ r, cs = (f r).toList ∧ Pr r)
    (h : DataW.trod enc P w base spare held fuel t [.slice ad n c] = some x) : ∃ R : List α, R.length = n ∧ RdS w (.slice ad n c) n sz (flat f R) ∧ ∀ r ∈ R, Pr r := by
  rcases DataW.trod_slice hu h with ⟨h0, _⟩ | ⟨a, len, cap, elems, rest, k, _, hcs, _, hb, hl, hm, hlen, hel, _, _⟩
  · simp only [List.cons.injEq, Value.slice.injEq, and_true] at h0
    obtain ⟨rfl, rfl, rfl⟩ := h0
    exact ⟨[], rfl, ⟨none, 0, rfl, Nat.le_refl _, by simp [maxLen], by simp [flat], fun _ => ⟨rfl, rfl⟩, fun h => absurd h (by omega)⟩, by simp⟩
  · simp only [List.cons.injEq, Value.slice.injEq, and_true] at hcs
    obtain ⟨rfl, rfl, rfl⟩ := hcs
    have h1 : ∀ i : Fin n, ∃ r, w.cells? base (a.add (i * sz)) sz = some (f r).toList ∧ Pr r := by
      intro i
      have hi := hel i i.isLt
      rw [List.getElem?_eq_getElem (by rw [hlen]; exact i.isLt), Option.bind_eq_some_iff] at hi
      obtain ⟨cs', h2, h3⟩ := hi
      obtain ⟨r, rfl, hp⟩ := hrow _ _ _ h3
      rw [hc] at h2
      exact ⟨r, h2, hp⟩
    obtain ⟨g, hg⟩ := Classical.axiomOfChoice h1
    refine ⟨List.ofFn g, by simp, ⟨_, c, rfl, hl, hm, by rw [flat_length f sz hsz]; simp, fun h => (by cases h), fun hn => ?_⟩, fun r hr => ?_⟩
    · have hcell : ∀ j, j < n * sz → w.cell? (a.add j) = some ((flat f (List.ofFn g)).getD j undef) := by
        intro j hj
        have hi : j / sz < n := (Nat.div_lt_iff_lt_mul hs0).2 hj
        have hk : j % sz < sz := Nat.mod_lt _ hs0
        have e1 : j = j / sz * sz + j % sz := by rw [Nat.mul_comm]; exact (Nat.div_add_mod j sz).symm
        have h2 := (World.cells?_some (hg ⟨j / sz, hi⟩).1).2.2 (j % sz) hk
        have h3 := flat_get f sz hsz (List.ofFn g) (j / sz) (by simpa using hi)
        have h4 := congrArg (fun a : Array Value => a[j % sz]?) h3
        simp only [List.getElem_ofFn] at h4
        rw [extract_get _ _ _ _ (by simp only [List.size_toArray]; rw [flat_length f sz hsz, List.length_ofFn, ← Nat.add_one_mul]; exact Nat.mul_le_mul_right _ hi), if_pos hk, ← e1] at h4
        rw [Array.getElem?_toList, ← h4, Addr.add_add, ← e1] at h2
        rw [h2]
        have hlt : j < (flat f (List.ofFn g)).length := by rw [flat_length f sz hsz, List.length_ofFn]; exact hj
        simp [List.getD, hlt]
      obtain ⟨b, o, sp⟩ := a
      have hc0 := hcell 0 (by have := Nat.mul_pos hn hs0; omega)
      have hsp : sp = none := by simpa [Addr.add] using World.cell?_spot hc0
      subst hsp
      refine ⟨b, o, rfl, ?_⟩
      rw [readAt_of_cells w b o (n * sz) _ (Nat.mul_pos hn hs0) (fun j hj => by have := hcell j hj; rwa [Addr.add_lit] at this)]
      congr 1
      apply Array.ext_getElem?
      intro i
      have hfl : (flat f (List.ofFn g)).length = n * sz := by rw [flat_length f sz hsz, List.length_ofFn]
      by_cases hi : i < n * sz
      · have hlt : i < (flat f (List.ofFn g)).length := by omega
        simp [hi, hlt]
      · have hlt : ¬ i < (flat f (List.ofFn g)).length := by omega
        rw [Array.getElem?_eq_none (by simp; omega), Array.getElem?_eq_none (by simp; omega)]
    · obtain ⟨i, rfl⟩ := List.mem_ofFn.1 hr
      exact (hg i).2
end
end Go.Proofs.Ytjedlcfeobhjnaa
