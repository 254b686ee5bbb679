/- How arguments that are read as data are opened: arrays of bytes by value, slices of bytes. No conditions. -/
import Derived.Test.YtemjeppneahgeaaSec2
import Derived.ProofKit
import Derived.OpenShut
import Derived.ShutString
import Derived.ChangeOld
import Derived.Below
set_option linter.unusedSimpArgs false
set_option linter.unusedVariables false
namespace Go.Proofs.Ytemjeppneahgeaa
open Go.RowKit Go.ChangeShapes Go.WideShapes Go.ChangeAt

theorem bytes_of_ints {cs : Array Value} {n : Nat} (hs : cs.size = n) (h : ∀ i, i < n → ∃ z : Int, cs[i]? = some (.int .u8 z) ∧ 0 ≤ z ∧ z ≤ 255) : ∃ x : Vector UInt8 n, cs = av x := by
  refine ⟨Vector.ofFn fun i => (match cs[i.val]? with | some (.int .u8 z) => mkU8 z | _ => 0), ?_⟩
  apply Array.ext_getElem?
  intro i
  by_cases hi : i < n
  · obtain ⟨z, hz, h0, h1⟩ := h i hi
    rw [av_get _ i hi, hz]
    have := B8_u8 z ⟨h0, h1⟩
    simp only [B8] at this
    simp [hz, this]
  · simp [Array.getElem?_eq_none (show cs.size ≤ i by omega), hi]

section
variable {H : Type} {enc : TypeId × Value → H} {w : World} {base b0 : Nat} {r : Reach} {spare : Nat → Bool} {held : Bool} {v : Value} {d : DataW H} {p : List MemPlace}

theorem cells_sec : Try.prog.cellsOf 22 = 64 := by kernel_rfl
theorem cells_u8' : Try.prog.cellsOf 5 = 1 := by kernel_rfl

theorem open_sec (hv : Value.okWide Try.prog w r b0 22 v) (h : DataW.Trod enc Try.prog w base spare held 22 v d p) : ∃ x : Sec, v = .agg (av x) := by
  unfold Value.okWide at hv
  rw [Try.underlying22] at hv
  obtain ⟨cs, rfl, hsz, _⟩ := hv
  rw [cells_sec] at hsz
  obtain ⟨fuel, hf⟩ := h
  obtain ⟨xs, m, _, _, _, hl, hx⟩ := DataW.trod_array Try.underlying22 hf
  obtain ⟨x, rfl⟩ := bytes_of_ints hsz (fun i hi => by
    have h1 := hx i hi
    rw [cells_u8', Nat.mul_one] at h1
    have hi2 : i < xs.length := by omega
    rw [List.getElem?_eq_getElem hi2] at h1
    have hi3 : i < cs.size := by omega
    have e : (((Value.agg cs).cells.toList.drop i).take 1) = [cs[i]] := by
      simp only [Value.cells]
      rw [List.drop_eq_getElem_cons (by simpa using hi3)]
      simp
    rw [e] at h1
    obtain ⟨z, hz, _, wz⟩ := DataW.trod_int Try.underlying5 h1
    have hz1 : cs[i] = .int .u8 z := by simpa using hz
    exact ⟨z, by rw [Array.getElem?_eq_getElem hi3, hz1], bounds_u8 wz⟩)
  exact ⟨x, rfl⟩

theorem open_bytes (hv : Value.okWide Try.prog w r b0 27 v) (h : DataW.Trod enc Try.prog w base spare held 27 v d p) : ∃ ad n c l, v = .slice ad n c ∧ BytesAt w ad n l := by
  obtain ⟨ad, n, c, rfl⟩ := okWide_slice Try.underlying27 hv
  obtain ⟨fuel, hf⟩ := h
  rcases open_ints Try.underlying27 Try.underlying5 (by kernel_rfl) hf with ⟨hcs, _⟩ | ⟨a, len, cap, zs, hcs, _, hl, hm, hz, _, hcell, hwz⟩
  · simp [Value.cells] at hcs
    obtain ⟨rfl, rfl, rfl⟩ := hcs
    exact ⟨none, 0, 0, [], rfl, rfl, by omega, fun h => absurd h (by omega)⟩
  · simp [Value.cells] at hcs
    obtain ⟨rfl, rfl, rfl⟩ := hcs
    obtain ⟨b, o, sp⟩ := a
    refine ⟨_, n, c, (zs.take n).map mkU8, rfl, ?_, by unfold maxLen at hm; omega, fun h0 => ?_⟩
    · simp
      have : n ≤ zs.length := by first | omega | (split at hz <;> omega)
      omega
    · have hn : n ≤ zs.length := by first | omega | (split at hz <;> omega)
      have hc := hcell 0 (by omega)
      have hsp : sp = none := by simpa [Addr.add] using World.cell?_spot hc
      subst hsp
      refine ⟨b, o, rfl, ?_⟩
      rw [readAt_of_cells w b o n (fun j => .int .u8 (zs.getD j 0)) h0 (fun j hj => by have := hcell j (by omega); rwa [Addr.add_lit] at this)]
      congr 1
      apply Array.ext_getElem?
      intro i
      by_cases hi : i < n
      · have hi2 : i < zs.length := by omega
        have hb := bounds_u8 (hwz zs[i] (List.getElem_mem hi2))
        have := B8_u8 zs[i] hb
        simp [bv, hi, hi2, this, List.getD]
      · simp [bv, hi]; omega
end
end Go.Proofs.Ytemjeppneahgeaa
