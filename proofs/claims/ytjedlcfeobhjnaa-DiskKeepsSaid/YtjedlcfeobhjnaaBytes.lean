/- Bytes in memory: slices that read as a list of bytes, and cuts of them. No conditions on the program. -/
import Derived.Test.YtjedlcfeobhjnaaOpenG
import Derived.Deep.RegionWith
import Derived.Deep.RegionHeld3
set_option linter.unusedSimpArgs false
set_option linter.unusedVariables false
namespace Go.Proofs.Ytjedlcfeobhjnaa
open Go.RowKit

def Is64 (x : Int) : Prop := -9223372036854775808 ≤ x ∧ x ≤ 9223372036854775807
theorem ret_int {k : IntKind} {a b : Int} (h : a = b) : Ending.returned (.int k a) = .returned (.int k b) := by rw [h]
theorem bt {w w1 w2 : World} (h : Below w.heap.size w w1) (h2 : Below w1.heap.size w1 w2) : Below w.heap.size w w2 := h.trans (h2.mono h.size)
theorem ba {w w1 : World} (o : Obj) (h : Below w.heap.size w w1) : Below w.heap.size w (w1.alloc o) := h.alloc h.size o

theorem info_u8 : (Try.prog.info? 5).map (·.size) = some 1 := by kernel_rfl
@[go_sem] theorem extract_av {n : Nat} (x : Vector UInt8 n) : (av x).extract 0 n = av x := by
  apply Array.ext'; simp; exact List.take_of_length_le (by simp)
attribute [go_sem] readAt_alloc_at readAt_alloc_past canAt_alloc_at canAt_alloc_past readAt_drew canAt_drew readAt_setAt_same readAt_setAt_other canAt_setAt_other canAt_setAt setAt_size size_av
def bv (l : List UInt8) : Array Value := (l.map B8).toArray
@[simp] theorem size_bv (l : List UInt8) : (bv l).size = l.length := by simp [bv]
theorem bv_one (l : List UInt8) : ∀ v ∈ bv l, v.oneCell' = true := by
  intro v hv; simp only [bv, List.mem_toArray, List.mem_map] at hv; obtain ⟨a, _, rfl⟩ := hv; rfl
/-- A slice of bytes reads as l. -/
def BytesAt (w : World) (ad : Option Addr) (n : Nat) (l : List UInt8) : Prop :=
  l.length = n ∧ n ≤ 9223372036854775807 ∧ (0 < n → ∃ b o, ad = some ⟨b, o, none⟩ ∧ readAt w b o n = some (bv l))
theorem BytesAt.below {w w1 : World} {ad : Option Addr} {n : Nat} {l : List UInt8} (h : BytesAt w ad n l) (hb : Below w.heap.size w w1) : BytesAt w1 ad n l := by
  obtain ⟨h1, h2, h4⟩ := h
  refine ⟨h1, h2, fun h0 => ?_⟩
  obtain ⟨b, o, e, hr⟩ := h4 h0
  exact ⟨b, o, e, by rw [readAt_below hb (readAt_lt hr)]; exact hr⟩

/-- A slice of bytes reads as l; its capacity is one that a slice has. -/
def Bs (w : World) (ad : Option Addr) (n c : Nat) (l : List UInt8) : Prop :=
  l.length = n ∧ n ≤ c ∧ c ≤ 9223372036854775807 ∧ (ad = none → c = 0) ∧ (0 < n → ∃ b o, ad = some ⟨b, o, none⟩ ∧ readAt w b o n = some (bv l))
theorem Bs.below {w w1 : World} {ad : Option Addr} {n c : Nat} {l : List UInt8} (h : Bs w ad n c l) (hb : Below w.heap.size w w1) : Bs w1 ad n c l := by
  obtain ⟨h1, h2, h3, h4, h5⟩ := h
  refine ⟨h1, h2, h3, h4, fun h0 => ?_⟩
  obtain ⟨b, o, e, hr⟩ := h5 h0
  exact ⟨b, o, e, by rw [readAt_below hb (readAt_lt hr)]; exact hr⟩
theorem Bs.at {w : World} {ad : Option Addr} {n c : Nat} {l : List UInt8} (h : Bs w ad n c l) (i : Nat) (hi : i < n) :
    ∃ b o, ad = some ⟨b, o, none⟩ ∧ w.cell? ⟨b, o + i, none⟩ = some (.int .u8 ((l.getD i 0).toNat : Int)) := by
  obtain ⟨h1, _, _, _, h5⟩ := h
  obtain ⟨b, o, e, hr⟩ := h5 (by omega)
  exact ⟨b, o, e, readAt_cell hr i _ (by simp [bv, B8, List.getD, show i < l.length by omega])⟩
theorem Bs.old {w : World} {ad : Option Addr} {n c : Nat} {l : List UInt8} (h : Bs w ad n c l) : BytesAt w ad n l :=
  ⟨h.1, by have := h.2.1; have := h.2.2.1; omega, h.2.2.2.2⟩
theorem Bs.nil (w : World) : Bs w none 0 0 [] := ⟨rfl, Nat.le_refl _, by omega, fun _ => rfl, fun h => absurd h (by omega)⟩
theorem bv_extract (l : List UInt8) (i k : Nat) : (bv l).extract i (i + k) = bv ((l.drop i).take k) := by
  apply Array.ext'
  simp [bv, List.extract_eq_take_drop, List.map_take, List.map_drop]
theorem Bs.take {w : World} {b o n c : Nat} {l : List UInt8} (h : Bs w (some ⟨b, o, none⟩) n c l) (k c' : Nat) (hk : k ≤ n) (hc : k ≤ c') (hc' : c' ≤ c) : Bs w (some ⟨b, o, none⟩) k c' (l.take k) := by
  obtain ⟨h1, h2, h3, _, h5⟩ := h
  refine ⟨by simp; omega, hc, by omega, fun h => (by cases h), fun h0 => ?_⟩
  obtain ⟨b', o', e, hr⟩ := h5 (by omega)
  cases e
  refine ⟨b, o, rfl, ?_⟩
  rw [readAt_sub hr o k (Nat.le_refl _) (by omega), Nat.sub_self, bv_extract, List.drop_zero]
theorem Bs.drop {w : World} {b o n c : Nat} {l : List UInt8} (h : Bs w (some ⟨b, o, none⟩) n c l) (k : Nat) (hk : k ≤ n) : Bs w (some ⟨b, o + k, none⟩) (n - k) (c - k) (l.drop k) := by
  obtain ⟨h1, h2, h3, _, h5⟩ := h
  refine ⟨by simp; omega, by omega, by omega, fun h => (by cases h), fun h0 => ?_⟩
  obtain ⟨b', o', e, hr⟩ := h5 (by omega)
  cases e
  refine ⟨b, o + k, rfl, ?_⟩
  rw [readAt_sub hr (o + k) (n - k) (by omega) (by omega), show o + k - o = k by omega, bv_extract, List.take_of_length_le (by simp; omega)]

section
open Go.ChangeShapes Go.WideShapes Go.ChangeAt
variable {H : Type} {enc : TypeId × Value → H} {w : World} {base b0 : Nat} {r : Reach} {spare : Nat → Bool} {held : Bool} {v : Value} {d : DataW H} {p : List MemPlace}
theorem cells_u8' : Try.prog.cellsOf 5 = 1 := by kernel_rfl
theorem bytes_trod {fuel : Nat} {ad : Option Addr} {n c : Nat} {x : DataW H × List MemPlace} (hf : DataW.trod enc Try.prog w base spare held fuel 107 [.slice ad n c] = some x) : ∃ l, Bs w ad n c l := by
  rcases open_ints Try.underlying107 Try.underlying5 (by kernel_rfl) hf with ⟨hcs, _⟩ | ⟨a, len, cap, zs, hcs, _, hl, hm, hz, _, hcell, hwz⟩
  · simp at hcs
    obtain ⟨rfl, rfl, rfl⟩ := hcs
    exact ⟨[], Bs.nil w⟩
  · simp at hcs
    obtain ⟨rfl, rfl, rfl⟩ := hcs
    obtain ⟨b, o, sp⟩ := a
    refine ⟨(zs.take n).map mkU8, ?_, hl, by unfold maxLen at hm; omega, fun h => (by cases h), fun h0 => ?_⟩
    · simp
      have : n ≤ zs.length := by first | omega | (split at hz <;> omega)
      omega
    · have hn : n ≤ zs.length := by first | omega | (split at hz <;> omega)
      have hc := hcell 0 (by omega)
      have hsp : sp = none := by simpa [Addr.add] using World.cell?_spot hc
      subst hsp
      refine ⟨b, o, rfl, ?_⟩
      rw [readAt_of_cells w b o n (fun j => .int .u8 (zs.getD j 0)) h0 (fun j hj => by have := hcell j (by omega); rwa [Addr.add_lit] at this)]
      congr 1
      apply Array.ext_getElem?
      intro i
      by_cases hi : i < n
      · have hi2 : i < zs.length := by omega
        have hb := bounds_u8 (hwz zs[i] (List.getElem_mem hi2))
        have := B8_u8 zs[i] hb
        simp [bv, hi, hi2, this, List.getD]
      · simp [bv, hi]; omega
set_option maxRecDepth 100000 in
theorem open_bs (hv : Value.okWide Try.prog w r b0 107 v) (h : DataW.Trod enc Try.prog w base spare held 107 v d p) : ∃ ad n c l, v = .slice ad n c ∧ Bs w ad n c l := by
  obtain ⟨ad, n, c, rfl⟩ := okWide_slice Try.underlying107 hv
  obtain ⟨fuel, hf⟩ := h
  obtain ⟨l, hl⟩ := bytes_trod hf
  exact ⟨ad, n, c, l, rfl, hl⟩
end
end Go.Proofs.Ytjedlcfeobhjnaa
