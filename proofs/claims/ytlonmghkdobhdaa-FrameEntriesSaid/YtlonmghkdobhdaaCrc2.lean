/- What add, Sum of package crc compute. Conditions: the numbers fit 32 bits; the slices read as bytes. -/
import Derived.Test.YtlonmghkdobhdaaCrc1
set_option linter.unusedSimpArgs false
set_option linter.unusedVariables false
namespace Go.Proofs.Ytlonmghkdobhdaa
open Go.RowKit

theorem toNat_lt (c : UInt8) : c.toNat < 256 := c.toNat_lt
theorem xor_u32 (x y : Nat) (hx : x < 4294967296) (hy : y < 4294967296) : bits .xor .u32 (x : Int) (y : Int) = ((x ^^^ y : Nat) : Int) := u32_xor_nat x y hx hy
theorem xor_lt (x y : Nat) (hx : x < 4294967296) (hy : y < 4294967296) : x ^^^ y < 4294967296 := Nat.xor_lt_two_pow (n := 32) hx hy
theorem take_snoc {α : Type} (l : List α) (k : Nat) (d : α) (h : k < l.length) : l.take (k + 1) = l.take k ++ [l.getD k d] := by
  rw [List.take_succ_eq_append_getElem h, List.getD_eq_getElem?_getD, List.getElem?_eq_getElem h]; rfl

def Added (B : Nat) (y : Nat) (w : World) (w' : World) : Prop := ∃ w1, Below w.heap.size w w1 ∧ w' = w1.setCell ⟨B, 0, none⟩ (.int .u32 (y : Nat))

set_option maxHeartbeats 800000 in
theorem add_any (B : Nat) (ad : Option Addr) (n c : Nat) (l : List UInt8) (x : Nat) (w : World) (hx : x < 4294967296) (hB : B < w.heap.size) (hc : w.cell? ⟨B, 0, none⟩ = some (.int .u32 x)) (hf : w.frozen? ⟨B, 0, none⟩ = false) (hl : Bs w ad n c l) :
    Calls Try.prog 37 #[.pointer (some ⟨B, 0, none⟩), .slice ad n c] w fun e w' => e = .returned (.tuple #[]) ∧ Added B (upd x l) w w' := by
  have hn := hl.1
  have hmx : n ≤ 9223372036854775807 := by have := hl.2.1; have := hl.2.2.1; omega
  have Hl := Lib.hid hl
  have Hn := Lib.hid hn
  clear hl hn
  by_cases hs : n < 64
  · have d0 : decide ((n : Int) < 64) = true := by simp; omega
    go_enter Try.func37, Try.ntmps37
    go_wp2_with fail
    go_loop [4, 18] (fun y i => ∃ k : Nat, k ≤ n ∧ i = .int .i64 k ∧ y = .int .u32 (upd x (l.take k) : Nat)) (fun _ i => n - (intOf i).toNat)
    case atStart => exact ⟨0, by omega, rfl, rfl⟩
    case round =>
      obtain ⟨k, hk, rfl, rfl⟩ := hrel
      by_cases hlt : k < n
      · obtain ⟨b, o, rfl, hcell⟩ := Hl.out.at k hlt
        have hsn := take_snoc l k 0 (by rw [Hn.out]; exact hlt)
        have hb := toNat_lt (l.getD k 0)
        have hy : upd x (l.take k) < 4294967296 := upd_lt hx
        have hu := upd_snoc x (l.take k) (l.getD k 0)
        rw [← hsn] at hu
        have Hu := Lib.hid hu
        clear hsn hu
        generalize upd x (l.take k) = y at *
        generalize (l.getD k 0).toNat = z at *
        have e1 := xor_u32 y z hy (by omega)
        go_wp2_with fail
        refine (eight_any _ _ (xor_lt y z hy (by omega))).mono ?_
        rintro _ _ ⟨rfl, rfl⟩
        go_wp2
        go_round
        case rel => exact ⟨k + 1, by omega, by go_num, by rw [Hu.out]⟩
        case measure => simp [intOf]; omega
      · obtain rfl : k = n := by omega
        have hf2 : upd x (l.take k) = upd x l := by rw [List.take_of_length_le (by rw [Hn.out]; exact Nat.le_refl _)]
        rw [hf2]
        clear hf2
        go_wp2
        go_end0
        exact ⟨rfl, w, Below.refl _ _, rfl⟩
  · have d0 : decide ((n : Int) < 64) = false := by simp; omega
    go_enter Try.func37, Try.ntmps37
    go_wp2_with fail
    refine (steps_any _).mono ?_
    rintro _ w1 ⟨rfl, hb1⟩
    have hc1 := (hb1.cell (p := ⟨B, 0, none⟩) hB).trans hc
    have hf1 := (hb1.frozen (p := ⟨B, 0, none⟩) hB).trans hf
    have hB1 : B < w1.heap.size := Nat.lt_of_lt_of_le hB hb1.size
    clear hc hf
    go_wp2_with fail
    obtain ⟨w2, hw2⟩ : ∃ w2, w1.alloc (.cells tab 81) = w2 := ⟨_, rfl⟩
    have hb2 : Below w.heap.size w w2 := by rw [← hw2]; exact ba _ hb1
    have ht : Hid (readAt w2 w1.heap.size 0 256 = some tab) := by show _ = _; rw [← hw2]; simp [go_sem]
    have hc2 : w2.cell? ⟨B, 0, none⟩ = some (.int .u32 x) := by rw [← hw2]; simp [go_sem, hB1, hc1]
    have hf2 : w2.frozen? ⟨B, 0, none⟩ = false := by rw [← hw2]; simp [go_sem, hB1, hf1]
    have Hl2 := Lib.hid (Hl.out.below hb2)
    rw [hw2]
    clear hw2 hc1 hf1 Hl
    go_loop [4, 31] (fun y i => ∃ k : Nat, k ≤ n ∧ i = .int .i64 k ∧ y = .int .u32 (upd x (l.take k) : Nat)) (fun _ i => n - (intOf i).toNat)
    case atStart => exact ⟨0, by omega, rfl, rfl⟩
    case round =>
      obtain ⟨k, hk, rfl, rfl⟩ := hrel
      by_cases hlt : k < n
      · obtain ⟨b, o, rfl, hcell⟩ := Hl2.out.at k hlt
        have hsn := take_snoc l k 0 (by rw [Hn.out]; exact hlt)
        have hb := toNat_lt (l.getD k 0)
        have hy : upd x (l.take k) < 4294967296 := upd_lt hx
        have hu := upd_snoc x (l.take k) (l.getD k 0)
        rw [← hsn, eight8_table] at hu
        have Hu := Lib.hid hu
        clear hsn hu
        generalize upd x (l.take k) = y at *
        generalize (l.getD k 0).toNat = z at *
        have hx8 : y % 256 ^^^ z < 256 := Nat.xor_lt_two_pow (n := 8) (by omega) (by omega)
        have e1 : bits .xor .u8 ((y : Int) % 256) (z : Int) = ((y % 256 ^^^ z : Nat) : Int) := by
          have := u8_xor_nat (y % 256) z (by omega) (by omega)
          exact this
        have ht1 := readAt_cell ht.out _ _ (tab_get _ hx8)
        rw [Nat.zero_add] at ht1
        have h8 : eight8 (y % 256 ^^^ z) < 4294967296 := eight8_lt (by omega)
        generalize eight8 (y % 256 ^^^ z) = q at *
        generalize y % 256 ^^^ z = t at *
        have e2 : bits .xor .u32 ((y : Int) / 256) (q : Int) = ((y / 256 ^^^ q : Nat) : Int) := by
          have := xor_u32 (y / 256) q (by omega) (by omega)
          exact this
        go_wp2
        go_round
        case rel => exact ⟨k + 1, by omega, by go_num, by rw [Hu.out]⟩
        case measure => simp [intOf]; omega
      · obtain rfl : k = n := by omega
        have hf2 : upd x (l.take k) = upd x l := by rw [List.take_of_length_le (by rw [Hn.out]; exact Nat.le_refl _)]
        rw [hf2]
        clear hf2
        go_wp2
        go_end0
        exact ⟨rfl, w2, hb2, rfl⟩

/-! ### a register -/
def RegAt (w : World) (B x : Nat) : Prop := readAt w B 0 1 = some #[.int .u32 (x : Nat)] ∧ canAt w B 0 1 = true
theorem RegAt.cell {w : World} {B x : Nat} (h : RegAt w B x) : w.cell? ⟨B, 0, none⟩ = some (.int .u32 (x : Nat)) := readAt_cell h.1 0 _ rfl
theorem RegAt.free {w : World} {B x : Nat} (h : RegAt w B x) : w.frozen? ⟨B, 0, none⟩ = false := canAt_cell h.2 0
theorem RegAt.lt {w : World} {B x : Nat} (h : RegAt w B x) : B < w.heap.size := readAt_lt h.1
theorem RegAt.below {w w1 : World} {B x : Nat} (h : RegAt w B x) (hb : Below w.heap.size w w1) : RegAt w1 B x :=
  ⟨by rw [readAt_below hb h.lt]; exact h.1, by rw [canAt_below hb h.lt]; exact h.2⟩
theorem RegAt.new (w : World) (x : Nat) (t : TypeId) : RegAt (w.alloc (.cells #[.int .u32 (x : Nat)] t)) w.heap.size x := ⟨by simp [go_sem], by simp [go_sem]⟩
theorem RegAt.set {w w' : World} {B x y : Nat} (h : RegAt w B x) (ha : Added B y w w') : RegAt w' B y := by
  obtain ⟨w1, hb, rfl⟩ := ha
  have h1 := h.below hb
  rw [setCell_setAt h1.2]
  exact ⟨readAt_setAt_same _ _ _ _ _ rfl h1.2, by rw [canAt_setAt _ _ _ _ _ _ _ (by exact h1.2)]; exact h1.2⟩
theorem Added.below {w0 w w' : World} {B x y : Nat} (hb0 : Below w0.heap.size w0 w) (ha : Added B y w w') (hB : w0.heap.size ≤ B) (h : RegAt w B x) : Below w0.heap.size w0 w' := by
  obtain ⟨w1, hb, rfl⟩ := ha
  have h1 := h.below hb
  rw [setCell_setAt h1.2]
  exact setAt_below (bt hb0 hb) hB _ _
theorem add_reg (B : Nat) (ad : Option Addr) (n c : Nat) (l : List UInt8) (x : Nat) (w : World) (hx : x < 4294967296) (h : RegAt w B x) (hl : Bs w ad n c l) :
    Calls Try.prog 37 #[.pointer (some ⟨B, 0, none⟩), .slice ad n c] w fun e w' => e = .returned (.tuple #[]) ∧ Added B (upd x l) w w' :=
  add_any B ad n c l x w hx h.lt h.cell h.free hl

/-! ### slices of slices of bytes -/
def Ps (w : World) (ad : Option Addr) (n c : Nat) (L : List (List UInt8)) : Prop :=
  L.length = n ∧ n ≤ c ∧ c ≤ 9223372036854775807 ∧ ∀ i, i < n → ∃ b o ai ni ci, ad = some ⟨b, o, none⟩ ∧ readAt w b (o + i) 1 = some #[.slice ai ni ci] ∧ Bs w ai ni ci (L.getD i [])
theorem Ps.below {w w1 : World} {ad : Option Addr} {n c : Nat} {L : List (List UInt8)} (h : Ps w ad n c L) (hb : Below w.heap.size w w1) : Ps w1 ad n c L := by
  obtain ⟨h1, h2, h3, h4⟩ := h
  refine ⟨h1, h2, h3, fun i hi => ?_⟩
  obtain ⟨b, o, ai, ni, ci, e, hr, hbs⟩ := h4 i hi
  exact ⟨b, o, ai, ni, ci, e, by rw [readAt_below hb (readAt_lt hr)]; exact hr, hbs.below hb⟩
theorem Ps.at {w : World} {ad : Option Addr} {n c : Nat} {L : List (List UInt8)} (h : Ps w ad n c L) (i : Nat) (hi : i < n) :
    ∃ b o ai ni ci, ad = some ⟨b, o, none⟩ ∧ w.cell? ⟨b, o + i, none⟩ = some (.slice ai ni ci) ∧ Bs w ai ni ci (L.getD i []) := by
  obtain ⟨b, o, ai, ni, ci, e, hr, hbs⟩ := h.2.2.2 i hi
  exact ⟨b, o, ai, ni, ci, e, by have := readAt_cell hr 0 _ rfl; simpa using this, hbs⟩
theorem flatten_snoc {α : Type} (L : List (List α)) (k : Nat) (h : k < L.length) : (L.take (k + 1)).flatten = (L.take k).flatten ++ L.getD k [] := by
  rw [take_snoc L k [] h]; simp

theorem compl_u32 (y : Nat) (hy : y < 4294967296) : bits .xor .u32 IntKind.u32.max (y : Int) = ((4294967295 - y : Nat) : Int) := by
  have h := u32_xor_nat 4294967295 y (by omega) hy
  have e : 4294967295 ^^^ y = 4294967295 - y := by
    apply Nat.eq_of_testBit_eq
    intro i
    rw [show 4294967295 = 2 ^ 32 - 1 by rfl, Nat.testBit_xor, Nat.testBit_two_pow_sub_one, show 2 ^ 32 - 1 - y = 2 ^ 32 - (y + 1) by omega, Nat.testBit_two_pow_sub_succ hy]
    by_cases hi : i < 32
    · simp [hi]
    · have : y.testBit i = false := Nat.testBit_lt_two_pow (Nat.lt_of_lt_of_le hy (by rw [show 4294967296 = 2 ^ 32 by rfl]; exact Nat.pow_le_pow_right (by omega) (by omega)))
      simp [hi, this]
  rw [e] at h
  exact h
theorem RegAt.ones (w : World) (t : TypeId) : RegAt (w.alloc (.cells #[.int .u32 4294967295] t)) w.heap.size 4294967295 := RegAt.new w 4294967295 t

set_option maxHeartbeats 800000 in
theorem sum_any (ad : Option Addr) (n c : Nat) (L : List (List UInt8)) (w : World) (hL : Ps w ad n c L) :
    Calls Try.prog 27 #[.slice ad n c] w fun e w' => e = .returned (.int .u32 (csum L.flatten : Nat)) ∧ Below w.heap.size w w' := by
  have hn : Hid (L.length = n) := hL.1
  have hmx : n ≤ 9223372036854775807 := by have := hL.2.1; have := hL.2.2.1; omega
  have HL := Lib.hid hL
  have hR := Lib.hid (RegAt.ones w 67)
  have hB := Lib.hid (ba (.cells #[.int .u32 4294967295] 67) (Below.refl w.heap.size w))
  clear hL
  go_enter Try.func27, Try.ntmps27
  go_wp2_with fail
  generalize w.alloc (.cells #[.int .u32 4294967295] 67) = w0 at *
  go_loopw [10] (fun i wr => ∃ k : Nat, k ≤ n ∧ i = .int .i64 k ∧ RegAt wr w.heap.size (upd 4294967295 (L.take k).flatten) ∧ Below w.heap.size w wr) (fun i _ => n - (intOf i).toNat)
  case atStart => exact ⟨0, by omega, rfl, hR.out, hB.out⟩
  case round =>
    obtain ⟨k, hk, rfl, hr, hb⟩ := hrel
    have Hr := Lib.hid hr
    clear hr hR hB
    by_cases hlt : k < n
    · obtain ⟨b, o, ai, ni, ci, rfl, hcell, hbs⟩ := (HL.out.below hb).at k hlt
      have hsn := flatten_snoc L k (by rw [hn.out]; exact hlt)
      have hu := upd_append 4294967295 (L.take k).flatten (L.getD k [])
      rw [← hsn] at hu
      have Hu := Lib.hid hu
      clear hsn hu
      have hy : upd 4294967295 (L.take k).flatten < 4294967296 := upd_lt (by omega)
      generalize upd 4294967295 (L.take k).flatten = y at *
      go_wp2_with fail
      refine (add_reg w.heap.size ai ni ci (L.getD k []) y _ hy Hr.out hbs).mono ?_
      rintro _ w2 ⟨rfl, ha⟩
      have hr2 := Lib.hid (Hr.out.set ha)
      have hb2 := Lib.hid (ha.below hb (Nat.le_refl _) Hr.out)
      clear ha Hr hcell hbs
      go_wp2
      go_roundw
      case rel => exact ⟨k + 1, by omega, by go_num, by rw [Hu.out]; exact hr2.out, hb2.out⟩
      case measure => simp [intOf]; omega
    · obtain rfl : k = n := by omega
      have hf : csum L.flatten = 4294967295 - upd 4294967295 (L.take k).flatten := by rw [List.take_of_length_le (by rw [hn.out]; exact Nat.le_refl _)]; rfl
      have hcell := Hr.out.cell
      have hy : upd 4294967295 (L.take k).flatten < 4294967296 := upd_lt (by omega)
      have Hf := Lib.hid hf
      clear hf
      generalize upd 4294967295 (L.take k).flatten = y at *
      have hc1 := compl_u32 y hy
      go_wp2
      go_ret
      exact ⟨by rw [Hf.out]; rfl, hb⟩

end Go.Proofs.Ytlonmghkdobhdaa
