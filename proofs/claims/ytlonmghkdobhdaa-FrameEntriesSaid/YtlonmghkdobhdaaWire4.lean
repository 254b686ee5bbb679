/- Slices of one or two parts, numbers of four bytes, literals of bytes, own slices that are written. Lemmas; no conditions on the program. -/
import Derived.Test.YtlonmghkdobhdaaWire3
import Derived.Lib.SlBytesConst
set_option linter.unusedSimpArgs false
set_option linter.unusedVariables false
namespace Go.Proofs.Ytlonmghkdobhdaa
open Go.RowKit

theorem Ps.one {w : World} {B : Nat} {ad : Option Addr} {n c : Nat} {l : List UInt8} (hr : readAt w B 0 1 = some #[.slice ad n c]) (hl : Bs w ad n c l) : Ps w (some ⟨B, 0, none⟩) 1 1 [l] := by
  refine ⟨rfl, Nat.le_refl _, by omega, fun i hi => ?_⟩
  obtain rfl : i = 0 := by omega
  exact ⟨B, 0, ad, n, c, rfl, hr, hl⟩
theorem Ps.two {w : World} {B : Nat} {ad bd : Option Addr} {n c m c2 : Nat} {l l2 : List UInt8} (hr : readAt w B 0 2 = some #[.slice ad n c, .slice bd m c2]) (hl : Bs w ad n c l) (hl2 : Bs w bd m c2 l2) : Ps w (some ⟨B, 0, none⟩) 2 2 [l, l2] := by
  refine ⟨rfl, Nat.le_refl _, by omega, fun i hi => ?_⟩
  have h : i = 0 ∨ i = 1 := by omega
  rcases h with rfl | rfl
  · exact ⟨B, 0, ad, n, c, rfl, readAt_sub hr 0 1 (by omega) (by omega), hl⟩
  · exact ⟨B, 0, bd, m, c2, rfl, readAt_sub hr 1 1 (by omega) (by omega), hl2⟩
theorem csum_lt (l : List UInt8) : csum l < 4294967296 := by unfold csum; omega

theorem be_four (x : Nat) : be 4 x = [UInt8.ofNat (x / 16777216), UInt8.ofNat (x / 65536), UInt8.ofNat (x / 256), UInt8.ofNat x] := by
  simp [be, List.range, List.range.loop]
theorem nb_be4 (x : Nat) (h : x < 4294967296) : nb (be 4 x) = x := by
  rw [be_four]
  simp only [nb, List.foldl_cons, List.foldl_nil, UInt8.toNat_ofNat']
  omega
theorem nb_inj4 (l : List UInt8) (h : l.length = 4) (x : Nat) (hx : x < 4294967296) : nb l = x ↔ l = be 4 x := by
  constructor
  · intro e
    match l, h with
    | [a, b, c, d], _ =>
      rw [be_four]
      have h1 := a.toNat_lt; have h2 := b.toNat_lt; have h3 := c.toNat_lt; have h4 := d.toNat_lt
      simp only [nb, List.foldl_cons, List.foldl_nil] at e
      have e1 : a = UInt8.ofNat (x / 16777216) := UInt8.toNat_inj.1 (by rw [UInt8.toNat_ofNat']; omega)
      have e2 : b = UInt8.ofNat (x / 65536) := UInt8.toNat_inj.1 (by rw [UInt8.toNat_ofNat']; omega)
      have e3 : c = UInt8.ofNat (x / 256) := UInt8.toNat_inj.1 (by rw [UInt8.toNat_ofNat']; omega)
      have e4 : d = UInt8.ofNat x := UInt8.toNat_inj.1 (by rw [UInt8.toNat_ofNat']; omega)
      rw [e1, e2, e3, e4]
  · rintro rfl; exact nb_be4 x hx
theorem B8_of (y : Nat) : B8 (UInt8.ofNat y) = .int .u8 ((y : Int) % 256) := by
  simp only [B8, Value.int.injEq, true_and, UInt8.toNat_ofNat']
  omega
theorem Bs.lit {w : World} {B : Nat} {l : List UInt8} (n : Nat) (hn : l.length = n) (hm : n ≤ 4096) (hr : readAt w B 0 n = some (bv l)) : Bs w (some ⟨B, 0, none⟩) n n l :=
  ⟨hn, Nat.le_refl _, by omega, fun h => (by cases h), fun _ => ⟨B, 0, rfl, hr⟩⟩
theorem Ps.none (w : World) : Ps w none 0 0 [] := ⟨rfl, Nat.le_refl _, by omega, fun i hi => absurd hi (by omega)⟩

@[go_sem] theorem run_conv_const (w : World) (C : Array Value) (b n c : Nat) (h : b = w.heap.size) :
    (convert 23 23 (.slice (some ⟨b, 0, none⟩) n c)).run Try.prog (w.alloc (.cells C 5)) = .ok (.slice (some ⟨b, 0, none⟩) n c) (w.alloc (.cells C 5 (C.size, C.size + 1))) := by
  subst h
  exact Lib.run_convert_bytes_const (P := Try.prog) w 23 5 C n c Try.underlying23 Try.underlying5

theorem ByOwn.view {w : World} {base : Nat} {v : Value} {l : List UInt8} (h : ByOwn w base v l) (h0 : 0 < l.length) : ∃ g c, v = .slice (some ⟨g, 0, none⟩) l.length c ∧ base ≤ g ∧ l.length ≤ c ∧ c ≤ 9223372036854775807 ∧ readAt w g 0 l.length = some (bv l) ∧ canAt w g 0 l.length = true := by
  obtain ⟨g, cap, hv, hb, hc, hm, hr, hk⟩ := ownsRow_view h h0
  rw [Nat.mul_one] at hr hk
  exact ⟨g, cap, hv, hb, hc, by simp only [maxLen] at hm; omega, hr, hk⟩
theorem ByOwn.above {w : World} {base : Nat} {v : Value} {l : List UInt8} (h : ByOwn w base v l) : ∃ ad c, v = .slice ad l.length c ∧ Bs w ad l.length c l ∧ ∀ b o sp, ad = some ⟨b, o, sp⟩ → base ≤ b := by
  obtain ⟨ad, c, rfl, hb⟩ := h.bs
  refine ⟨ad, c, rfl, hb, fun b o sp e => ?_⟩
  subst e
  exact (h.lt b rfl).1
theorem OnlyB.bs' {B : Nat} {w w' : World} (h : OnlyB B w w') {ad : Option Addr} {n c : Nat} {l : List UInt8} (hg : ∀ b o sp, ad = some ⟨b, o, sp⟩ → b ≠ B) (hl : Bs w ad n c l) : Bs w' ad n c l := by
  obtain ⟨h1, h2, h3, h4, h5⟩ := hl
  refine ⟨h1, h2, h3, h4, fun h0 => ?_⟩
  obtain ⟨b, o', e, hr⟩ := h5 h0
  exact ⟨b, o', e, by rw [h.readAt _ _ _ (hg b o' _ e)]; exact hr⟩
theorem B8_inc (x : UInt8) : Value.int .u8 (((x.toNat : Int) + 1) % 256) = B8 (x + 1) := by
  simp only [B8, Value.int.injEq, true_and, UInt8.toNat_add]
  have : (1 : UInt8).toNat = 1 := rfl
  rw [this]; omega
end Go.Proofs.Ytlonmghkdobhdaa
