/- What Join of package wire computes. Conditions: the slices read as bytes; together they are no longer than a slice can be. -/
import Derived.Test.YtlonmghkdobhdaaCrc3
import Derived.Laws.AppendOwn
import Derived.Laws.AppendOwnNone
import Derived.Laws.MakeOwn
set_option linter.unusedSimpArgs false
set_option linter.unusedVariables false
namespace Go.Proofs.Ytlonmghkdobhdaa
open Go.RowKit

theorem info_parts {P : Program} {e : TypeId} {z : Value} {n b : Nat} (h : (P.info? e).map (fun i => (i.zero, i.size, i.bytes)) = some (some z, n, b)) : ∃ i, P.info? e = some i ∧ i.zero = some z ∧ i.size = n ∧ i.bytes = b := by
  obtain ⟨i, hi, h⟩ := Option.map_eq_some_iff.1 h
  simp at h
  exact ⟨i, hi, h.1, h.2.1, h.2.2⟩
theorem view_u8 : (Try.prog.info? 5).map (fun i => (i.zero, i.size, i.bytes)) = some (some (.int .u8 0), 1, 1) := by kernel_rfl
theorem cells_new {w : World} {b n : Nat} {cs : Array Value} (h : readAt w b 0 n = some cs) : ∀ j u, cs.toList[j]? = some u → w.cell? ((⟨b, 0, none⟩ : Addr).add j) = some u := fun j u hu => by
  rw [Addr.add_lit]; exact (readAt_range h).1 j u hu
theorem Bs.src {w : World} {ad : Option Addr} {n c : Nat} {l : List UInt8} (h : Bs w ad n c l) : (ad = none ∧ n = 0 ∧ c = 0 ∧ l = []) ∨ ∃ a, ad = some a ∧ ∀ j u, (l.map B8)[j]? = some u → w.cell? (a.add j) = some u := by
  obtain ⟨h1, h2, h3, h4, h5⟩ := h
  cases ad with
  | none =>
    have := h4 rfl
    exact .inl ⟨rfl, by omega, this, List.eq_nil_of_length_eq_zero (by omega)⟩
  | some a =>
    refine .inr ⟨a, rfl, fun j u hu => ?_⟩
    have hj : j < l.length := by
      have := (List.getElem?_eq_some_iff.1 hu).1; simpa using this
    obtain ⟨b, o, e, hr⟩ := h5 (by omega)
    cases e
    rw [Addr.add_lit]
    exact (readAt_range hr).1 j u (by simpa [bv] using hu)
theorem map_B8_one (l : List UInt8) : ∀ u ∈ l.map B8, u.oneCell' = true := by
  intro u hu; obtain ⟨x, _, rfl⟩ := List.mem_map.1 hu; rfl

/-- A slice of bytes of the call's own. -/
def ByOwn (w : World) (base : Nat) (v : Value) (l : List UInt8) : Prop := w.ownsRow base 5 1 v l.length (l.map B8)
theorem ByOwn.bs {w : World} {base : Nat} {v : Value} {l : List UInt8} (h : ByOwn w base v l) : ∃ ad c, v = .slice ad l.length c ∧ Bs w ad l.length c l := by
  by_cases h0 : 0 < l.length
  · obtain ⟨g, cap, hv, hb, hc, hm, hr, _⟩ := ownsRow_view h h0
    refine ⟨_, cap, hv, rfl, hc, by simp only [maxLen] at hm; omega, fun h => (by cases h), fun _ => ⟨g, 0, rfl, ?_⟩⟩
    rw [Nat.mul_one] at hr; exact hr
  · have hl : l = [] := List.eq_nil_of_length_eq_zero (by omega)
    subst hl
    rcases h.2 with ⟨rfl, _⟩ | ⟨g, cap, cur, rfl, _, _, hc, hm, _, _⟩
    · exact ⟨none, 0, rfl, Bs.nil w⟩
    · exact ⟨_, cap, rfl, rfl, hc, by simp only [maxLen] at hm; simpa using hm, fun h => (by cases h), fun h => absurd h (by simp)⟩
theorem ByOwn.below {w w' : World} {base : Nat} {v : Value} {l : List UInt8} (h : ByOwn w base v l) (hb : Below w.heap.size w w') : ByOwn w' base v l := ownsRow_below h hb
theorem flatten_take_le {α : Type} (L : List (List α)) (k : Nat) : (L.take k).flatten.length ≤ L.flatten.length := by
  have h : L.flatten = (L.take k).flatten ++ (L.drop k).flatten := by rw [← List.flatten_append, List.take_append_drop]
  rw [h, List.length_append]; omega

def NotNil (v : Value) : Prop := v ≠ .slice none 0 0
theorem lens_succ (L : List (List UInt8)) (k : Nat) (h : k < L.length) : (L.take (k + 1)).flatten.length = (L.take k).flatten.length + (L.getD k []).length := by
  rw [flatten_snoc L k h, List.length_append]

set_option maxHeartbeats 1600000 in
theorem join_any (ad : Option Addr) (n c : Nat) (L : List (List UInt8)) (w : World) (hL : Ps w ad n c L) (hs : L.flatten.length ≤ 1099511627776) :
    Calls Try.prog 25 #[.slice ad n c] w fun e w' => (∃ v, e = .returned v ∧ NotNil v ∧ ByOwn w' w.heap.size v L.flatten) ∧ Below w.heap.size w w' := by
  obtain ⟨i0, hi, hz, hsz, hby⟩ := info_parts view_u8
  have hn : Hid (L.length = n) := hL.1
  have hmx : n ≤ 9223372036854775807 := by have := hL.2.1; have := hL.2.2.1; omega
  have HL := Lib.hid hL
  clear hL
  obtain ⟨w1, hmk, hown1, hgr1⟩ := run_make_own (P := Try.prog) w w.heap.size 23 5 i0 _ 1 Try.underlying23 hi hz hsz   .i64 .i64 L.flatten.length (by rw [hby, Nat.one_mul]; omega) (by simp only [maxLen]; omega) (Nat.le_refl _)
  have hb1 : Below w.heap.size w w1 := (Below.refl _ _).grown hgr1 (Nat.le_refl _) (fun _ h => by cases h)
  have Hown1 : Hid (ByOwn w1 w.heap.size (.slice (some ⟨w.heap.size, 0, none⟩) 0 L.flatten.length) (L.take 0).flatten) := hown1
  clear hown1 hgr1
  have hT := flatten_take_le L
  have HT := Lib.hid hT
  clear hT
  obtain ⟨T, hT⟩ : ∃ T, L.flatten.length = T := ⟨_, rfl⟩
  rw [hT] at hs hmk Hown1 HT
  have HTT := Lib.hid hT
  clear hT
  go_enter Try.func25, Try.ntmps25
  go_wp2_with fail
  go_loop [3, 11] (fun m i => ∃ k : Nat, k ≤ n ∧ i = .int .i64 k ∧ m = .int .i64 ((L.take k).flatten.length : Nat)) (fun _ i => n - (intOf i).toNat)
  case atStart => exact ⟨0, by omega, rfl, rfl⟩
  case round =>
    obtain ⟨k, hk, rfl, rfl⟩ := hrel
    by_cases hlt : k < n
    · obtain ⟨b, o, ai, ni, ci, rfl, hcell, hbs⟩ := HL.out.at k hlt
      have hsn := lens_succ L k (by rw [hn.out]; exact hlt)
      have hle := HT.out (k + 1)
      rw [hsn, hbs.1] at hle
      have Hsn : Hid ((L.take (k + 1)).flatten.length = (L.take k).flatten.length + ni) := by show _ = _; rw [hsn, hbs.1]
      clear hsn hbs
      generalize (L.take k).flatten.length = F at *
      go_wp2
      go_round
      case rel => exact ⟨k + 1, by omega, by go_num, by rw [Hsn.out]; go_num⟩
      case measure => simp [intOf]; omega
    · obtain rfl : k = n := by omega
      have hf0 : (L.take k).flatten.length = T := by rw [List.take_of_length_le (by rw [hn.out]; exact Nat.le_refl _), HTT.out]
      rw [hf0]
      clear hf0
      go_wp2_with fail
      go_loopw [6, 24] (fun v i wr => NotNil v ∧ ∃ k' : Nat, k' ≤ k ∧ i = .int .i64 k' ∧ ByOwn wr w.heap.size v (L.take k').flatten ∧ Below w.heap.size w wr) (fun _ i _ => k - (intOf i).toNat)
      case atStart => exact ⟨(by intro h; cases h), 0, by omega, rfl, Hown1.out, hb1⟩
      case round =>
        obtain ⟨hne, k', hk', rfl, hown, hb⟩ := hrel
        have Hown := Lib.hid hown
        have Hne := Lib.hid hne
        clear hown hne
        by_cases hlt' : k' < k
        · obtain ⟨b, o, ai, ni, ci, rfl, hcell, hbs⟩ := (HL.out.below hb).at k' hlt'
          have hsn := flatten_snoc L k' (by rw [hn.out]; exact hlt')
          have hle := HT.out (k' + 1)
          rw [hsn, List.length_append] at hle
          have hni : (L.getD k' []).length = ni := hbs.1
          have Hsn := Lib.hid hsn
          clear hsn
          generalize (L.take k').flatten = F at *
          generalize L.getD k' [] = G at *
          rcases hbs.src with ⟨rfl, rfl, rfl, h0⟩ | ⟨a, rfl, hsrc⟩
          · have hsame : (L.take (k' + 1)).flatten = F := by rw [Hsn.out, h0, List.append_nil]
            have Hs := Lib.hid hsame
            clear hsame h0 hni hbs hle
            go_wp2_with (at_builtin; refine wpList_append_own_none rfl _ _ 23 rfl w.heap.size 5 i0 1 Try.underlying23 hi _ _ _ rfl Hown.out rfl ?_)
            go_roundw
            case rel => exact ⟨Hne.out, k' + 1, by omega, by go_num, by rw [Hs.out]; exact Hown.out, hb⟩
            case measure => simp [intOf]; omega
          · have Hsrc := Lib.hid hsrc
            have Hni := Lib.hid hni
            clear hsrc hni hbs
            go_wp2_with (at_builtin; refine wpList_append_own _ rfl _ _ 23 rfl w.heap.size 5 i0 _ 1 1 Try.underlying23 hi hz hsz hby rfl (by decide) _ F.length _ rfl Hown.out a ni ci (G.map B8) rfl ?c1 Hsrc.out ?c3 ?c4 ?c5 ?c6 ?_)
            case c1 => rw [List.length_map, Hni.out]; omega
            case c3 => exact map_B8_one _
            case c4 => have := Hni.out; simp only [maxLen]; omega
            case c5 => have := Hni.out; omega
            case c6 => exact hb.size
            intro v' w3 hown3 hgr hnil
            have hne3 : Hid (NotNil v') := by intro h; exact Hne.out (hnil.1 h).1
            have hb4 := Lib.hid (hb.grown hgr hb.size (fun b hbk => (Hown.out.lt b hbk).1))
            have hown4 : Hid (ByOwn w3 w.heap.size v' (L.take (k' + 1)).flatten) := by
              show ByOwn _ _ _ _
              rw [Hsn.out]
              unfold ByOwn
              rw [List.length_append, List.map_append, Hni.out]; exact hown3
            clear hown3 hgr Hown hnil Hne
            go_wp2
            go_roundw
            case rel => exact ⟨hne3.out, k' + 1, by omega, by go_num, hown4.out, hb4.out⟩
            case measure => simp [intOf]; omega
        · obtain rfl : k' = k := by omega
          have hf0 := Hown.out
          rw [List.take_of_length_le (by rw [hn.out]; exact Nat.le_refl _)] at hf0
          have hf := Lib.hid hf0
          clear hf0 Hown
          go_wp2
          go_ret
          exact ⟨⟨_, rfl, Hne.out, hf.out⟩, hb⟩
end Go.Proofs.Ytlonmghkdobhdaa
