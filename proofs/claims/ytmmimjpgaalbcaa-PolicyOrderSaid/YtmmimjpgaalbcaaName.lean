/- What Same of package name and Same, Few of its reference compute. Conditions: the slices of words read as words. -/
import Derived.Test.YtmmimjpgaalbcaaTimesP2
import Derived.Test.YtmmimjpgaalbcaaSlices
import Derived.Deep.QuietTactic
set_option linter.unusedSimpArgs false
set_option linter.unusedVariables false
namespace Go.Proofs.Ytmmimjpgaalbcaa
open Go.RowKit

theorem bt {w w1 w2 : World} (h : Below w.heap.size w w1) (h2 : Below w1.heap.size w1 w2) : Below w.heap.size w w2 := h.trans (h2.mono h.size)
theorem ba {w w1 : World} (o : Obj) (h : Below w.heap.size w w1) : Below w.heap.size w (w1.alloc o) := h.alloc h.size o

/-- A slice of strings that reads as L. -/
def StrsAt (w : World) (ad : Option Addr) (n c : Nat) (L : List ByteArray) : Prop := L.length = n ∧ RdS w (.slice ad n c) n 1 (L.map Value.string)
theorem StrsAt.below {w w' : World} {ad : Option Addr} {n c : Nat} {L : List ByteArray} (h : StrsAt w ad n c L) (hb : Below w.heap.size w w') : StrsAt w' ad n c L := ⟨h.1, h.2.below hb⟩
theorem StrsAt.max {w : World} {ad : Option Addr} {n c : Nat} {L : List ByteArray} (h : StrsAt w ad n c L) : n ≤ 9223372036854775807 := by
  obtain ⟨_, ad', cap, e, h1, h2, _⟩ := h
  simp only [maxLen] at h2; omega
theorem StrsAt.at {w : World} {ad : Option Addr} {n c : Nat} {L : List ByteArray} (h : StrsAt w ad n c L) (i : Nat) (hi : i < n) :
    ∃ b o, ad = some ⟨b, o, none⟩ ∧ w.cell? ⟨b, o + i, none⟩ = some (.string (L.getD i ByteArray.empty)) := by
  obtain ⟨hl, h⟩ := h
  obtain ⟨b, o, cap, e, _, _, hr⟩ := h.at i hi
  simp only [Value.slice.injEq, true_and] at e
  refine ⟨b, o, e.1, ?_⟩
  have := readAt_cell hr 0 (.string (L.getD i ByteArray.empty)) (by
    rw [extract_get _ _ _ _ (by simp; omega)]
    simp [List.getD, show i < L.length by omega])
  simpa using this

theorem list_same {α : Type} {A B : List α} (h : A.length = B.length) (k : Nat) (hk : ∀ j, j < k → A[j]? = B[j]?) (hall : A.length ≤ k) : A = B := by
  apply List.ext_getElem?
  intro i
  by_cases hi : i < k
  · exact hk i hi
  · rw [List.getElem?_eq_none (by omega), List.getElem?_eq_none (by omega)]

set_option maxHeartbeats 800000 in
theorem equal_any (ad bd : Option Addr) (n m c c2 : Nat) (A B : List ByteArray) (w : World) (ha : StrsAt w ad n c A) (hb : StrsAt w bd m c2 B) :
    Calls Try.prog 34 #[.slice ad n c, .slice bd m c2] w fun e w' => e = .returned (.bool (decide (A.map ByteArray.toList = B.map ByteArray.toList))) ∧ Below w.heap.size w w' := by
  have hmx := ha.max
  by_cases h : n = m
  · subst h
    have Ha := Lib.hid ha
    have Hb := Lib.hid hb
    have HA := Lib.hid ha.1
    have HB := Lib.hid hb.1
    clear ha hb
    go_enter Try.func34, Try.ntmps34
    go_wp2
    go_loopw [13] (fun i wr => ∃ k : Nat, k ≤ n ∧ i = .int .i64 k ∧ Hid (∀ j, j < k → (A.map ByteArray.toList)[j]? = (B.map ByteArray.toList)[j]?) ∧ Below w.heap.size w wr) (fun i _ => n - (intOf i).toNat)
    case atStart => exact ⟨0, Nat.zero_le _, rfl, fun j hj => absurd hj (by omega), Below.refl _ _⟩
    case round =>
      obtain ⟨k, hk, rfl, hsame, hbw⟩ := hrel
      by_cases hlt : k < n
      · obtain ⟨b1, o1, rfl, h1⟩ := (Ha.out.below hbw).at k hlt
        obtain ⟨b2, o2, rfl, h2⟩ := (Hb.out.below hbw).at k hlt
        have hga : A[k]? = some (A.getD k ByteArray.empty) := by rw [List.getD_eq_getElem?_getD, List.getElem?_eq_getElem (by rw [HA.out]; exact hlt)]; rfl
        have hgb : B[k]? = some (B.getD k ByteArray.empty) := by rw [List.getD_eq_getElem?_getD, List.getElem?_eq_getElem (by rw [HB.out]; exact hlt)]; rfl
        have Hga := Lib.hid hga
        have Hgb := Lib.hid hgb
        clear hga hgb
        generalize A.getD k ByteArray.empty = x at *
        generalize B.getD k ByteArray.empty = y at *
        by_cases hxy : x.toList = y.toList
        · have hd : (x.toList == y.toList) = true := by simpa using hxy
          have Hxy := Lib.hid hxy
          clear hxy
          go_wp2_with fail
          go_region
          go_wp2
          go_roundw
          case rel => exact ⟨k + 1, by omega, by go_num, fun j hj => by
            rcases Nat.lt_or_eq_of_le (Nat.lt_succ_iff.1 hj) with h | h
            · exact hsame.out j h
            · subst h; rw [List.getElem?_map, List.getElem?_map, Hga.out, Hgb.out]; exact congrArg some Hxy.out, hbw.drew⟩
          case measure => simp [intOf]; omega
        · have hd : (x.toList == y.toList) = false := by simpa using hxy
          have hfin : decide (A.map ByteArray.toList = B.map ByteArray.toList) = false := by
            rw [decide_eq_false_iff_not]; intro e
            have h1 := congrArg (fun l => l[k]?) e
            simp only [List.getElem?_map, Hga.out, Hgb.out, Option.map_some, Option.some.injEq] at h1
            exact hxy h1
          have Hfin := Lib.hid hfin; clear hfin hxy
          go_wp2_with fail
          go_region
          go_wp2
          go_ret
          exact ⟨by rw [Hfin.out]; rfl, hbw.drew⟩
      · obtain rfl : k = n := by omega
        have hfin : decide (A.map ByteArray.toList = B.map ByteArray.toList) = true := by
          rw [decide_eq_true_iff]; exact list_same (by rw [List.length_map, List.length_map, HA.out, HB.out]) k hsame.out (by rw [List.length_map, HA.out]; exact Nat.le_refl _)
        have Hfin := Lib.hid hfin; clear hfin
        go_wp2
        go_ret
        exact ⟨by rw [Hfin.out]; rfl, hbw⟩
  · have hne : ((n : Int) != (m : Int)) = true := by simp; omega
    have hf : decide (A.map ByteArray.toList = B.map ByteArray.toList) = false := by rw [decide_eq_false_iff_not]; intro e; apply h; rw [← ha.1, ← hb.1]; have := congrArg List.length e; simpa using this
    rw [hf]
    clear ha hb h hf
    go_enter Try.func34, Try.ntmps34
    go_wp2
    go_ret
    exact ⟨rfl, Below.refl _ _⟩

/-- The same name. -/
def nsame (r q : ByteArray) (A B : List ByteArray) : Bool := (r.toList == q.toList) && decide (A.map ByteArray.toList = B.map ByteArray.toList)

set_option maxHeartbeats 400000 in
theorem nsame_any (r q : ByteArray) (ad bd : Option Addr) (n m c c2 : Nat) (A B : List ByteArray) (w : World) (ha : StrsAt w ad n c A) (hb : StrsAt w bd m c2 B) :
    Calls Try.prog 22 #[.agg #[.string r, .slice ad n c], .agg #[.string q, .slice bd m c2]] w fun e w' => e = .returned (.bool (nsame r q A B)) ∧ Below w.heap.size w w' := by
  by_cases h : r.toList = q.toList
  · have hd : (r.toList == q.toList) = true := by simpa using h
    have Ha := Lib.hid ha
    have Hb := Lib.hid hb
    have Hn : Hid (nsame r q A B = decide (A.map ByteArray.toList = B.map ByteArray.toList)) := by show _ = _; unfold nsame; rw [hd, Bool.true_and]
    clear ha hb h
    rw [Hn.out]
    have hb0 := ba (.cells #[.string q, .slice bd m c2] 24) (ba (.cells #[.string r, .slice ad n c] 24) (Below.refl _ w))
    go_enter Try.func22, Try.ntmps22
    go_wp2_with fail
    refine (equal_any ad bd n m c c2 A B _ (Ha.out.below hb0) (Hb.out.below hb0)).mono ?_
    rintro _ w2 ⟨rfl, hb2⟩
    go_wp2
    go_ret
    exact ⟨rfl, bt hb0 hb2⟩
  · have hd : (r.toList == q.toList) = false := by simpa using h
    have Hn : Hid (nsame r q A B = false) := by show _ = _; unfold nsame; rw [hd, Bool.false_and]
    clear ha hb h
    rw [Hn.out]
    go_enter Try.func22, Try.ntmps22
    go_wp2
    go_ret
    exact ⟨rfl, ba _ (ba _ (Below.refl _ _))⟩

set_option maxHeartbeats 800000 in
theorem rsame_any (r q : ByteArray) (ad bd : Option Addr) (n m c c2 : Nat) (A B : List ByteArray) (w : World) (ha : StrsAt w ad n c A) (hb : StrsAt w bd m c2 B) :
    Calls Try.prog 26 #[.agg #[.string r, .slice ad n c], .agg #[.string q, .slice bd m c2]] w fun e w' => e = .returned (.bool (nsame r q A B)) ∧ Below w.heap.size w w' := by
  have hmx := ha.max
  by_cases h : r.toList = q.toList
  · have hd : (r.toList == q.toList) = true := by simpa using h
    have Hn : Hid (nsame r q A B = decide (A.map ByteArray.toList = B.map ByteArray.toList)) := by show _ = _; unfold nsame; rw [hd, Bool.true_and]
    rw [Hn.out]
    clear h Hn
    by_cases hnm : n = m
    · subst hnm
      have Ha := Lib.hid ha
      have Hb := Lib.hid hb
      have HA := Lib.hid ha.1
      have HB := Lib.hid hb.1
      clear ha hb
      have hb0 := ba (.cells #[.string q, .slice bd n c2] 24) (ba (.cells #[.string r, .slice ad n c] 24) (Below.refl _ w))
      go_enter Try.func26, Try.ntmps26
      go_wp2_with fail
      obtain ⟨w0, hw0⟩ : ∃ w0, (w.alloc (.cells #[.string r, .slice ad n c] 24)).alloc (.cells #[.string q, .slice bd n c2] 24) = w0 := ⟨_, rfl⟩
      have g1 : Hid (w0.cell? ⟨w.heap.size, 1, none⟩ = some (.slice ad n c)) := by show _ = _; rw [← hw0]; simp [go_sem]
      have g2 : Hid (w0.cell? ⟨w.heap.size + 1, 1, none⟩ = some (.slice bd n c2)) := by show _ = _; rw [← hw0]; simp [go_sem]
      have hs0 : w.heap.size + 1 < w0.heap.size := by rw [← hw0]; simp
      rw [hw0] at hb0 ⊢
      clear hw0
      go_loopw [5] (fun i wr => ∃ k : Nat, k ≤ n ∧ i = .int .i64 k ∧ Hid (∀ j, j < k → (A.map ByteArray.toList)[j]? = (B.map ByteArray.toList)[j]?) ∧ Below w0.heap.size w0 wr) (fun i _ => n - (intOf i).toNat)
      case atStart => exact ⟨0, Nat.zero_le _, rfl, fun j hj => absurd hj (by omega), Below.refl _ _⟩
      case round =>
        obtain ⟨k, hk, rfl, hsame, hbr⟩ := hrel
        have hbw := bt hb0 hbr
        have e1 : wr.cell? ⟨w.heap.size, 1, none⟩ = some (.slice ad n c) := (hbr.cell (p := ⟨w.heap.size, 1, none⟩) (show w.heap.size < _ by omega)).trans g1.out
        have e2 : wr.cell? ⟨w.heap.size + 1, 1, none⟩ = some (.slice bd n c2) := (hbr.cell (p := ⟨w.heap.size + 1, 1, none⟩) hs0).trans g2.out
        by_cases hlt : k < n
        · obtain ⟨b1, o1, rfl, h1⟩ := (Ha.out.below hbw).at k hlt
          obtain ⟨b2, o2, rfl, h2⟩ := (Hb.out.below hbw).at k hlt
          have hga : A[k]? = some (A.getD k ByteArray.empty) := by rw [List.getD_eq_getElem?_getD, List.getElem?_eq_getElem (by rw [HA.out]; exact hlt)]; rfl
          have hgb : B[k]? = some (B.getD k ByteArray.empty) := by rw [List.getD_eq_getElem?_getD, List.getElem?_eq_getElem (by rw [HB.out]; exact hlt)]; rfl
          have Hga := Lib.hid hga
          have Hgb := Lib.hid hgb
          clear hga hgb
          generalize A.getD k ByteArray.empty = x at *
          generalize B.getD k ByteArray.empty = y at *
          by_cases hxy : x.toList = y.toList
          · have hd : (x.toList == y.toList) = true := by simpa using hxy
            have Hxy := Lib.hid hxy
            clear hxy
            go_wp2_with fail
            go_region
            go_wp2
            go_roundw
            case rel => exact ⟨k + 1, by omega, by go_num, fun j hj => by
              rcases Nat.lt_or_eq_of_le (Nat.lt_succ_iff.1 hj) with h | h
              · exact hsame.out j h
              · subst h; rw [List.getElem?_map, List.getElem?_map, Hga.out, Hgb.out]; exact congrArg some Hxy.out, hbr.drew⟩
            case measure => simp [intOf]; omega
          · have hd : (x.toList == y.toList) = false := by simpa using hxy
            have hfin : decide (A.map ByteArray.toList = B.map ByteArray.toList) = false := by
              rw [decide_eq_false_iff_not]; intro e
              have h1 := congrArg (fun l => l[k]?) e
              simp only [List.getElem?_map, Hga.out, Hgb.out, Option.map_some, Option.some.injEq] at h1
              exact hxy h1
            have Hfin := Lib.hid hfin; clear hfin hxy
            go_wp2_with fail
            go_region
            go_wp2
            go_ret
            exact ⟨by rw [Hfin.out]; rfl, hbw.drew⟩
        · obtain rfl : k = n := by omega
          have hfin : decide (A.map ByteArray.toList = B.map ByteArray.toList) = true := by
            rw [decide_eq_true_iff]; exact list_same (by rw [List.length_map, List.length_map, HA.out, HB.out]) k hsame.out (by rw [List.length_map, HA.out]; exact Nat.le_refl _)
          have Hfin := Lib.hid hfin; clear hfin
          go_wp2
          go_ret
          exact ⟨by rw [Hfin.out]; rfl, hbw⟩
    · have hne : ((n : Int) != (m : Int)) = true := by simp; omega
      have hf : decide (A.map ByteArray.toList = B.map ByteArray.toList) = false := by rw [decide_eq_false_iff_not]; intro e; apply hnm; rw [← ha.1, ← hb.1]; have := congrArg List.length e; simpa using this
      rw [hf]
      clear ha hb hnm hf
      go_enter Try.func26, Try.ntmps26
      go_wp2
      go_ret
      exact ⟨rfl, ba _ (ba _ (Below.refl _ _))⟩
  · have hd : (r.toList == q.toList) = false := by simpa using h
    have Hn : Hid (nsame r q A B = false) := by show _ = _; unfold nsame; rw [hd, Bool.false_and]
    clear ha hb h
    rw [Hn.out]
    go_enter Try.func26, Try.ntmps26
    go_wp2
    go_ret
    exact ⟨rfl, ba _ (ba _ (Below.refl _ _))⟩

def IsBool (e : Ending) : Prop := ∃ b, e = .returned (.bool b)
/-- Few answers something, and changes nothing. -/
theorem few_any (r : ByteArray) (ad : Option Addr) (n c : Nat) (A : List ByteArray) (w : World) (ha : StrsAt w ad n c A) :
    Calls Try.prog 7 #[.agg #[.string r, .slice ad n c]] w fun e w' => IsBool e ∧ Below w.heap.size w w' := by
  have hmx := ha.max
  have Ha := Lib.hid ha
  have HA := Lib.hid ha.1
  clear ha
  have hb0 := ba (.cells #[.string r, .slice ad n c] 24) (Below.refl _ w)
  go_enter Try.func7, Try.ntmps7
  go_wp2_with fail
  obtain ⟨w0, hw0⟩ : ∃ w0, w.alloc (.cells #[.string r, .slice ad n c] 24) = w0 := ⟨_, rfl⟩
  have g1 : w0.cell? ⟨w.heap.size, 1, none⟩ = some (.slice ad n c) := by rw [← hw0]; simp [go_sem]
  have g0 : w0.cell? ⟨w.heap.size, 0, none⟩ = some (.string r) := by rw [← hw0]; simp [go_sem]
  rw [hw0] at hb0 ⊢
  clear hw0
  go_loopw [3] (fun i wr => ∃ k : Nat, k ≤ n ∧ i = .int .i64 k ∧ wr = w0) (fun i _ => n - (intOf i).toNat)
  case atStart => exact ⟨0, Nat.zero_le _, rfl, rfl⟩
  case round =>
    obtain ⟨k, hk, rfl, rfl⟩ := hrel
    by_cases hlt : k < n
    · obtain ⟨b1, o1, rfl, h1⟩ := (Ha.out.below hb0).at k hlt
      generalize A.getD k ByteArray.empty = x at *
      go_wp2
      · go_ret
        exact ⟨⟨_, rfl⟩, hb0⟩
      · go_roundw
        case rel => exact ⟨k + 1, by omega, by go_num, trivial⟩
        case measure => simp [intOf]; omega
    · obtain rfl : k = n := by omega
      go_wp2
      all_goals
        go_ret
        exact ⟨⟨_, rfl⟩, hb0⟩
end Go.Proofs.Ytmmimjpgaalbcaa
