/- What Blank, Same, Whole of the reference compute. Conditions: numbers of sectors are small. -/
import Derived.Test.YtjedlcfeobhjnaaWrites
set_option linter.unusedSimpArgs false
set_option linter.unusedVariables false
namespace Go.Proofs.Ytjedlcfeobhjnaa
open Go.RowKit

def blank (n : Nat) (c : Int) : List Sec := (List.range n).map fun (i : Nat) => fill (mkU8 (c + (i : Int)))
theorem blank_succ (n : Nat) (c : Int) : blank (n + 1) c = blank n c ++ [fill (mkU8 (c + n))] := by simp [blank, List.range_succ]
@[simp] theorem blank_length (n : Nat) (c : Int) : (blank n c).length = n := by simp [blank]

/-- The cells of a fresh block, as the law on append asks them. -/
theorem cells_new {w : World} {b n : Nat} {cs : Array Value} (h : readAt w b 0 n = some cs) : ∀ j u, cs.toList[j]? = some u → w.cell? ((⟨b, 0, none⟩ : Addr).add j) = some u := fun j u hu => by
  have := readAt_cell h j u (by simpa using hu)
  rw [Addr.add_lit]; simpa using this

@[go_sem] theorem readAt_drewN (w : World) (d b o n : Nat) : readAt (w.drewN d) b o n = readAt w b o n := by
  simp [readAt, World.drewN]

theorem same_cons {A B : List Sec} (h : A.length = B.length) (k : Nat) (hk : ∀ j, j < k → A[j]? = B[j]?) (hall : A.length ≤ k) : A = B := by
  apply List.ext_getElem?
  intro i
  by_cases hi : i < k
  · exact hk i hi
  · rw [List.getElem?_eq_none (by omega), List.getElem?_eq_none (by omega)]

theorem same_len (va vb : Value) (A B : List Sec) (w : World) (ha : RdS w va A.length 64 (flat av A)) (hb : RdS w vb B.length 64 (flat av B)) (h : A.length ≠ B.length) :
    Calls Try.prog 18 #[va, vb] w fun e w' => e = .returned (.bool false) ∧ Below w.heap.size w w' := by
  obtain ⟨ad, cap, rfl, _⟩ := ha
  obtain ⟨bd, cap2, rfl, _⟩ := hb
  have hne : ((A.length : Int) != (B.length : Int)) = true := by simp; omega
  go_enter Try.func18, Try.ntmps18
  go_wp2
  go_ret
  exact ⟨rfl, Below.refl _ _⟩

set_option maxHeartbeats 800000 in
theorem same_eq (va vb : Value) (n : Nat) (A B : List Sec) (w : World) (hA : A.length = n) (hB : B.length = n) (hmax : n ≤ 9223372036854775807) (ha : RdS w va n 64 (flat av A)) (hb : RdS w vb n 64 (flat av B)) :
    Calls Try.prog 18 #[va, vb] w fun e w' => e = .returned (.bool (A == B)) ∧ Below w.heap.size w w' := by
  have Ha := Lib.hid ha
  have Hb := Lib.hid hb
  have HA := Lib.hid hA
  have HB := Lib.hid hB
  obtain ⟨ad, cap, rfl, _⟩ := ha
  obtain ⟨bd, cap2, rfl, _⟩ := hb
  clear hA hB
  go_enter Try.func18, Try.ntmps18
  go_wp2
  go_loopw [5] (fun i wr => ∃ k : Nat, k ≤ n ∧ i = .int .i64 k ∧ Hid (∀ j, j < k → A[j]? = B[j]?) ∧ Below w.heap.size w wr) (fun i _ => n - (intOf i).toNat)
  case atStart => exact ⟨0, Nat.zero_le _, rfl, fun j hj => absurd hj (by omega), Below.refl _ _⟩
  case round =>
    obtain ⟨k, hk, rfl, hsame, hbw⟩ := hrel
    by_cases hlt : k < n
    · obtain ⟨b1, o1, c1, e1, _, _, hr1⟩ := (Ha.out.below hbw).at k hlt
      obtain ⟨b2, o2, c2, e2, _, _, hr2⟩ := (Hb.out.below hbw).at k hlt
      simp only [Value.slice.injEq, true_and] at e1 e2
      obtain ⟨rfl, rfl⟩ := e1
      obtain ⟨rfl, rfl⟩ := e2
      rw [flat_get av 64 size_av A k (by rw [HA.out]; exact hlt)] at hr1
      rw [flat_get av 64 size_av B k (by rw [HB.out]; exact hlt)] at hr2
      have hga : A[k]? = some (A[k]'(by rw [HA.out]; exact hlt)) := List.getElem?_eq_getElem _
      have hgb : B[k]? = some (B[k]'(by rw [HB.out]; exact hlt)) := List.getElem?_eq_getElem _
      have Hga := Lib.hid hga
      have Hgb := Lib.hid hgb
      clear hga hgb
      generalize A[k]'(by rw [HA.out]; exact hlt) = x at *
      generalize B[k]'(by rw [HB.out]; exact hlt) = y at *
      by_cases hxy : x = y
      · subst hxy
        have hd : (x == x) = true := by simp
        go_wp2_with fail
        go_quiet (fail)
        go_wp2
        go_roundw
        case rel => exact ⟨k + 1, by omega, by go_num, fun j hj => by
          rcases Nat.lt_or_eq_of_le (Nat.lt_succ_iff.1 hj) with h | h
          · exact hsame.out j h
          · subst h; rw [Hga.out, Hgb.out], ⟨hbw.os, hbw.tape, hbw.output, hbw.size, hbw.block⟩⟩
        case measure => simp [intOf]; omega
      · have hd : (x == y) = false := by simpa using hxy
        have hfin : (A == B) = false := by
          rw [beq_eq_false_iff_ne]; intro e
          have h1 := Hga.out; rw [e, Hgb.out] at h1
          exact hxy (Option.some.inj h1).symm
        have Hfin := Lib.hid hfin; clear hfin
        go_wp2_with fail
        go_quiet (fail)
        go_wp2
        go_ret
        exact ⟨by rw [Hfin.out]; rfl, ⟨hbw.os, hbw.tape, hbw.output, hbw.size, hbw.block⟩⟩
    · obtain rfl : k = n := by omega
      have hfin : (A == B) = true := by
        rw [beq_iff_eq]; exact same_cons (by rw [HA.out, HB.out]) k hsame.out (by rw [HA.out]; exact Nat.le_refl _)
      have Hfin := Lib.hid hfin; clear hfin
      go_wp2
      go_ret
      exact ⟨by rw [Hfin.out]; rfl, hbw⟩

theorem same_any (va vb : Value) (A B : List Sec) (w : World) (hmax : A.length ≤ 9223372036854775807) (ha : RdS w va A.length 64 (flat av A)) (hb : RdS w vb B.length 64 (flat av B)) :
    Calls Try.prog 18 #[va, vb] w fun e w' => e = .returned (.bool (A == B)) ∧ Below w.heap.size w w' := by
  by_cases h : A.length = B.length
  · exact same_eq va vb A.length A B w rfl h.symm hmax ha (by rw [h]; exact hb)
  · have hf : (A == B) = false := by rw [beq_eq_false_iff_ne]; intro e; exact h (by rw [e])
    rw [hf]; exact same_len va vb A B w ha hb h

theorem flat_ints_length (L : List Int) : (L.map (Value.int .i64)).length = L.length * 1 := by simp

theorem view_int : (Try.prog.info? 3).map (fun i => (i.zero, i.size, i.bytes)) = some (some (.int .i64 0), 1, 8) := by kernel_rfl

set_option maxHeartbeats 400000 in
theorem whole_any (n : Nat) (w : World) (hn : n ≤ 100000) :
    Calls Try.prog 49 #[.int .i64 n] w fun e w' => (∃ v, e = .returned v ∧ w'.ownsRow w.heap.size 3 1 v n ((List.replicate n 64).map (Value.int .i64))) ∧ Below w.heap.size w w' := by
  obtain ⟨i0, hi, hz, hs, hby⟩ := info_parts view_int
  go_enter Try.func49, Try.ntmps49
  go_wp2
  go_loopw [3, 4] (fun v i wr => ∃ k : Nat, k ≤ n ∧ i = .int .i64 k ∧ wr.ownsRow w.heap.size 3 1 v k ((List.replicate k 64).map (Value.int .i64)) ∧ Below w.heap.size w wr) (fun _ i _ => n - (intOf i).toNat)
  case atStart => exact ⟨0, Nat.zero_le _, rfl, by simpa using World.ownsRow_nil _ _ _ _, Below.refl _ _⟩
  case round =>
    obtain ⟨k, hk, rfl, hown, hb⟩ := hrel
    have hB : w.heap.size ≤ wr.heap.size := hb.size
    by_cases hlt : k < n
    · go_wp2_with (at_builtin; refine wpList_append_own _ rfl _ _ 23 rfl w.heap.size 3 i0 _ 1 8 Try.underlying23 hi hz hs hby rfl (by decide) _ k _ rfl (hown.alloc _) ⟨wr.heap.size, 0, none⟩ 1 1 [.int .i64 64] rfl rfl ?c2 ?c3 ?c4 ?c5 ?c6 ?_)
      case c2 => exact cells_new (n := 1) (cs := #[.int .i64 64]) (by simp [go_sem])
      case c3 => simp [Value.oneCell']
      case c4 => simp only [maxLen]; omega
      case c5 => omega
      case c6 => simp; omega
      intro v' w3 hown3 hgr _
      have hb4 : Below w.heap.size w w3 := (hb.alloc hB _).grown hgr (by simp; omega) (fun b hbk => (hown.lt b hbk).1)
      go_wp2
      go_roundw
      case rel => exact ⟨k + 1, by omega, by go_num, by rw [List.replicate_succ', List.map_append]; simpa using hown3, hb4⟩
      case measure => simp [intOf]; omega
    · obtain rfl : k = n := by omega
      go_wp2
      go_ret
      exact ⟨⟨_, rfl, hown⟩, hb⟩
end Go.Proofs.Ytjedlcfeobhjnaa
