/- The law PolicyUsable returns true. Conditions: the numbers fit 64 bits; the name reads. -/
import Derived.Test.YtmmimjpgaalbcaaEarly
set_option linter.unusedSimpArgs false
set_option linter.unusedVariables false
namespace Go.Proofs.Ytmmimjpgaalbcaa
open Go.RowKit

theorem nsame_self (r : ByteArray) (A : List ByteArray) : nsame r r A A = true := by simp [nsame]

set_option maxHeartbeats 1600000 in
theorem law_usable (r : ByteArray) (ad : Option Addr) (n c : Nat) (A : List ByteArray) (s e now skew : Int) (k : Key) (w : World) (hs : Is64 s) (he : Is64 e) (hn : Is64 now) (hk : Is64 skew) (ha : StrsAt w ad n c A) :
    Calls Try.prog 3 #[.agg (tv r ad n c s e k), .int .i64 now, .int .i64 skew] w fun x w' => x = .returned (.bool true) ∧ Below w.heap.size w w' := by
  have T0 := TkAt.new w r ad n c s e k
  have hb0 := ba (.cells (tv r ad n c s e k) 27) (Below.refl _ w)
  have Ha0 := ha.below hb0
  go_enter Try.func3, Try.ntmps3
  go_wp2_with fail
  refine (awake_any _).mono ?_
  rintro _ w1 ⟨rfl, hb1⟩
  have T1 := Lib.hid (T0.below hb1)
  have Ha1 := Lib.hid (Ha0.below hb1)
  have hw1 := bt hb0 hb1
  clear T0 Ha0 ha hb0 hb1
  obtain ⟨f0, f1, f2, f3, f4⟩ := T1.out.cells
  go_wp2_with fail
  refine (few_any r ad n c A _ Ha1.out).mono ?_
  rintro _ w2 ⟨⟨b, rfl⟩, hb2⟩
  have T2 := Lib.hid (T1.out.below hb2)
  have Ha2 := Lib.hid (Ha1.out.below hb2)
  have hw2 := bt hw1 hb2
  clear f0 f1 f2 f3 f4 T1 Ha1 hb2 hw1
  obtain ⟨f0, f1, f2, f3, f4⟩ := T2.out.cells
  cases b with
  | false =>
    go_wp2_with fail
    refine (awake_any _).mono ?_
    rintro _ w3 ⟨rfl, hb3⟩
    go_wp2
    go_ret
    exact ⟨rfl, bt hw2 hb3⟩
  | true =>
    by_cases hsk : skew < 0
    · have d0 : decide (skew < 0) = true := by simpa using hsk
      go_wp2_with fail
      refine (awake_any _).mono ?_
      rintro _ w3 ⟨rfl, hb3⟩
      go_wp2
      go_ret
      exact ⟨rfl, bt hw2 hb3⟩
    · have d0 : decide (skew < 0) = false := by simpa using hsk
      have Hsk := Lib.hid hsk
      clear hsk
      go_wp2_with fail
      refine (rcheck_any r r ad ad n n c c A A s e now 0 0 now skew k _ hs he hn hn hk Ha2.out Ha2.out).mono ?_
      rw [nsame_self]
      rintro _ w3 ⟨rfl, hb3⟩
      have T3 := Lib.hid (T2.out.below hb3)
      have hw3 := bt hw2 hb3
      clear f0 f1 f2 f3 f4 T2 Ha2 hb3 hw2
      obtain ⟨f0, f1, f2, f3, f4⟩ := T3.out.cells
      generalize hR : rest (decide (now < sat (s - skew))) (decide (sat (e + skew) < now)) (!true) (decide (skew < sat (max now now - min now now))) 0 = R
      have HR := Lib.hid hR
      clear hR
      go_wp2_with fail
      refine (usable_any r ad n c s e k now skew _ hs he hk).mono ?_
      rintro _ w4 ⟨rfl, hb4⟩
      obtain ⟨g0, g1, g2, g3, g4⟩ := (T3.out.below hb4).cells
      have hw4 := bt hw3 hb4
      clear f0 f1 f2 f3 f4 T3 hb4 hw3
      have hz : decide (skew < sat (max now now - min now now)) = false := by
        have := Hsk.out
        have e0 : max now now - min now now = 0 := by omega
        rw [e0]; simp [sat]; omega
      by_cases h1 : now < sat (s - skew)
      · have eR : R = 3 := by rw [← HR.out, show decide (now < sat (s - skew)) = true by simpa using h1]; rfl
        have eS : (side now s e skew == 0) = false := by simp [side, h1]
        rw [eS]
        subst eR
        clear HR h1 eS hz
        go_wp2
        go_ret
        exact ⟨rfl, hw4⟩
      · by_cases h2 : sat (e + skew) < now
        · have eR : R = 4 := by rw [← HR.out, show decide (now < sat (s - skew)) = false by simpa using h1, show decide (sat (e + skew) < now) = true by simpa using h2]; rfl
          have eS : (side now s e skew == 0) = false := by simp [side, h1, h2]
          rw [eS]
          subst eR
          clear HR h1 h2 eS hz
          go_wp2
          go_ret
          exact ⟨rfl, hw4⟩
        · have eR : R = 0 := by rw [← HR.out, hz, show decide (now < sat (s - skew)) = false by simpa using h1, show decide (sat (e + skew) < now) = false by simpa using h2]; rfl
          have eS : (side now s e skew == 0) = true := by simp [side, h1, h2]
          have d2 : decide (now ≤ sat (e + skew)) = true := by simp; omega
          rw [eS]
          subst eR
          clear HR h1 h2 eS hz
          go_wp2_with fail
          refine (radd_any e skew _ he hk).mono ?_
          rintro _ _ ⟨rfl, rfl⟩
          go_wp2
          go_ret
          exact ⟨rfl, hw4⟩
end Go.Proofs.Ytmmimjpgaalbcaa
