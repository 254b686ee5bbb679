/- The law PolicyExpires returns true. Conditions: the numbers fit 64 bits; the names read. -/
import Derived.Test.YtmmimjpgaalbcaaPol1
set_option linter.unusedSimpArgs false
set_option linter.unusedVariables false
namespace Go.Proofs.Ytmmimjpgaalbcaa
open Go.RowKit

theorem rest_pos (f0 f1 f2 : Bool) : rest f0 f1 f2 true 0 ≠ 0 := by cases f0 <;> cases f1 <;> cases f2 <;> decide

set_option maxHeartbeats 1600000 in
theorem law_expires (r q : ByteArray) (ad bd : Option Addr) (n m c c2 : Nat) (A B : List ByteArray) (s e t mi sq now skew : Int) (k : Key) (w : World) (hs : Is64 s) (he : Is64 e) (ht : Is64 t) (hn : Is64 now) (hk : Is64 skew) (ha : StrsAt w ad n c A) (hb : StrsAt w bd m c2 B) :
    Calls Try.prog 4 #[.agg (tv r ad n c s e k), .agg #[.string q, .slice bd m c2, .int .i64 t, .int .u32 mi, .int .u32 sq], .int .i64 now, .int .i64 skew] w fun x w' => x = .returned (.bool true) ∧ Below w.heap.size w w' := by
  have T0 := (TkAt.new w r ad n c s e k).below (ba (.cells #[.string q, .slice bd m c2, .int .i64 t, .int .u32 mi, .int .u32 sq] 33) (Below.refl _ _))
  have U0 := AuAt.new (w.alloc (.cells (tv r ad n c s e k) 27)) q bd m c2 t mi sq
  rw [World.size_alloc] at U0
  have hb0 := ba (.cells #[.string q, .slice bd m c2, .int .i64 t, .int .u32 mi, .int .u32 sq] 33) (ba (.cells (tv r ad n c s e k) 27) (Below.refl _ w))
  have Ha0 := ha.below hb0
  have Hb0 := hb.below hb0
  go_enter Try.func4, Try.ntmps4
  go_wp2_with fail
  refine (awake_any _).mono ?_
  rintro _ w1 ⟨rfl, hb1⟩
  have T1 := Lib.hid (T0.below hb1)
  have U1 := Lib.hid (U0.below hb1)
  have Ha1 := Lib.hid (Ha0.below hb1)
  have Hb1 := Lib.hid (Hb0.below hb1)
  have hw1 := bt hb0 hb1
  clear T0 U0 Ha0 Hb0 ha hb hb0 hb1
  obtain ⟨f0, f1, f2, f3, f4⟩ := T1.out.cells
  obtain ⟨g0, g1, g2, g3, g4, g5⟩ := U1.out
  go_wp2_with fail
  refine (rfew_any r q ad bd n m c c2 A B s e t mi sq k _ Ha1.out Hb1.out).mono ?_
  rintro _ w2 ⟨⟨b, rfl⟩, hb2⟩
  have T2 := Lib.hid (T1.out.below hb2)
  have U2 := Lib.hid (U1.out.below hb2)
  have Ha2 := Lib.hid (Ha1.out.below hb2)
  have Hb2 := Lib.hid (Hb1.out.below hb2)
  have hw2 := bt hw1 hb2
  clear f0 f1 f2 f3 f4 g0 g1 g2 g3 g4 g5 T1 U1 Ha1 Hb1 hb2 hw1
  obtain ⟨f0, f1, f2, f3, f4⟩ := T2.out.cells
  obtain ⟨g0, g1, g2, g3, g4, g5⟩ := U2.out
  cases b with
  | false =>
    go_wp2_with fail
    refine (awake_any _).mono ?_
    rintro _ w3 ⟨rfl, hb3⟩
    go_wp2
    go_ret
    exact ⟨rfl, bt hw2 hb3⟩
  | true =>
    go_wp2_with fail
    refine (early_any r q ad bd n m c c2 s e t mi sq now skew k _).mono ?_
    rintro _ w3 ⟨⟨b, rfl, hE⟩, hb3⟩
    have T3 := Lib.hid (T2.out.below hb3)
    have U3 := Lib.hid (U2.out.below hb3)
    have Ha3 := Lib.hid (Ha2.out.below hb3)
    have Hb3 := Lib.hid (Hb2.out.below hb3)
    have hw3 := bt hw2 hb3
    clear f0 f1 f2 f3 f4 g0 g1 g2 g3 g4 g5 T2 U2 Ha2 Hb2 hb3 hw2
    obtain ⟨f0, f1, f2, f3, f4⟩ := T3.out.cells
    obtain ⟨g0, g1, g2, g3, g4, g5⟩ := U3.out
    cases b with
    | false =>
      clear hE
      go_wp2_with fail
      refine (awake_any _).mono ?_
      rintro _ w4 ⟨rfl, hb4⟩
      go_wp2
      go_ret
      exact ⟨rfl, bt hw3 hb4⟩
    | true =>
      have HE := Lib.hid (hE rfl)
      clear hE
      go_wp2_with fail
      refine (expiry_any q bd m c2 t mi sq skew _ ht hk).mono ?_
      rintro _ w4 ⟨rfl, hb4⟩
      have T4 := Lib.hid (T3.out.below hb4)
      have U4 := Lib.hid (U3.out.below hb4)
      have Ha4 := Lib.hid (Ha3.out.below hb4)
      have Hb4 := Lib.hid (Hb3.out.below hb4)
      have hw4 := bt hw3 hb4
      clear f0 f1 f2 f3 f4 g0 g1 g2 g3 g4 g5 T3 U3 Ha3 Hb3 hb4 hw3
      obtain ⟨f0, f1, f2, f3, f4⟩ := T4.out.cells
      obtain ⟨g0, g1, g2, g3, g4, g5⟩ := U4.out
      go_wp2_with fail
      refine (radd_any t skew _ ht hk).mono ?_
      rintro _ _ ⟨rfl, rfl⟩
      by_cases hx : now ≤ sat (t + skew)
      · have d1 : decide (now ≤ sat (t + skew)) = true := by simpa using hx
        clear hx
        go_wp2
        go_ret
        exact ⟨rfl, hw4⟩
      · have d1 : decide (now ≤ sat (t + skew)) = false := by simpa using hx
        have hR : rest (decide (now < sat (s - skew))) (decide (sat (e + skew) < now)) (!nsame r q A B) (decide (skew < sat (max t now - min t now))) 0 ≠ 0 := by
          obtain ⟨_, _, h3, h4, h5⟩ := HE.out
          have h6 : skew < sat (max t now - min t now) := by
            unfold Early at h3 h4 h5
            simp only [sat] at hx ⊢
            (repeat' split at hx) <;> (repeat' split) <;> omega
          have this : decide (skew < sat (max t now - min t now)) = true := decide_eq_true h6
          rw [this]; exact rest_pos _ _ _
        clear hx
        go_wp2_with fail
        refine (check_any r q ad bd n m c c2 A B s e t mi sq now skew k _ hs he ht hn hk Ha4.out Hb4.out).mono ?_
        rintro _ w5 ⟨rfl, hb5⟩
        have hne : (rest (decide (now < sat (s - skew))) (decide (sat (e + skew) < now)) (!nsame r q A B) (decide (skew < sat (max t now - min t now))) 0 != 0) = true := by simpa using hR
        generalize rest (decide (now < sat (s - skew))) (decide (sat (e + skew) < now)) (!nsame r q A B) (decide (skew < sat (max t now - min t now))) 0 = R at *
        clear hR
        have hw5 := bt hw4 hb5
        go_wp2
        go_ret
        exact ⟨rfl, hw5⟩
end Go.Proofs.Ytmmimjpgaalbcaa
