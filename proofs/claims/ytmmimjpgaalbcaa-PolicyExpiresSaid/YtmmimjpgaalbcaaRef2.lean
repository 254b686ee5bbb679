/- What Check of the reference of policy, Few and early compute. Conditions: the numbers fit 64 bits; the names read. -/
import Derived.Test.YtmmimjpgaalbcaaRef
set_option linter.unusedSimpArgs false
set_option linter.unusedVariables false
namespace Go.Proofs.Ytmmimjpgaalbcaa
open Go.RowKit

theorem fl_head (f0 f1 f2 f3 : Bool) : (fl (fails f0 f1 f2 f3) 4).headD 0 = rest f0 f1 f2 f3 0 := by
  cases f0 <;> cases f1 <;> cases f2 <;> cases f3 <;> rfl

set_option maxHeartbeats 800000 in
theorem rcheck_any (r q : ByteArray) (ad bd : Option Addr) (n m c c2 : Nat) (A B : List ByteArray) (s e t mi sq now skew : Int) (k : Key) (w : World) (hs : Is64 s) (he : Is64 e) (ht : Is64 t) (hn : Is64 now) (hk : Is64 skew) (ha : StrsAt w ad n c A) (hb : StrsAt w bd m c2 B) :
    Calls Try.prog 8 #[.agg (tv r ad n c s e k), .agg #[.string q, .slice bd m c2, .int .i64 t, .int .u32 mi, .int .u32 sq], .int .i64 now, .int .i64 skew] w fun x w' =>
      x = .returned (.int .i64 (rest (decide (now < sat (s - skew))) (decide (sat (e + skew) < now)) (!nsame r q A B) (decide (skew < sat (max t now - min t now))) 0)) ∧ Below w.heap.size w w' := by
  have hb0 := ba (.cells #[.string q, .slice bd m c2, .int .i64 t, .int .u32 mi, .int .u32 sq] 33) (ba (.cells (tv r ad n c s e k) 27) (Below.refl _ w))
  have hC := Lib.hid (rfailing_any r q ad bd n m c c2 A B s e t mi sq now skew k _ hs he ht hn hk (ha.below hb0) (hb.below hb0) _ rfl)
  have HR := Lib.hid (fl_head (decide (now < sat (s - skew))) (decide (sat (e + skew) < now)) (!nsame r q A B) (decide (skew < sat (max t now - min t now))))
  obtain ⟨L, hL⟩ : ∃ L, fl (fails (decide (now < sat (s - skew))) (decide (sat (e + skew) < now)) (!nsame r q A B) (decide (skew < sat (max t now - min t now)))) 4 = L := ⟨_, rfl⟩
  have hlen : L.length ≤ 4 := by rw [← hL]; exact fl_len _ 4
  rw [hL] at hC HR
  rw [← HR.out]
  clear hL HR hs he ht hn hk ha hb
  go_enter Try.func8, Try.ntmps8
  go_wp2_with fail
  refine hC.out.mono ?_
  rintro _ w1 ⟨⟨v, rfl, hown⟩, hb1⟩
  have hw := bt hb0 hb1
  obtain ⟨ad', cap, rfl, _, _, _, h5, h6⟩ := RdS_of_own hown
  clear hC hb0 hb1 hown
  cases L with
  | nil =>
    simp only [List.length_nil]
    go_wp2
    go_ret
    exact ⟨rfl, hw⟩
  | cons x L =>
    obtain ⟨b, o, rfl, hr⟩ := h6 (by simp)
    have hc := readAt_cell hr 0 (.int .i64 x) (by simp)
    rw [Nat.add_zero] at hc
    simp only [List.length_cons] at hlen ⊢
    clear h5 h6 hr
    generalize L.length = n' at *
    go_wp2
    go_ret
    exact ⟨rfl, hw⟩

set_option maxHeartbeats 400000 in
theorem rfew_any (r q : ByteArray) (ad bd : Option Addr) (n m c c2 : Nat) (A B : List ByteArray) (s e t mi sq : Int) (k : Key) (w : World) (ha : StrsAt w ad n c A) (hb : StrsAt w bd m c2 B) :
    Calls Try.prog 11 #[.agg (tv r ad n c s e k), .agg #[.string q, .slice bd m c2, .int .i64 t, .int .u32 mi, .int .u32 sq]] w fun x w' => IsBool x ∧ Below w.heap.size w w' := by
  have T := (TkAt.new w r ad n c s e k).below (ba (.cells #[.string q, .slice bd m c2, .int .i64 t, .int .u32 mi, .int .u32 sq] 33) (Below.refl _ _))
  have U := AuAt.new (w.alloc (.cells (tv r ad n c s e k) 27)) q bd m c2 t mi sq
  rw [World.size_alloc] at U
  have hb0 := ba (.cells #[.string q, .slice bd m c2, .int .i64 t, .int .u32 mi, .int .u32 sq] 33) (ba (.cells (tv r ad n c s e k) 27) (Below.refl _ w))
  have Ha := Lib.hid (ha.below hb0)
  have Hb := Lib.hid (hb.below hb0)
  clear ha hb
  go_enter Try.func11, Try.ntmps11
  go_wp2_with fail
  refine (few_any r ad n c A _ Ha.out).mono ?_
  rintro _ w2 ⟨⟨b, rfl⟩, hb2⟩
  have U2 := Lib.hid (U.below hb2)
  have Hb2 := Lib.hid (Hb.out.below hb2)
  have hw := bt hb0 hb2
  clear T U hb0 hb2 Ha Hb
  obtain ⟨g0, g1, g2, g3, g4, g5⟩ := U2.out
  cases b with
  | false =>
    go_wp2
    go_ret
    exact ⟨⟨_, rfl⟩, hw⟩
  | true =>
    go_wp2_with fail
    refine (few_any q bd m c2 B _ Hb2.out).mono ?_
    rintro _ w3 ⟨⟨b, rfl⟩, hb3⟩
    go_wp2
    go_ret
    exact ⟨⟨_, rfl⟩, bt hw hb3⟩
end Go.Proofs.Ytmmimjpgaalbcaa
