/- What checks of package policy makes: four checks with their answers, whose functions say whether they fail. Conditions: the numbers fit 64 bits; the names read. -/
import Derived.Test.YtmmimjpgaalbcaaTick
import Derived.Deep.RegionWith
import Derived.Deep.RegionHeld3
set_option linter.unusedSimpArgs false
set_option linter.unusedVariables false
namespace Go.Proofs.Ytmmimjpgaalbcaa
open Go.RowKit

theorem chk1_any (now from_ : Int) (BN BF : Nat) (w : World) (h1 : w.cell? ⟨BN, 0, none⟩ = some (.int .i64 now)) (h2 : w.cell? ⟨BF, 0, none⟩ = some (.int .i64 from_)) :
    Calls Try.prog 29 #[.pointer (some ⟨BN, 0, none⟩), .pointer (some ⟨BF, 0, none⟩)] w fun x w' => x = .returned (.bool (decide (now < from_))) ∧ Below w.heap.size w w' := by
  have hb := Below.refl w.heap.size w
  go_enter Try.func29, Try.ntmps29
  go_wp2
  go_ret
  exact ⟨rfl, hb⟩
theorem chk2_any (now to_ : Int) (BN BO : Nat) (w : World) (h1 : w.cell? ⟨BN, 0, none⟩ = some (.int .i64 now)) (h2 : w.cell? ⟨BO, 0, none⟩ = some (.int .i64 to_)) :
    Calls Try.prog 30 #[.pointer (some ⟨BN, 0, none⟩), .pointer (some ⟨BO, 0, none⟩)] w fun x w' => x = .returned (.bool (decide (to_ < now))) ∧ Below w.heap.size w w' := by
  have hb := Below.refl w.heap.size w
  go_enter Try.func30, Try.ntmps30
  go_wp2
  go_ret
  exact ⟨rfl, hb⟩
theorem chk3_any (r q : ByteArray) (ad bd : Option Addr) (n m c c2 : Nat) (A B : List ByteArray) (s e t mi sq : Int) (k : Key) (BT BA : Nat) (w : World) (hT : TkAt w BT r ad n c s e k) (hU : AuAt w BA q bd m c2 t mi sq) (ha : StrsAt w ad n c A) (hb : StrsAt w bd m c2 B) :
    Calls Try.prog 31 #[.pointer (some ⟨BT, 0, none⟩), .pointer (some ⟨BA, 0, none⟩)] w fun x w' => x = .returned (.bool (!nsame r q A B)) ∧ Below w.heap.size w w' := by
  obtain ⟨f0, f1, f2, f3, f4⟩ := hT.cells
  obtain ⟨g0, g1, g2, g3, g4, g5⟩ := hU
  go_enter Try.func31, Try.ntmps31
  go_wp2_with fail
  refine (nsame_any r q ad bd n m c c2 A B _ ha hb).mono ?_
  rintro _ w2 ⟨rfl, hb2⟩
  go_wp2
  go_ret
  exact ⟨rfl, hb2⟩
set_option maxHeartbeats 400000 in
theorem chk4_any (q : ByteArray) (bd : Option Addr) (m c2 : Nat) (t mi sq now skew : Int) (BA BN BS : Nat) (w : World) (hU : AuAt w BA q bd m c2 t mi sq) (ht : Is64 t) (hn : Is64 now) (h1 : w.cell? ⟨BN, 0, none⟩ = some (.int .i64 now)) (h2 : w.cell? ⟨BS, 0, none⟩ = some (.int .i64 skew)) :
    Calls Try.prog 32 #[.pointer (some ⟨BA, 0, none⟩), .pointer (some ⟨BN, 0, none⟩), .pointer (some ⟨BS, 0, none⟩)] w fun x w' => x = .returned (.bool (decide (skew < sat (max t now - min t now)))) ∧ Below w.heap.size w w' := by
  obtain ⟨g0, g1, g2, g3, g4, g5⟩ := hU
  go_enter Try.func32, Try.ntmps32
  go_wp2_with fail
  go_region_held3 (fun w' => w'.cell? ⟨BA, 2, none⟩ = some (.int .i64 t) ∧ w'.cell? ⟨BN, 0, none⟩ = some (.int .i64 now) ∧ w'.cell? ⟨BS, 0, none⟩ = some (.int .i64 skew)) (go_keep)
    (first | (go_at_call 33; refine (apart_any t now _ ht hn).mono ?_; rintro e w' ⟨rfl, rfl⟩))
  go_wp2
  go_ret
  exact ⟨rfl, (Below.refl _ _).drew⟩

/-- Which checks fail. -/
def fails (f0 f1 f2 f3 : Bool) : Nat → Bool
  | 0 => f0
  | 1 => f1
  | 2 => f2
  | _ => f3
/-- Function i of the checks, called in a later world, says whether check i fails. -/
def Says (w : World) (f : FuncId) (caps : Array Value) (b : Bool) : Prop :=
  ∀ w', Below w.heap.size w w' → Calls Try.prog f caps w' fun x w'' => x = .returned (.bool b) ∧ Below w'.heap.size w' w''
theorem Says.later {w w1 : World} {f : FuncId} {caps : Array Value} {b : Bool} (h : Says w f caps b) (hb : Below w.heap.size w w1) : Says w1 f caps b :=
  fun w' h' => h w' (hb.trans (h'.mono hb.size))
def Chk (w : World) (B : Nat) (f0 f1 f2 f3 : Bool) : Prop :=
  B < w.heap.size ∧ ∃ c0 c1 c2 c3 : Array Value,
    (w.cell? ⟨B, 0, none⟩ = some (.int .i64 3) ∧ w.cell? ⟨B, 1, none⟩ = some (.func (.func 29) #[] c0) ∧
    w.cell? ⟨B, 2, none⟩ = some (.int .i64 4) ∧ w.cell? ⟨B, 3, none⟩ = some (.func (.func 30) #[] c1) ∧
    w.cell? ⟨B, 4, none⟩ = some (.int .i64 5) ∧ w.cell? ⟨B, 5, none⟩ = some (.func (.func 31) #[] c2) ∧
    w.cell? ⟨B, 6, none⟩ = some (.int .i64 6) ∧ w.cell? ⟨B, 7, none⟩ = some (.func (.func 32) #[] c3)) ∧
    Says w 29 c0 f0 ∧ Says w 30 c1 f1 ∧ Says w 31 c2 f2 ∧ Says w 32 c3 f3
theorem Chk.below {w w' : World} {B : Nat} {f0 f1 f2 f3 : Bool} (h : Chk w B f0 f1 f2 f3) (hb : Below w.heap.size w w') : Chk w' B f0 f1 f2 f3 := by
  obtain ⟨hB, c0, c1, c2, c3, ⟨a0, a1, a2, a3, a4, a5, a6, a7⟩, s0, s1, s2, s3⟩ := h
  exact ⟨Nat.lt_of_lt_of_le hB hb.size, c0, c1, c2, c3, ⟨(hb.cell (p := ⟨B, 0, none⟩) hB).trans a0, (hb.cell (p := ⟨B, 1, none⟩) hB).trans a1, (hb.cell (p := ⟨B, 2, none⟩) hB).trans a2, (hb.cell (p := ⟨B, 3, none⟩) hB).trans a3, (hb.cell (p := ⟨B, 4, none⟩) hB).trans a4, (hb.cell (p := ⟨B, 5, none⟩) hB).trans a5, (hb.cell (p := ⟨B, 6, none⟩) hB).trans a6, (hb.cell (p := ⟨B, 7, none⟩) hB).trans a7⟩, s0.later hb, s1.later hb, s2.later hb, s3.later hb⟩

theorem chk_of {r q : ByteArray} {ad bd : Option Addr} {n m c c2 : Nat} {A B : List ByteArray} {s e t mi sq now skew : Int} {k : Key} {BT : Nat} {lo hi : Int} (w3 W : World) (hb : Below w3.heap.size w3 W)
    (hT : TkAt w3 BT r ad n c s e k) (hU : AuAt w3 (BT + 1) q bd m c2 t mi sq) (hN : w3.cell? ⟨BT + 1 + 1, 0, none⟩ = some (.int .i64 now)) (hS : w3.cell? ⟨BT + 1 + 1 + 1, 0, none⟩ = some (.int .i64 skew)) (hlt : BT + 3 < w3.heap.size)
    (ha : StrsAt w3 ad n c A) (hb' : StrsAt w3 bd m c2 B) (ht : Is64 t) (hn : Is64 now)
    (hF : W.cell? ⟨w3.heap.size, 0, none⟩ = some (.int .i64 lo)) (hO : W.cell? ⟨w3.heap.size + 1, 0, none⟩ = some (.int .i64 hi)) (hsz : w3.heap.size + 1 + 1 < W.heap.size)
    (hcells : W.cell? ⟨w3.heap.size + 1 + 1, 0, none⟩ = some (.int .i64 3) ∧ W.cell? ⟨w3.heap.size + 1 + 1, 1, none⟩ = some (.func (.func 29) #[] #[.pointer (some ⟨BT + 1 + 1, 0, none⟩), .pointer (some ⟨w3.heap.size, 0, none⟩)]) ∧
      W.cell? ⟨w3.heap.size + 1 + 1, 2, none⟩ = some (.int .i64 4) ∧ W.cell? ⟨w3.heap.size + 1 + 1, 3, none⟩ = some (.func (.func 30) #[] #[.pointer (some ⟨BT + 1 + 1, 0, none⟩), .pointer (some ⟨w3.heap.size + 1, 0, none⟩)]) ∧
      W.cell? ⟨w3.heap.size + 1 + 1, 4, none⟩ = some (.int .i64 5) ∧ W.cell? ⟨w3.heap.size + 1 + 1, 5, none⟩ = some (.func (.func 31) #[] #[.pointer (some ⟨BT, 0, none⟩), .pointer (some ⟨BT + 1, 0, none⟩)]) ∧
      W.cell? ⟨w3.heap.size + 1 + 1, 6, none⟩ = some (.int .i64 6) ∧ W.cell? ⟨w3.heap.size + 1 + 1, 7, none⟩ = some (.func (.func 32) #[] #[.pointer (some ⟨BT + 1, 0, none⟩), .pointer (some ⟨BT + 1 + 1, 0, none⟩), .pointer (some ⟨BT + 1 + 1 + 1, 0, none⟩)])) :
    Chk W (w3.heap.size + 1 + 1) (decide (now < lo)) (decide (hi < now)) (!nsame r q A B) (decide (skew < sat (max t now - min t now))) := by
  refine ⟨hsz, _, _, _, _, hcells, ?_, ?_, ?_, ?_⟩
  · intro w' hw
    have h3 := hb.trans (hw.mono hb.size)
    exact chk1_any now lo _ _ w' ((h3.cell (p := ⟨BT + 1 + 1, 0, none⟩) (show BT + 1 + 1 < w3.heap.size by omega)).trans hN) ((hw.cell (p := ⟨w3.heap.size, 0, none⟩) (show w3.heap.size < W.heap.size by omega)).trans hF)
  · intro w' hw
    have h3 := hb.trans (hw.mono hb.size)
    exact chk2_any now hi _ _ w' ((h3.cell (p := ⟨BT + 1 + 1, 0, none⟩) (show BT + 1 + 1 < w3.heap.size by omega)).trans hN) ((hw.cell (p := ⟨w3.heap.size + 1, 0, none⟩) (show w3.heap.size + 1 < W.heap.size by omega)).trans hO)
  · intro w' hw
    have h3 := hb.trans (hw.mono hb.size)
    exact chk3_any r q ad bd n m c c2 A B s e t mi sq k _ _ w' (hT.below h3) (hU.below h3) (ha.below h3) (hb'.below h3)
  · intro w' hw
    have h3 := hb.trans (hw.mono hb.size)
    exact chk4_any q bd m c2 t mi sq now skew _ _ _ w' (hU.below h3) ht hn ((h3.cell (p := ⟨BT + 1 + 1, 0, none⟩) (show BT + 1 + 1 < w3.heap.size by omega)).trans hN) ((h3.cell (p := ⟨BT + 1 + 1 + 1, 0, none⟩) (show BT + 1 + 1 + 1 < w3.heap.size by omega)).trans hS)

set_option maxHeartbeats 1600000 in
theorem checks_any (r q : ByteArray) (ad bd : Option Addr) (n m c c2 : Nat) (A B : List ByteArray) (s e t mi sq now skew : Int) (k : Key) (w : World) (hs : Is64 s) (he : Is64 e) (ht : Is64 t) (hn : Is64 now) (hk : Is64 skew) (ha : StrsAt w ad n c A) (hb : StrsAt w bd m c2 B) :
    Calls Try.prog 21 #[.agg (tv r ad n c s e k), .agg #[.string q, .slice bd m c2, .int .i64 t, .int .u32 mi, .int .u32 sq], .int .i64 now, .int .i64 skew] w fun x w' =>
      (∃ B0, x = .returned (.slice (some ⟨B0, 0, none⟩) 4 4) ∧ Chk w' B0 (decide (now < sat (s - skew))) (decide (sat (e + skew) < now)) (!nsame r q A B) (decide (skew < sat (max t now - min t now)))) ∧ Below w.heap.size w w' := by
  obtain ⟨w0, hw0⟩ : ∃ w0, (((w.alloc (.cells (tv r ad n c s e k) 27)).alloc (.cells #[.string q, .slice bd m c2, .int .i64 t, .int .u32 mi, .int .u32 sq] 33)).alloc (.cells #[.int .i64 now] 2)).alloc (.cells #[.int .i64 skew] 2) = w0 := ⟨_, rfl⟩
  have hsz : w0.heap.size = w.heap.size + 4 := by rw [← hw0]; simp
  have hb1 : Below (w.heap.size + 1) (w.alloc (.cells (tv r ad n c s e k) 27)) w0 := by
    rw [← hw0]; exact (((Below.refl _ _).alloc (by simp) _).alloc (by simp) _).alloc (by simp) _
  have hb2 : Below (w.heap.size + 1 + 1) ((w.alloc (.cells (tv r ad n c s e k) 27)).alloc (.cells #[.string q, .slice bd m c2, .int .i64 t, .int .u32 mi, .int .u32 sq] 33)) w0 := by
    rw [← hw0]; exact ((Below.refl _ _).alloc (by simp) _).alloc (by simp) _
  have T0 := Lib.hid ((TkAt.new w r ad n c s e k).below (by simpa using hb1))
  have U0 := AuAt.new (w.alloc (.cells (tv r ad n c s e k) 27)) q bd m c2 t mi sq
  have U0 := Lib.hid (U0.below (by simpa using hb2))
  simp only [World.size_alloc] at U0
  have N0 : w0.cell? ⟨w.heap.size + 1 + 1, 0, none⟩ = some (.int .i64 now) := by rw [← hw0]; simp [go_sem]
  have S0 : w0.cell? ⟨w.heap.size + 1 + 1 + 1, 0, none⟩ = some (.int .i64 skew) := by rw [← hw0]; simp [go_sem]
  have hb0 : Below w.heap.size w w0 := by rw [← hw0]; exact ba _ (ba _ (ba _ (ba _ (Below.refl _ _))))
  have Ha := Lib.hid (ha.below hb0)
  have Hb := Lib.hid (hb.below hb0)
  clear ha hb hb1 hb2
  obtain ⟨f0, f1, f2, f3, f4⟩ := T0.out.cells
  go_enter Try.func21, Try.ntmps21
  go_wp2_with fail
  refine (window_any s e skew _ hs he hk).mono ?_
  rintro _ w3 ⟨rfl, hb3⟩
  have T3 := Lib.hid (T0.out.below hb3)
  have U3 := Lib.hid (U0.out.below hb3)
  have hsz0 : w.heap.size + 3 < w0.heap.size := by omega
  have N3 := Lib.hid ((hb3.cell (p := ⟨w.heap.size + 1 + 1, 0, none⟩) (show w.heap.size + 1 + 1 < w0.heap.size by omega)).trans N0)
  have S3 := Lib.hid ((hb3.cell (p := ⟨w.heap.size + 1 + 1 + 1, 0, none⟩) (show w.heap.size + 1 + 1 + 1 < w0.heap.size by omega)).trans S0)
  have Ha3 := Lib.hid (Ha.out.below hb3)
  have Hb3 := Lib.hid (Hb.out.below hb3)
  have hb4 := bt hb0 hb3
  have hs3 : w.heap.size + 3 < w3.heap.size := Nat.lt_of_lt_of_le hsz0 hb3.size
  clear f0 f1 f2 f3 f4 T0 U0 N0 S0 Ha Hb hb0 hb3 hw0 hsz hsz0
  go_wp2
  go_ret
  refine ⟨⟨w3.heap.size + 1 + 1, rfl, ?_⟩, ba _ (ba _ (ba _ hb4))⟩
  have hbW := ba (.cells #[.int .i64 3, .func (.func 29) #[] #[.pointer (some ⟨w.heap.size + 1 + 1, 0, none⟩), .pointer (some ⟨w3.heap.size, 0, none⟩)], .int .i64 4, .func (.func 30) #[] #[.pointer (some ⟨w.heap.size + 1 + 1, 0, none⟩), .pointer (some ⟨w3.heap.size + 1, 0, none⟩)], .int .i64 5, .func (.func 31) #[] #[.pointer (some ⟨w.heap.size, 0, none⟩), .pointer (some ⟨w.heap.size + 1, 0, none⟩)], .int .i64 6, .func (.func 32) #[] #[.pointer (some ⟨w.heap.size + 1, 0, none⟩), .pointer (some ⟨w.heap.size + 1 + 1, 0, none⟩), .pointer (some ⟨w.heap.size + 1 + 1 + 1, 0, none⟩)]] 55) (ba (.cells #[.int .i64 (sat (e + skew))] 2) (ba (.cells #[.int .i64 (sat (s - skew))] 2) (Below.refl w3.heap.size w3)))
  refine chk_of w3 _ hbW T3.out U3.out N3.out S3.out (by omega) Ha3.out Hb3.out ht hn ?_ ?_ ?_ ⟨?_, ?_, ?_, ?_, ?_, ?_, ?_, ?_⟩
  all_goals simp [go_sem]
end Go.Proofs.Ytmmimjpgaalbcaa
