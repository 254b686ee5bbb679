/- What Failing and Check of package policy compute: the answers of the checks that fail; the first one. Conditions: the numbers fit 64 bits; the names read. -/
import Derived.Test.YtmmimjpgaalbcaaChecks
import Derived.Maps.AppendAt
import Derived.Laws.EntriesVeiled
set_option linter.unusedSimpArgs false
set_option linter.unusedVariables false
namespace Go.Proofs.Ytmmimjpgaalbcaa
open Go.RowKit

/-- The answers of the first k checks that fail. -/
def fl (F : Nat → Bool) : Nat → List Int
  | 0 => []
  | k + 1 => if F k then fl F k ++ [3 + (k : Int)] else fl F k
theorem fl_len (F : Nat → Bool) (k : Nat) : (fl F k).length ≤ k := by
  induction k with
  | zero => exact Nat.le_refl _
  | succ k ih =>
    unfold fl
    split
    · rw [List.length_append]; simp; omega
    · omega
theorem view_code : (Try.prog.info? 39).map (fun i => (i.zero, i.size, i.bytes)) = some (some (.int .i64 0), 1, 8) := by kernel_rfl
/-- The cells of a fresh block, as the law on append asks them. -/
theorem cells_new {w : World} {b n : Nat} {cs : Array Value} (h : readAt w b 0 n = some cs) : ∀ j u, cs.toList[j]? = some u → w.cell? ((⟨b, 0, none⟩ : Addr).add j) = some u := fun j u hu => by
  have := readAt_cell h j u (by simpa using hu)
  rw [Addr.add_lit]; simpa using this

set_option maxHeartbeats 3200000 in
theorem failing_any (r q : ByteArray) (ad bd : Option Addr) (n m c c2 : Nat) (A B : List ByteArray) (s e t mi sq now skew : Int) (k : Key) (w : World) (hs : Is64 s) (he : Is64 e) (ht : Is64 t) (hn : Is64 now) (hk : Is64 skew) (ha : StrsAt w ad n c A) (hb : StrsAt w bd m c2 B)
    (F : Nat → Bool) (hF : F = fails (decide (now < sat (s - skew))) (decide (sat (e + skew) < now)) (!nsame r q A B) (decide (skew < sat (max t now - min t now)))) :
    Calls Try.prog 15 #[.agg (tv r ad n c s e k), .agg #[.string q, .slice bd m c2, .int .i64 t, .int .u32 mi, .int .u32 sq], .int .i64 now, .int .i64 skew] w fun x w' =>
      (∃ v, x = .returned v ∧ w'.ownsRow w.heap.size 39 1 v (fl F 4).length ((fl F 4).map (Value.int .i64))) ∧ Below w.heap.size w w' := by
  obtain ⟨ic, hic, hzc, hsc, hbc⟩ := info_parts view_code
  have hb0 := ba (.cells #[.string q, .slice bd m c2, .int .i64 t, .int .u32 mi, .int .u32 sq] 33) (ba (.cells (tv r ad n c s e k) 27) (Below.refl _ w))
  go_enter Try.func15, Try.ntmps15
  go_wp2_with fail
  refine (checks_any r q ad bd n m c c2 A B s e t mi sq now skew k _ hs he ht hn hk (ha.below hb0) (hb.below hb0)).mono ?_
  rintro _ w1 ⟨⟨B0, rfl, hC⟩, hb1⟩
  have hw1 := bt hb0 hb1
  clear ha hb hb0 hb1
  generalize decide (now < sat (s - skew)) = f0 at *
  generalize decide (sat (e + skew) < now) = f1 at *
  generalize (!nsame r q A B) = f2 at *
  generalize decide (skew < sat (max t now - min t now)) = f3 at *
  have hF0 : F 0 = f0 := by rw [hF]; rfl
  have hF1 : F 1 = f1 := by rw [hF]; rfl
  have hF2 : F 2 = f2 := by rw [hF]; rfl
  have hF3 : F 3 = f3 := by rw [hF]; rfl
  have hl0 : fl F 1 = if f0 then fl F 0 ++ [3] else fl F 0 := by rw [← hF0]; rfl
  have hl1 : fl F 2 = if f1 then fl F 1 ++ [4] else fl F 1 := by rw [← hF1]; rfl
  have hl2 : fl F 3 = if f2 then fl F 2 ++ [5] else fl F 2 := by rw [← hF2]; rfl
  have hl3 : fl F 4 = if f3 then fl F 3 ++ [6] else fl F 3 := by rw [← hF3]; rfl
  have HL0 := Lib.hid hl0
  have HL1 := Lib.hid hl1
  have HL2 := Lib.hid hl2
  have HL3 := Lib.hid hl3
  have hlen := fl_len F
  clear hF hF0 hF1 hF2 hF3 hl0 hl1 hl2 hl3 hs he ht hn hk
  go_wp2_with fail
  go_loopw [9, 18] (fun v i wr => ∃ k : Nat, k ≤ 4 ∧ i = .int .i64 k ∧ wr.ownsRow w1.heap.size 39 1 v (fl F k).length ((fl F k).map (Value.int .i64)) ∧ Below w1.heap.size w1 wr) (fun _ i _ => 4 - (intOf i).toNat)
  case atStart => exact ⟨0, Nat.zero_le _, rfl, by simpa [fl] using World.ownsRow_nil _ _ _ _, Below.refl _ _⟩
  case round =>
    obtain ⟨k, hk, rfl, hown, hbr⟩ := hrel
    have hC2 := hC.below hbr
    have hwr := bt hw1 hbr
    match k, hk with
    | 0, _ =>
      obtain ⟨hB, c0, c1, c2, c3, ⟨a0, a1, a2, a3, a4, a5, a6, a7⟩, s0, s1, s2, s3⟩ := hC2
      have Hown := Lib.hid hown
      clear hown
      go_wp2_with fail
      have hbx := ba (.cells #[.int .i64 3, .func (.func 29) #[] c0] 55) (Below.refl wr.heap.size wr)
      refine (s0 _ hbx).mono ?_
      rintro _ w4 ⟨rfl, hb4⟩
      have hb5 := bt hbx hb4
      have hd0 : w4.cell? ⟨wr.heap.size, 0, none⟩ = some (.int .i64 3) := by rw [hb4.cell (p := ⟨wr.heap.size, 0, none⟩) (by simp)]; simp [go_sem]
      have Hb5 := Lib.hid hb5
      clear hb5 hb4 hbx a0 a1 a2 a3 a4 a5 a6 a7 s0 s1 s2 s3
      have hown4 := ownsRow_below Hown.out Hb5.out
      have hw4 := bt hbr Hb5.out
      cases f0 with
      | false =>
        have e1 : fl F 1 = fl F 0 := HL0.out
        have E1 := Lib.hid e1
        have Hown4 := Lib.hid hown4
        clear e1 hown4
        go_wp2
        go_roundw
        case rel => exact ⟨1, by omega, by go_num, by rw [E1.out]; exact Hown4.out, bt hbr Hb5.out⟩
        case measure => simp [intOf]
      | true =>
        have e1 : fl F 1 = fl F 0 ++ [3] := HL0.out
        have E1 := Lib.hid e1
        clear e1
        go_wp2_with (at_builtin; refine wpList_append_own_at _ rfl _ _ 41 rfl w1.heap.size 39 ic _ 1 8 Try.underlying41 hic hzc hsc hbc rfl (by decide) _ (fl F 0).length _ rfl (hown4.alloc _) ⟨w4.heap.size, 0, none⟩ 1 1 [.int .i64 3] rfl rfl ?d2 ?d3 ?d4 ?d5 ?d6 ?_)
        case d2 => exact cells_new (n := 1) (cs := #[.int .i64 3]) (by simp [go_sem])
        case d3 => simp [Value.oneCell']
        case d4 => have := hlen 0; simp only [maxLen]; omega
        case d5 => have := hlen 0; omega
        case d6 => have := hw4.size; simp; omega
        intro v' w5 Hnew hgr _ _
        have hb6 : Below w1.heap.size w1 w5 := (ba _ hw4).grown hgr (ba _ hw4).size (fun b hbk => (hown4.lt b hbk).1)
        have Hn := Lib.hid Hnew
        have Hb6 := Lib.hid hb6
        clear Hnew hb6 hgr hown4 hw4
        go_wp2
        go_roundw
        case rel => exact ⟨1, by omega, by go_num, by rw [E1.out, List.length_append, List.map_append]; exact Hn.out, Hb6.out⟩
        case measure => simp [intOf]
    | 1, _ =>
      obtain ⟨hB, c0, c1, c2, c3, ⟨a0, a1, a2, a3, a4, a5, a6, a7⟩, s0, s1, s2, s3⟩ := hC2
      have Hown := Lib.hid hown
      clear hown
      go_wp2_with fail
      have hbx := ba (.cells #[.int .i64 4, .func (.func 30) #[] c1] 55) (Below.refl wr.heap.size wr)
      refine (s1 _ hbx).mono ?_
      rintro _ w4 ⟨rfl, hb4⟩
      have hb5 := bt hbx hb4
      have hd0 : w4.cell? ⟨wr.heap.size, 0, none⟩ = some (.int .i64 4) := by rw [hb4.cell (p := ⟨wr.heap.size, 0, none⟩) (by simp)]; simp [go_sem]
      have Hb5 := Lib.hid hb5
      clear hb5 hb4 hbx a0 a1 a2 a3 a4 a5 a6 a7 s0 s1 s2 s3
      have hown4 := ownsRow_below Hown.out Hb5.out
      have hw4 := bt hbr Hb5.out
      cases f1 with
      | false =>
        have e1 : fl F 2 = fl F 1 := HL1.out
        have E1 := Lib.hid e1
        have Hown4 := Lib.hid hown4
        clear e1 hown4
        go_wp2
        go_roundw
        case rel => exact ⟨2, by omega, by go_num, by rw [E1.out]; exact Hown4.out, bt hbr Hb5.out⟩
        case measure => simp [intOf]
      | true =>
        have e1 : fl F 2 = fl F 1 ++ [4] := HL1.out
        have E1 := Lib.hid e1
        clear e1
        go_wp2_with (at_builtin; refine wpList_append_own_at _ rfl _ _ 41 rfl w1.heap.size 39 ic _ 1 8 Try.underlying41 hic hzc hsc hbc rfl (by decide) _ (fl F 1).length _ rfl (hown4.alloc _) ⟨w4.heap.size, 0, none⟩ 1 1 [.int .i64 4] rfl rfl ?d2 ?d3 ?d4 ?d5 ?d6 ?_)
        case d2 => exact cells_new (n := 1) (cs := #[.int .i64 4]) (by simp [go_sem])
        case d3 => simp [Value.oneCell']
        case d4 => have := hlen 1; simp only [maxLen]; omega
        case d5 => have := hlen 1; omega
        case d6 => have := hw4.size; simp; omega
        intro v' w5 Hnew hgr _ _
        have hb6 : Below w1.heap.size w1 w5 := (ba _ hw4).grown hgr (ba _ hw4).size (fun b hbk => (hown4.lt b hbk).1)
        have Hn := Lib.hid Hnew
        have Hb6 := Lib.hid hb6
        clear Hnew hb6 hgr hown4 hw4
        go_wp2
        go_roundw
        case rel => exact ⟨2, by omega, by go_num, by rw [E1.out, List.length_append, List.map_append]; exact Hn.out, Hb6.out⟩
        case measure => simp [intOf]
    | 2, _ =>
      obtain ⟨hB, c0, c1, c2, c3, ⟨a0, a1, a2, a3, a4, a5, a6, a7⟩, s0, s1, s2, s3⟩ := hC2
      have Hown := Lib.hid hown
      clear hown
      go_wp2_with fail
      have hbx := ba (.cells #[.int .i64 5, .func (.func 31) #[] c2] 55) (Below.refl wr.heap.size wr)
      refine (s2 _ hbx).mono ?_
      rintro _ w4 ⟨rfl, hb4⟩
      have hb5 := bt hbx hb4
      have hd0 : w4.cell? ⟨wr.heap.size, 0, none⟩ = some (.int .i64 5) := by rw [hb4.cell (p := ⟨wr.heap.size, 0, none⟩) (by simp)]; simp [go_sem]
      have Hb5 := Lib.hid hb5
      clear hb5 hb4 hbx a0 a1 a2 a3 a4 a5 a6 a7 s0 s1 s2 s3
      have hown4 := ownsRow_below Hown.out Hb5.out
      have hw4 := bt hbr Hb5.out
      cases f2 with
      | false =>
        have e1 : fl F 3 = fl F 2 := HL2.out
        have E1 := Lib.hid e1
        have Hown4 := Lib.hid hown4
        clear e1 hown4
        go_wp2
        go_roundw
        case rel => exact ⟨3, by omega, by go_num, by rw [E1.out]; exact Hown4.out, bt hbr Hb5.out⟩
        case measure => simp [intOf]
      | true =>
        have e1 : fl F 3 = fl F 2 ++ [5] := HL2.out
        have E1 := Lib.hid e1
        clear e1
        go_wp2_with (at_builtin; refine wpList_append_own_at _ rfl _ _ 41 rfl w1.heap.size 39 ic _ 1 8 Try.underlying41 hic hzc hsc hbc rfl (by decide) _ (fl F 2).length _ rfl (hown4.alloc _) ⟨w4.heap.size, 0, none⟩ 1 1 [.int .i64 5] rfl rfl ?d2 ?d3 ?d4 ?d5 ?d6 ?_)
        case d2 => exact cells_new (n := 1) (cs := #[.int .i64 5]) (by simp [go_sem])
        case d3 => simp [Value.oneCell']
        case d4 => have := hlen 2; simp only [maxLen]; omega
        case d5 => have := hlen 2; omega
        case d6 => have := hw4.size; simp; omega
        intro v' w5 Hnew hgr _ _
        have hb6 : Below w1.heap.size w1 w5 := (ba _ hw4).grown hgr (ba _ hw4).size (fun b hbk => (hown4.lt b hbk).1)
        have Hn := Lib.hid Hnew
        have Hb6 := Lib.hid hb6
        clear Hnew hb6 hgr hown4 hw4
        go_wp2
        go_roundw
        case rel => exact ⟨3, by omega, by go_num, by rw [E1.out, List.length_append, List.map_append]; exact Hn.out, Hb6.out⟩
        case measure => simp [intOf]
    | 3, _ =>
      obtain ⟨hB, c0, c1, c2, c3, ⟨a0, a1, a2, a3, a4, a5, a6, a7⟩, s0, s1, s2, s3⟩ := hC2
      have Hown := Lib.hid hown
      clear hown
      go_wp2_with fail
      have hbx := ba (.cells #[.int .i64 6, .func (.func 32) #[] c3] 55) (Below.refl wr.heap.size wr)
      refine (s3 _ hbx).mono ?_
      rintro _ w4 ⟨rfl, hb4⟩
      have hb5 := bt hbx hb4
      have hd0 : w4.cell? ⟨wr.heap.size, 0, none⟩ = some (.int .i64 6) := by rw [hb4.cell (p := ⟨wr.heap.size, 0, none⟩) (by simp)]; simp [go_sem]
      have Hb5 := Lib.hid hb5
      clear hb5 hb4 hbx a0 a1 a2 a3 a4 a5 a6 a7 s0 s1 s2 s3
      have hown4 := ownsRow_below Hown.out Hb5.out
      have hw4 := bt hbr Hb5.out
      cases f3 with
      | false =>
        have e1 : fl F 4 = fl F 3 := HL3.out
        have E1 := Lib.hid e1
        have Hown4 := Lib.hid hown4
        clear e1 hown4
        go_wp2
        go_roundw
        case rel => exact ⟨4, by omega, by go_num, by rw [E1.out]; exact Hown4.out, bt hbr Hb5.out⟩
        case measure => simp [intOf]
      | true =>
        have e1 : fl F 4 = fl F 3 ++ [6] := HL3.out
        have E1 := Lib.hid e1
        clear e1
        go_wp2_with (at_builtin; refine wpList_append_own_at _ rfl _ _ 41 rfl w1.heap.size 39 ic _ 1 8 Try.underlying41 hic hzc hsc hbc rfl (by decide) _ (fl F 3).length _ rfl (hown4.alloc _) ⟨w4.heap.size, 0, none⟩ 1 1 [.int .i64 6] rfl rfl ?d2 ?d3 ?d4 ?d5 ?d6 ?_)
        case d2 => exact cells_new (n := 1) (cs := #[.int .i64 6]) (by simp [go_sem])
        case d3 => simp [Value.oneCell']
        case d4 => have := hlen 3; simp only [maxLen]; omega
        case d5 => have := hlen 3; omega
        case d6 => have := hw4.size; simp; omega
        intro v' w5 Hnew hgr _ _
        have hb6 : Below w1.heap.size w1 w5 := (ba _ hw4).grown hgr (ba _ hw4).size (fun b hbk => (hown4.lt b hbk).1)
        have Hn := Lib.hid Hnew
        have Hb6 := Lib.hid hb6
        clear Hnew hb6 hgr hown4 hw4
        go_wp2
        go_roundw
        case rel => exact ⟨4, by omega, by go_num, by rw [E1.out, List.length_append, List.map_append]; exact Hn.out, Hb6.out⟩
        case measure => simp [intOf]
    | 4, _ =>
      have hfin := hwr
      go_wp2
      go_ret
      exact ⟨⟨_, rfl, ownsRow_base hown hw1.size⟩, hfin⟩

/-- The answer of the first check from k on that fails; 0 if none does. -/
def rest (f0 f1 f2 f3 : Bool) : Nat → Int
  | 0 => if f0 then 3 else if f1 then 4 else if f2 then 5 else if f3 then 6 else 0
  | 1 => if f1 then 4 else if f2 then 5 else if f3 then 6 else 0
  | 2 => if f2 then 5 else if f3 then 6 else 0
  | 3 => if f3 then 6 else 0
  | _ => 0

set_option maxHeartbeats 3200000 in
theorem check_any (r q : ByteArray) (ad bd : Option Addr) (n m c c2 : Nat) (A B : List ByteArray) (s e t mi sq now skew : Int) (k : Key) (w : World) (hs : Is64 s) (he : Is64 e) (ht : Is64 t) (hn : Is64 now) (hk : Is64 skew) (ha : StrsAt w ad n c A) (hb : StrsAt w bd m c2 B) :
    Calls Try.prog 14 #[.agg (tv r ad n c s e k), .agg #[.string q, .slice bd m c2, .int .i64 t, .int .u32 mi, .int .u32 sq], .int .i64 now, .int .i64 skew] w fun x w' =>
      x = .returned (.int .i64 (rest (decide (now < sat (s - skew))) (decide (sat (e + skew) < now)) (!nsame r q A B) (decide (skew < sat (max t now - min t now))) 0)) ∧ Below w.heap.size w w' := by
  have hb0 := ba (.cells #[.string q, .slice bd m c2, .int .i64 t, .int .u32 mi, .int .u32 sq] 33) (ba (.cells (tv r ad n c s e k) 27) (Below.refl _ w))
  have hC := fun w' => checks_any r q ad bd n m c c2 A B s e t mi sq now skew k w' hs he ht hn hk
  generalize decide (now < sat (s - skew)) = f0 at *
  generalize decide (sat (e + skew) < now) = f1 at *
  generalize (!nsame r q A B) = f2 at *
  generalize decide (skew < sat (max t now - min t now)) = f3 at *
  have HC := Lib.hid (hC _ (ha.below hb0) (hb.below hb0))
  obtain ⟨R, hR⟩ : ∃ R, rest f0 f1 f2 f3 0 = R := ⟨_, rfl⟩
  rw [hR]
  clear hC ha hb hs he ht hn hk
  go_enter Try.func14, Try.ntmps14
  go_wp2_with fail
  refine HC.out.mono ?_
  rintro _ w1 ⟨⟨B0, rfl, hC⟩, hb1⟩
  have hw1 := bt hb0 hb1
  clear hb0 hb1 HC
  go_wp2_with fail
  go_loopw [17] (fun i wr => ∃ k : Nat, k ≤ 4 ∧ i = .int .i64 k ∧ Hid (rest f0 f1 f2 f3 k = R) ∧ Below w1.heap.size w1 wr) (fun i _ => 4 - (intOf i).toNat)
  case atStart => exact ⟨0, Nat.zero_le _, rfl, hR, Below.refl _ _⟩
  case round =>
    obtain ⟨k, hk, rfl, hrest, hbr⟩ := hrel
    have hC2 := hC.below hbr
    have hwr := bt hw1 hbr
    clear hR
    match k, hk with
    | 0, _ =>
      obtain ⟨hB, c0, c1, c2, c3, ⟨a0, a1, a2, a3, a4, a5, a6, a7⟩, s0, s1, s2, s3⟩ := hC2
      go_wp2_with fail
      have hbx := ba (.cells #[.int .i64 3, .func (.func 29) #[] c0] 55) (Below.refl wr.heap.size wr)
      refine (s0 _ hbx).mono ?_
      rintro _ w4 ⟨rfl, hb4⟩
      have hb5 := bt hbx hb4
      have hd0 : w4.cell? ⟨wr.heap.size, 0, none⟩ = some (.int .i64 3) := by rw [hb4.cell (p := ⟨wr.heap.size, 0, none⟩) (by simp)]; simp [go_sem]
      have Hb5 := Lib.hid hb5
      clear hb5 hb4 hbx a0 a1 a2 a3 a4 a5 a6 a7 s0 s1 s2 s3
      cases f0 with
      | false =>
        have e1 : Hid (rest false f1 f2 f3 1 = R) := hrest
        clear hrest
        go_wp2
        go_roundw
        case rel => exact ⟨1, by omega, by go_num, e1, bt hbr Hb5.out⟩
        case measure => simp [intOf]
      | true =>
        have e1 : Hid ((3 : Int) = R) := hrest
        clear hrest
        have hfin := bt hwr Hb5.out
        go_wp2
        go_ret
        exact ⟨by rw [← e1.out]; rfl, hfin⟩
    | 1, _ =>
      obtain ⟨hB, c0, c1, c2, c3, ⟨a0, a1, a2, a3, a4, a5, a6, a7⟩, s0, s1, s2, s3⟩ := hC2
      go_wp2_with fail
      have hbx := ba (.cells #[.int .i64 4, .func (.func 30) #[] c1] 55) (Below.refl wr.heap.size wr)
      refine (s1 _ hbx).mono ?_
      rintro _ w4 ⟨rfl, hb4⟩
      have hb5 := bt hbx hb4
      have hd0 : w4.cell? ⟨wr.heap.size, 0, none⟩ = some (.int .i64 4) := by rw [hb4.cell (p := ⟨wr.heap.size, 0, none⟩) (by simp)]; simp [go_sem]
      have Hb5 := Lib.hid hb5
      clear hb5 hb4 hbx a0 a1 a2 a3 a4 a5 a6 a7 s0 s1 s2 s3
      cases f1 with
      | false =>
        have e1 : Hid (rest f0 false f2 f3 2 = R) := hrest
        clear hrest
        go_wp2
        go_roundw
        case rel => exact ⟨2, by omega, by go_num, e1, bt hbr Hb5.out⟩
        case measure => simp [intOf]
      | true =>
        have e1 : Hid ((4 : Int) = R) := hrest
        clear hrest
        have hfin := bt hwr Hb5.out
        go_wp2
        go_ret
        exact ⟨by rw [← e1.out]; rfl, hfin⟩
    | 2, _ =>
      obtain ⟨hB, c0, c1, c2, c3, ⟨a0, a1, a2, a3, a4, a5, a6, a7⟩, s0, s1, s2, s3⟩ := hC2
      go_wp2_with fail
      have hbx := ba (.cells #[.int .i64 5, .func (.func 31) #[] c2] 55) (Below.refl wr.heap.size wr)
      refine (s2 _ hbx).mono ?_
      rintro _ w4 ⟨rfl, hb4⟩
      have hb5 := bt hbx hb4
      have hd0 : w4.cell? ⟨wr.heap.size, 0, none⟩ = some (.int .i64 5) := by rw [hb4.cell (p := ⟨wr.heap.size, 0, none⟩) (by simp)]; simp [go_sem]
      have Hb5 := Lib.hid hb5
      clear hb5 hb4 hbx a0 a1 a2 a3 a4 a5 a6 a7 s0 s1 s2 s3
      cases f2 with
      | false =>
        have e1 : Hid (rest f0 f1 false f3 3 = R) := hrest
        clear hrest
        go_wp2
        go_roundw
        case rel => exact ⟨3, by omega, by go_num, e1, bt hbr Hb5.out⟩
        case measure => simp [intOf]
      | true =>
        have e1 : Hid ((5 : Int) = R) := hrest
        clear hrest
        have hfin := bt hwr Hb5.out
        go_wp2
        go_ret
        exact ⟨by rw [← e1.out]; rfl, hfin⟩
    | 3, _ =>
      obtain ⟨hB, c0, c1, c2, c3, ⟨a0, a1, a2, a3, a4, a5, a6, a7⟩, s0, s1, s2, s3⟩ := hC2
      go_wp2_with fail
      have hbx := ba (.cells #[.int .i64 6, .func (.func 32) #[] c3] 55) (Below.refl wr.heap.size wr)
      refine (s3 _ hbx).mono ?_
      rintro _ w4 ⟨rfl, hb4⟩
      have hb5 := bt hbx hb4
      have hd0 : w4.cell? ⟨wr.heap.size, 0, none⟩ = some (.int .i64 6) := by rw [hb4.cell (p := ⟨wr.heap.size, 0, none⟩) (by simp)]; simp [go_sem]
      have Hb5 := Lib.hid hb5
      clear hb5 hb4 hbx a0 a1 a2 a3 a4 a5 a6 a7 s0 s1 s2 s3
      cases f3 with
      | false =>
        have e1 : Hid (rest f0 f1 f2 false 4 = R) := hrest
        clear hrest
        go_wp2
        go_roundw
        case rel => exact ⟨4, by omega, by go_num, e1, bt hbr Hb5.out⟩
        case measure => simp [intOf]
      | true =>
        have e1 : Hid ((6 : Int) = R) := hrest
        clear hrest
        have hfin := bt hwr Hb5.out
        go_wp2
        go_ret
        exact ⟨by rw [← e1.out]; rfl, hfin⟩
    | 4, _ =>
      have e1 : Hid ((0 : Int) = R) := hrest
      clear hrest
      have hfin := hwr
      go_wp2
      go_ret
      exact ⟨by rw [← e1.out]; rfl, hfin⟩
end Go.Proofs.Ytmmimjpgaalbcaa
