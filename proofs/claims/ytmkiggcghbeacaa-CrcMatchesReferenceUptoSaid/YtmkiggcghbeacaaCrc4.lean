/- What Append and Check of package crc and of its reference compute. Conditions: the slices read as bytes, and are not too long. -/
import Derived.Test.YtmkiggcghbeacaaWire3
set_option linter.unusedSimpArgs false
set_option linter.unusedVariables false
namespace Go.Proofs.Ytmkiggcghbeacaa
open Go.RowKit

theorem Ps.one {w : World} {B : Nat} {ad : Option Addr} {n c : Nat} {l : List UInt8} (hr : readAt w B 0 1 = some #[.slice ad n c]) (hl : Bs w ad n c l) : Ps w (some ⟨B, 0, none⟩) 1 1 [l] := by
  refine ⟨rfl, Nat.le_refl _, by omega, fun i hi => ?_⟩
  obtain rfl : i = 0 := by omega
  exact ⟨B, 0, ad, n, c, rfl, hr, hl⟩
theorem Ps.two {w : World} {B : Nat} {ad bd : Option Addr} {n c m c2 : Nat} {l l2 : List UInt8} (hr : readAt w B 0 2 = some #[.slice ad n c, .slice bd m c2]) (hl : Bs w ad n c l) (hl2 : Bs w bd m c2 l2) : Ps w (some ⟨B, 0, none⟩) 2 2 [l, l2] := by
  refine ⟨rfl, Nat.le_refl _, by omega, fun i hi => ?_⟩
  have h : i = 0 ∨ i = 1 := by omega
  rcases h with rfl | rfl
  · exact ⟨B, 0, ad, n, c, rfl, readAt_sub hr 0 1 (by omega) (by omega), hl⟩
  · exact ⟨B, 0, bd, m, c2, rfl, readAt_sub hr 1 1 (by omega) (by omega), hl2⟩
theorem csum_lt (l : List UInt8) : csum l < 4294967296 := by unfold csum; omega

set_option maxHeartbeats 800000 in
theorem append_any (ad : Option Addr) (n c : Nat) (l : List UInt8) (w : World) (hl : Bs w ad n c l) (hs : n ≤ 1073741824) :
    Calls Try.prog 15 #[.slice ad n c] w fun e w' => (∃ v, e = .returned v ∧ ByOwn w' w.heap.size v (l ++ be 4 (csum l))) ∧ Below w.heap.size w w' := by
  have hcs := csum_lt l
  have hb0 := ba (.cells #[.slice ad n c] 24) (Below.refl w.heap.size w)
  have HP := Lib.hid (Ps.one (w := w.alloc (.cells #[.slice ad n c] 24)) (B := w.heap.size) (by simp [go_sem]) (hl.below hb0))
  have Hl := Lib.hid hl
  have Hlen := Lib.hid hl.1
  have hfl : ([l] : List (List UInt8)).flatten = l := by simp
  have Hfl := Lib.hid hfl
  clear hl hfl
  go_enter Try.func15, Try.ntmps15
  go_wp2_with fail
  refine (sum_any _ 1 1 [l] _ HP.out).mono ?_
  rw [Hfl.out]
  rintro _ w1 ⟨rfl, hb1⟩
  have hb1' := Lib.hid (bt hb0 hb1)
  clear hb0 hb1 HP
  obtain ⟨S, hS⟩ : ∃ S, csum l = S := ⟨_, rfl⟩
  rw [hS] at hcs ⊢
  have HS := Lib.hid hS
  clear hS
  go_wp2_with fail
  refine (wnumber_any 4 S _ (by omega) (by omega) (by omega) (by omega)).mono ?_
  rintro _ w2 ⟨⟨B, hB, rfl, hbe⟩, hb2⟩
  have hb3 := bt hb1'.out hb2
  have Hl2 := Hl.out.below hb3
  have hb4 := ba (.cells #[.slice ad n c, .slice (some ⟨B, 0, none⟩) 4 4] 24) (Below.refl w2.heap.size w2)
  have HP := Lib.hid (Ps.two (w := w2.alloc (.cells #[.slice ad n c, .slice (some ⟨B, 0, none⟩) 4 4] 24)) (B := w2.heap.size) (by simp [go_sem]) (Hl2.below hb4) (hbe.below hb4))
  have Hb5 := Lib.hid (bt hb3 hb4)
  clear hbe hb2 hb1' hb3 hb4 Hl2 hB
  go_wp2_with fail
  refine (join_any _ 2 2 _ _ HP.out (by simp [Hlen.out]; omega)).mono ?_
  rintro _ w3 ⟨⟨v, rfl, hne, hown⟩, hb6⟩
  have hfin := bt Hb5.out hb6
  have hown2 : Hid (ByOwn w3 w.heap.size v (l ++ be 4 S)) := by
    have h := hown
    rw [show ([l, be 4 S] : List (List UInt8)).flatten = l ++ be 4 S by simp] at h
    exact ownsRow_base h Hb5.out.size
  clear hown HP Hb5 hne hb6
  go_wp2
  go_ret
  exact ⟨⟨_, rfl, by rw [HS.out]; exact hown2.out⟩, hfin⟩

/-- A checked string. -/
def okC (l : List UInt8) : Bool := decide (nb (l.drop (l.length - 4)) = csum (l.take (l.length - 4)))

def Checked (l : List UInt8) (base : Nat) (e : Ending) (w' : World) : Prop :=
  ∃ v, e = .returned (.tuple #[v, .bool true]) ∧ ByOwn w' base v (l.take (l.length - 4))

def CheckPost (l : List UInt8) (base : Nat) (e : Ending) (w' : World) : Prop := if okC l = true then Checked l base e w' else e = .returned (.tuple #[.slice none 0 0, .bool false])

set_option maxHeartbeats 1600000 in
theorem check_all (ad : Option Addr) (n c : Nat) (l : List UInt8) (w : World) (hl : Bs w ad n c l) (hs : n ≤ 1073741824) (h4 : 4 ≤ n) :
    Calls Try.prog 12 #[.slice ad n c] w fun e w' => CheckPost l w.heap.size e w' ∧ Below w.heap.size w w' := by
  have d0 : decide ((n : Int) < 4) = false := by simp; omega
  obtain ⟨b, o, rfl, hrd⟩ := hl.2.2.2.2 (by omega)
  have hnc := hl.2.1
  have hmx := hl.2.2.1
  have hlen := hl.1
  have hT := hl.take (n - 4) c (by omega) (by omega) (Nat.le_refl _)
  have hD := hl.drop (n - 4) (by omega)
  have hdl : (l.drop (n - 4)).length = 4 := by rw [hD.1]; omega
  have hnb := nb_lt (l.drop (n - 4))
  rw [hdl, show 256 ^ 4 = 4294967296 by decide] at hnb
  have hcs := csum_lt (l.take (n - 4))
  have hok : okC l = decide (nb (l.drop (n - 4)) = csum (l.take (n - 4))) := by unfold okC; rw [hlen]
  have hres : Checked l w.heap.size = fun e w' => ∃ v, e = .returned (.tuple #[v, .bool true]) ∧ ByOwn w' w.heap.size v (l.take (n - 4)) := by unfold Checked; rw [hlen]
  have Hok := Lib.hid hok
  have Hres := Lib.hid hres
  have Hdl := Lib.hid hdl
  have HT := Lib.hid hT
  have HD := Lib.hid hD
  clear hl hrd hok hres hdl hT hD hlen
  have htk : (l.drop (n - 4)).take 4 = l.drop (n - 4) := List.take_of_length_le (by rw [Hdl.out]; exact Nat.le_refl _)
  have Htk := Lib.hid htk
  clear htk
  generalize l.drop (n - 4) = D at *
  generalize l.take (n - 4) = T at *
  have hsub : (n : Int) - 4 = ((n - 4 : Nat) : Int) := by omega
  have Hsub := Lib.hid hsub
  clear hsub
  go_enter Try.func12, Try.ntmps12
  go_wp2_with fail
  refine (new_any _ _ _ D _ HD.out (by omega)).mono ?_
  rintro _ w1 ⟨⟨B, hB, rfl, hrd⟩, hb1⟩
  have Hrd := Lib.hid hrd
  have Hb1 := Lib.hid hb1
  clear hrd hb1
  go_wp2_with fail
  refine (Number_ok B D 4 _ Hrd.out (by omega) (by omega) (by rw [Hdl.out]; exact Nat.le_refl _)).mono ?_
  rw [Htk.out]
  rintro _ w2 ⟨rfl, _, ho⟩
  have Hb2 := Lib.hid (ho.below Hb1.out hB)
  clear ho Hrd Hb1 Htk
  generalize hX : nb D = X at *
  have HX := Lib.hid hX
  clear hX
  have HT2 := HT.out.below Hb2.out
  have hx := ba (.cells #[.slice (some ⟨b, o, none⟩) (n - 4) c] 24) (Below.refl w2.heap.size w2)
  have HP := Lib.hid (Ps.one (w := w2.alloc (.cells #[.slice (some ⟨b, o, none⟩) (n - 4) c] 24)) (B := w2.heap.size) (by simp [go_sem]) (HT2.below hx))
  have Hb3 := Lib.hid (bt Hb2.out hx)
  have hfl : ([T] : List (List UInt8)).flatten = T := by simp
  have Hfl := Lib.hid hfl
  clear hfl HT2 hx
  go_wp2_with fail
  refine (sum_any _ 1 1 [T] _ HP.out).mono ?_
  rw [Hfl.out]
  rintro _ w3 ⟨rfl, hb3⟩
  have Hb4 := Lib.hid (bt Hb3.out hb3)
  clear hb3 HP Hb3
  by_cases heq : X = csum T
  · subst heq
    have hne : ((csum T : Int) != (csum T : Int)) = false := by simp
    have HT2 := HT.out.below Hb4.out
    have hx := ba (.cells #[.slice (some ⟨b, o, none⟩) (n - 4) c] 24) (Below.refl w3.heap.size w3)
    have HP := Lib.hid (Ps.one (w := w3.alloc (.cells #[.slice (some ⟨b, o, none⟩) (n - 4) c] 24)) (B := w3.heap.size) (by simp [go_sem]) (HT2.below hx))
    have Hb5 := Lib.hid (bt Hb4.out hx)
    have htl : T.length = n - 4 := HT.out.1
    have Htl := Lib.hid htl
    clear HT2 hx Hb2 Hb4 htl
    go_wp2_with fail
    refine (join_any _ 1 1 [T] _ HP.out (by rw [Hfl.out, Htl.out]; omega)).mono ?_
    rw [Hfl.out]
    rintro _ w4 ⟨⟨v, rfl, hne2, hown⟩, hb6⟩
    have hfin := Lib.hid (bt Hb5.out hb6)
    have hown2 := Lib.hid (ownsRow_base hown Hb5.out.size)
    clear hown hb6 hne2 HP
    go_wp2
    go_ret2
    refine ⟨?_, hfin.out⟩
    unfold CheckPost
    rw [if_pos (by rw [Hok.out]; simp), Hres.out]
    exact ⟨_, rfl, hown2.out⟩
  · have hne : ((X : Int) != (csum T : Int)) = true := by rw [bne_iff_ne]; omega
    have Hq := Lib.hid heq
    clear heq
    generalize hS : csum T = S at *
    have HS := Lib.hid hS
    clear hS
    go_wp2
    go_ret2
    refine ⟨?_, Hb4.out⟩
    unfold CheckPost
    rw [if_neg (by rw [Hok.out]; simpa using Hq.out)]
    rfl
theorem check_short (ad : Option Addr) (n c : Nat) (w : World) (h4 : n < 4) :
    Calls Try.prog 12 #[.slice ad n c] w fun e w' => e = .returned (.tuple #[.slice none 0 0, .bool false]) ∧ w = w' := by
  have d0 : decide ((n : Int) < 4) = true := by simp; omega
  go_enter Try.func12, Try.ntmps12
  go_wp2
  go_ret2
  exact ⟨rfl, rfl⟩

/-! ### the reference -/
theorem be_four (x : Nat) : be 4 x = [UInt8.ofNat (x / 16777216), UInt8.ofNat (x / 65536), UInt8.ofNat (x / 256), UInt8.ofNat x] := by
  simp [be, List.range, List.range.loop]
theorem nb_be4 (x : Nat) (h : x < 4294967296) : nb (be 4 x) = x := by
  rw [be_four]
  simp only [nb, List.foldl_cons, List.foldl_nil, UInt8.toNat_ofNat']
  omega
theorem nb_inj4 (l : List UInt8) (h : l.length = 4) (x : Nat) (hx : x < 4294967296) : nb l = x ↔ l = be 4 x := by
  constructor
  · intro e
    match l, h with
    | [a, b, c, d], _ =>
      rw [be_four]
      have h1 := a.toNat_lt; have h2 := b.toNat_lt; have h3 := c.toNat_lt; have h4 := d.toNat_lt
      simp only [nb, List.foldl_cons, List.foldl_nil] at e
      have e1 : a = UInt8.ofNat (x / 16777216) := UInt8.toNat_inj.1 (by rw [UInt8.toNat_ofNat']; omega)
      have e2 : b = UInt8.ofNat (x / 65536) := UInt8.toNat_inj.1 (by rw [UInt8.toNat_ofNat']; omega)
      have e3 : c = UInt8.ofNat (x / 256) := UInt8.toNat_inj.1 (by rw [UInt8.toNat_ofNat']; omega)
      have e4 : d = UInt8.ofNat x := UInt8.toNat_inj.1 (by rw [UInt8.toNat_ofNat']; omega)
      rw [e1, e2, e3, e4]
  · rintro rfl; exact nb_be4 x hx
theorem okC_iff (l : List UInt8) (h : 4 ≤ l.length) : okC l = decide (l.drop (l.length - 4) = be 4 (csum (l.take (l.length - 4)))) := by
  unfold okC
  have := nb_inj4 (l.drop (l.length - 4)) (by simp; omega) _ (csum_lt (l.take (l.length - 4)))
  by_cases h1 : nb (l.drop (l.length - 4)) = csum (l.take (l.length - 4))
  · rw [decide_eq_true h1, decide_eq_true (this.1 h1)]
  · rw [decide_eq_false h1, decide_eq_false (fun e => h1 (this.2 e))]

set_option maxHeartbeats 1600000 in
theorem rcheck_any (ad : Option Addr) (n c : Nat) (l : List UInt8) (w : World) (hl : Bs w ad n c l) (h4 : 4 ≤ n) :
    Calls Try.prog 13 #[.slice ad n c] w fun e w' => e = .returned (.bool (okC l)) ∧ w = w' := by
  have d0 : decide ((n : Int) - 4 < 0) = false := by simp; omega
  obtain ⟨b, o, rfl, hrd⟩ := hl.2.2.2.2 (by omega)
  have hnc := hl.2.1
  have hmx := hl.2.2.1
  have hlen := hl.1
  have hT := hl.take (n - 4) c (by omega) (by omega) (Nat.le_refl _)
  have hok := okC_iff l (by omega)
  rw [hlen] at hok
  have hcs := csum_lt (l.take (n - 4))
  obtain ⟨m, rfl⟩ : ∃ m, n = m + 4 := ⟨n - 4, by omega⟩
  rw [Nat.add_sub_cancel] at hT hok hcs
  have h0 := readAt_cell hrd m (B8 (l.getD m 0)) (by simp [bv, List.getD, show m < l.length by omega])
  have h1 := readAt_cell hrd (m + 1) (B8 (l.getD (m + 1) 0)) (by simp [bv, List.getD, show m + 1 < l.length by omega])
  have h2 := readAt_cell hrd (m + 2) (B8 (l.getD (m + 2) 0)) (by simp [bv, List.getD, show m + 2 < l.length by omega])
  have h3 := readAt_cell hrd (m + 3) (B8 (l.getD (m + 3) 0)) (by simp [bv, List.getD, show m + 3 < l.length by omega])
  have hD : l.drop m = [l.getD m 0, l.getD (m + 1) 0, l.getD (m + 2) 0, l.getD (m + 3) 0] := by
    apply List.ext_getElem
    · simp; omega
    · intro i hi1 hi2
      simp at hi1 hi2
      have : i = 0 ∨ i = 1 ∨ i = 2 ∨ i = 3 := by omega
      rcases this with rfl | rfl | rfl | rfl <;> simp [List.getD, show m < l.length by omega, show m + 1 < l.length by omega, show m + 2 < l.length by omega, show m + 3 < l.length by omega]
  rw [hD, be_four] at hok
  have hB : ∀ (x : UInt8) (y : Nat), ((x.toNat : Int) == (y : Int) % 256) = decide (x = UInt8.ofNat y) := by
    intro x y
    have hx := x.toNat_lt
    by_cases h : x = UInt8.ofNat y
    · rw [decide_eq_true h, h, UInt8.toNat_ofNat']; simp
    · rw [decide_eq_false h]
      rw [beq_eq_false_iff_ne]
      intro e
      exact h (UInt8.toNat_inj.1 (by rw [UInt8.toNat_ofNat']; omega))
  simp only [B8] at h0 h1 h2 h3
  generalize l.getD m 0 = a0 at *
  generalize l.getD (m + 1) 0 = a1 at *
  generalize l.getD (m + 2) 0 = a2 at *
  generalize l.getD (m + 3) 0 = a3 at *
  have HT := Lib.hid hT
  clear hl hrd hT hlen hD
  generalize l.take m = T at *
  obtain ⟨S, hS⟩ : ∃ S, csum T = S := ⟨_, rfl⟩
  rw [hS] at hok hcs
  have HS := Lib.hid hS
  clear hS
  rw [hok]
  simp only [List.cons.injEq, and_true]
  have q0 := hB a0 (S / 16777216)
  have q1 := hB a1 (S / 65536)
  have q2 := hB a2 (S / 256)
  have q3 := hB a3 S
  clear hok hB
  rw [Int.natCast_ediv] at q0 q1 q2
  have z0 : ((16777216 : Nat) : Int) = 16777216 := rfl
  have z1 : ((65536 : Nat) : Int) = 65536 := rfl
  have z2 : ((256 : Nat) : Int) = 256 := rfl
  rw [z0, show (S : Int) / 16777216 % 256 = (S : Int) / 16777216 by omega] at q0
  rw [z1] at q1
  rw [z2] at q2
  clear z0 z1 z2
  have hfin : decide (a0 = UInt8.ofNat (S / 16777216) ∧ a1 = UInt8.ofNat (S / 65536) ∧ a2 = UInt8.ofNat (S / 256) ∧ a3 = UInt8.ofNat S) = (decide (a0 = UInt8.ofNat (S / 16777216)) && (decide (a1 = UInt8.ofNat (S / 65536)) && (decide (a2 = UInt8.ofNat (S / 256)) && decide (a3 = UInt8.ofNat S)))) := by
    simp only [Bool.decide_and]
  rw [hfin]
  generalize decide (a0 = UInt8.ofNat (S / 16777216)) = t0 at *
  generalize decide (a1 = UInt8.ofNat (S / 65536)) = t1 at *
  generalize decide (a2 = UInt8.ofNat (S / 256)) = t2 at *
  generalize decide (a3 = UInt8.ofNat S) = t3 at *
  generalize (a0.toNat : Int) = y0 at *
  generalize (a1.toNat : Int) = y1 at *
  generalize (a2.toNat : Int) = y2 at *
  generalize (a3.toNat : Int) = y3 at *
  clear hfin
  cases t0 with
  | false =>
    go_enter Try.func13, Try.ntmps13
    go_wp2_with fail
    refine (rsum_any _ _ _ T _ HT.out).mono ?_
    rw [HS.out]
    rintro _ _ ⟨rfl, rfl⟩
    go_wp2
    go_ret
    exact ⟨rfl, rfl⟩
  | true =>
    cases t1 with
    | false =>
      go_enter Try.func13, Try.ntmps13
      go_wp2_with fail
      refine (rsum_any _ _ _ T _ HT.out).mono ?_
      rw [HS.out]
      rintro _ _ ⟨rfl, rfl⟩
      go_wp2
      go_ret
      exact ⟨rfl, rfl⟩
    | true =>
      cases t2 with
      | false =>
        go_enter Try.func13, Try.ntmps13
        go_wp2_with fail
        refine (rsum_any _ _ _ T _ HT.out).mono ?_
        rw [HS.out]
        rintro _ _ ⟨rfl, rfl⟩
        go_wp2
        go_ret
        exact ⟨rfl, rfl⟩
      | true =>
        cases t3 with
        | false =>
          go_enter Try.func13, Try.ntmps13
          go_wp2_with fail
          refine (rsum_any _ _ _ T _ HT.out).mono ?_
          rw [HS.out]
          rintro _ _ ⟨rfl, rfl⟩
          go_wp2
          go_ret
          exact ⟨rfl, rfl⟩
        | true =>
          go_enter Try.func13, Try.ntmps13
          go_wp2_with fail
          refine (rsum_any _ _ _ T _ HT.out).mono ?_
          rw [HS.out]
          rintro _ _ ⟨rfl, rfl⟩
          go_wp2
          go_ret
          exact ⟨rfl, rfl⟩
end Go.Proofs.Ytmkiggcghbeacaa
