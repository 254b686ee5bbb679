/- What slices.Clone of bytes, New and the reads of package wire compute. Conditions: the slices read as bytes; the reader reads as one. -/
import Derived.Test.YtlonmghkdobhdaaWire1
set_option linter.unusedSimpArgs false
set_option linter.unusedVariables false
namespace Go.Proofs.Ytlonmghkdobhdaa
open Go.RowKit

set_option maxHeartbeats 800000 in
theorem clone_any (a : Addr) (n c : Nat) (l : List UInt8) (w : World) (hl : Bs w (some a) n c l) (hs : n ≤ 1099511627776) :
    Calls Try.prog 38 #[.slice (some a) n c] w fun e w' => (∃ v, e = .returned v ∧ NotNil v ∧ ByOwn w' w.heap.size v l) ∧ Below w.heap.size w w' := by
  obtain ⟨i0, hi, hz, hsz, hby⟩ := info_parts view_u8
  have hown0 : (w.alloc (.cells #[] 5)).ownsRow w.heap.size 5 1 (.slice (some ⟨w.heap.size, 0, none⟩) 0 0) 0 [] :=
    World.ownsRow_made (size := 1) w #[] 0 (Nat.le_refl _) (by simp [maxLen]) (by simp)
  have hbz := run_buildSlice_zero (P := Try.prog) w 23 5 i0 Try.underlying23 hi
  have hb0 := ba (.cells #[] 5) (Below.refl w.heap.size w)
  have heq := fun (w : World) (a : Addr) (n c : Nat) => Lib.run_eql_slice_nil (P := Try.prog) w 23 5 (some a) n c 0 0 Try.underlying23
  obtain ⟨a', ha', hsrc⟩ : ∃ a', some a = some a' ∧ ∀ j u, (l.map B8)[j]? = some u → (w.alloc (.cells #[] 5)).cell? (a'.add j) = some u := by
    rcases (hl.below hb0).src with ⟨h, _⟩ | h
    · cases h
    · exact h
  cases ha'
  have Hlen := Lib.hid hl.1
  have Hsrc := Lib.hid hsrc
  have Hown := Lib.hid hown0
  have Hb0 := Lib.hid hb0
  clear hl hsrc hown0 hb0
  go_enter Try.func38, Try.ntmps38
  go_wp2_with (at_builtin; refine wpList_append_own _ rfl _ _ 23 rfl w.heap.size 5 i0 _ 1 1 Try.underlying23 hi hz hsz hby rfl (by decide) _ 0 _ rfl Hown.out a n c (l.map B8) rfl ?c1 Hsrc.out ?c3 ?c4 ?c5 ?c6 ?_)
  case c1 => rw [List.length_map, Hlen.out]; omega
  case c3 => exact map_B8_one _
  case c4 => simp only [maxLen]; omega
  case c5 => omega
  case c6 => exact Hb0.out.size
  intro v' w3 hown3 hgr hnil
  have hne3 : Hid (NotNil v') := hnil
  have hb4 := Lib.hid (Hb0.out.grown hgr Hb0.out.size (fun b hbk => (Hown.out.lt b hbk).1))
  have hown4 : Hid (ByOwn w3 w.heap.size v' l) := by
    show ByOwn _ _ _ _
    unfold ByOwn
    rw [Hlen.out]
    exact hown3
  clear hown3 hgr Hown hnil
  go_wp2
  go_ret
  exact ⟨⟨_, rfl, hne3.out, hown4.out⟩, hb4.out⟩

/-! ### readers -/
/-- A reader whose next bytes are l. -/
def Rdr (w : World) (B : Nat) (l : List UInt8) : Prop :=
  canAt w B 0 2 = true ∧ ∃ g o c, g ≠ B ∧ readAt w B 0 2 = some #[.slice (some ⟨g, o, none⟩) l.length c, .bool false] ∧ Bs w (some ⟨g, o, none⟩) l.length c l
/-- A reader of which a read has failed. -/
def RdrBad (w : World) (B : Nat) : Prop := canAt w B 0 2 = true ∧ readAt w B 0 2 = some #[.slice none 0 0, .bool true]
/-- Nothing but block B has changed. -/
structure OnlyB (B : Nat) (w w' : World) : Prop where
  os : w'.os = w.os
  tape : w'.tape = w.tape
  output : w'.output = w.output
  size : w'.heap.size = w.heap.size
  block : ∀ k, k ≠ B → w'.heap[k]? = w.heap[k]?
theorem OnlyB.below {B base : Nat} {w0 w w' : World} (h : OnlyB B w w') (hb : Below base w0 w) (hB : base ≤ B) : Below base w0 w' :=
  hb.trans ⟨h.os, h.tape, h.output, by rw [h.size]; exact Nat.le_refl _, fun k hk => h.block k (by omega)⟩
theorem OnlyB.readAt {B : Nat} {w w' : World} (h : OnlyB B w w') (b o n : Nat) (hb : b ≠ B) : readAt w' b o n = readAt w b o n := by
  simp [Proofs.Ytlonmghkdobhdaa.readAt, h.block b hb]
theorem OnlyB.bs {B : Nat} {w w' : World} (h : OnlyB B w w') {g o n c : Nat} {l : List UInt8} (hg : g ≠ B) (hl : Bs w (some ⟨g, o, none⟩) n c l) : Bs w' (some ⟨g, o, none⟩) n c l := by
  obtain ⟨h1, h2, h3, h4, h5⟩ := hl
  refine ⟨h1, h2, h3, h4, fun h0 => ?_⟩
  obtain ⟨b, o', e, hr⟩ := h5 h0
  cases e
  exact ⟨g, o, rfl, by rw [h.readAt _ _ _ hg]; exact hr⟩
theorem OnlyB.trans {B : Nat} {w w1 w2 : World} (h : OnlyB B w w1) (h2 : OnlyB B w1 w2) : OnlyB B w w2 :=
  ⟨h2.os.trans h.os, h2.tape.trans h.tape, h2.output.trans h.output, h2.size.trans h.size, fun k hk => (h2.block k hk).trans (h.block k hk)⟩
theorem OnlyB.refl (B : Nat) (w : World) : OnlyB B w w := ⟨rfl, rfl, rfl, rfl, fun _ _ => rfl⟩
theorem OnlyB.setAt (w : World) (B o : Nat) (cs : Array Value) : OnlyB B w (setAt w B o cs) := by
  refine ⟨?_, ?_, ?_, by simp, fun k hk => setAt_other w B o cs k hk⟩ <;> (unfold Proofs.Ytlonmghkdobhdaa.setAt; split <;> rfl)
theorem Rdr.lt {w : World} {B : Nat} {l : List UInt8} (h : Rdr w B l) : B < w.heap.size := canAt_lt h.1
theorem Rdr.below {w w' : World} {B : Nat} {l : List UInt8} (h : Rdr w B l) (hb : Below w.heap.size w w') : Rdr w' B l := by
  have hlt := h.lt
  obtain ⟨h1, g, o, c, h2, h3, h4⟩ := h
  exact ⟨by rw [canAt_below hb hlt]; exact h1, g, o, c, h2, by rw [readAt_below hb hlt]; exact h3, h4.below hb⟩
theorem RdrBad.below {w w' : World} {B : Nat} (h : RdrBad w B) (hb : Below w.heap.size w w') : RdrBad w' B :=
  ⟨by rw [canAt_below hb (canAt_lt h.1)]; exact h.1, by rw [readAt_below hb (readAt_lt h.2)]; exact h.2⟩

set_option maxHeartbeats 400000 in
theorem new_any (a : Addr) (n c : Nat) (l : List UInt8) (w : World) (hl : Bs w (some a) n c l) (hs : n ≤ 1099511627776) :
    Calls Try.prog 28 #[.slice (some a) n c] w fun e w' => (∃ B, w.heap.size ≤ B ∧ e = .returned (.pointer (some ⟨B, 0, none⟩)) ∧ Rdr w' B l) ∧ Below w.heap.size w w' := by
  go_enter Try.func28, Try.ntmps28
  go_wp2_with fail
  refine (clone_any a n c l _ hl hs).mono ?_
  rintro _ w1 ⟨⟨v, rfl, hne, hown⟩, hb1⟩
  obtain ⟨ad, c1, rfl, hbs⟩ := hown.bs
  have had : ∃ g o, ad = some ⟨g, o, none⟩ ∧ g < w1.heap.size := by
    rcases hown.2 with ⟨h, _⟩ | ⟨g, cap, cur, hv, _, hg, _⟩
    · exact absurd h hne
    · simp only [Value.slice.injEq] at hv
      exact ⟨g, 0, hv.1, (Array.getElem?_eq_some_iff.1 hg).1⟩
  obtain ⟨g, o, rfl, hg⟩ := had
  clear hne hown hl
  have Hbs := Lib.hid hbs
  clear hbs
  go_wp2
  go_ret
  refine ⟨⟨w1.heap.size, hb1.size, rfl, ?_⟩, ba _ hb1⟩
  exact ⟨by simp [go_sem], g, o, c1, by omega, by simp [go_sem], Hbs.out.below (ba _ (Below.refl _ _))⟩

theorem set_two {w : World} {B : Nat} (v1 v2 x y : Value) (h : canAt w B 0 2 = true) (hr : readAt w B 0 2 = some #[v1, v2]) :
    OnlyB B w ((w.setCell ⟨B, 1, none⟩ y).setCell ⟨B, 0, none⟩ x) ∧ canAt ((w.setCell ⟨B, 1, none⟩ y).setCell ⟨B, 0, none⟩ x) B 0 2 = true ∧ readAt ((w.setCell ⟨B, 1, none⟩ y).setCell ⟨B, 0, none⟩ x) B 0 2 = some #[x, y] := by
  have c1 := canAt_sub h 1 1 (by omega)
  have c0 := canAt_sub h 0 1 (by omega)
  rw [setCell_setAt c1]
  have c0' : canAt (setAt w B 1 #[y]) B 0 1 = true := by rw [canAt_setAt _ _ _ _ _ _ _ (by exact c1)]; exact c0
  have h' : canAt (setAt w B 1 #[y]) B 0 2 = true := by rw [canAt_setAt _ _ _ _ _ _ _ (by exact c1)]; exact h
  rw [setCell_setAt c0']
  have r1 := readAt_setAt_over w B 0 2 _ hr h 1 #[y] (by omega) (by simp)
  have r0 := readAt_setAt_over _ B 0 2 _ r1 h' 0 #[x] (by omega) (by simp)
  refine ⟨(OnlyB.setAt _ _ _ _).trans (OnlyB.setAt _ _ _ _), by rw [canAt_setAt _ _ _ _ _ _ _ (by exact c0')]; exact h', ?_⟩
  rw [r0]
  simp [putAt]
theorem set_one {w : World} {B : Nat} (v1 v2 x : Value) (h : canAt w B 0 2 = true) (hr : readAt w B 0 2 = some #[v1, v2]) :
    OnlyB B w (w.setCell ⟨B, 0, none⟩ x) ∧ canAt (w.setCell ⟨B, 0, none⟩ x) B 0 2 = true ∧ readAt (w.setCell ⟨B, 0, none⟩ x) B 0 2 = some #[x, v2] := by
  have c0 := canAt_sub h 0 1 (by omega)
  rw [setCell_setAt c0]
  have r0 := readAt_setAt_over w B 0 2 _ hr h 0 #[x] (by omega) (by simp)
  refine ⟨OnlyB.setAt _ _ _ _, by rw [canAt_setAt _ _ _ _ _ _ _ (by exact c0)]; exact h, ?_⟩
  rw [r0]
  simp [putAt]

theorem fail_any (B : Nat) (v1 v2 : Value) (w : World) (hc : canAt w B 0 2 = true) (hr : readAt w B 0 2 = some #[v1, v2]) :
    Calls Try.prog 40 #[.pointer (some ⟨B, 0, none⟩)] w fun e w' => e = .returned (.tuple #[]) ∧ RdrBad w' B ∧ OnlyB B w w' := by
  have f0 := canAt_cell hc 0
  have f1 := canAt_cell hc 1
  have g0 := readAt_cell hr 0 _ rfl
  have g1 := readAt_cell hr 1 _ rfl
  simp only [Nat.zero_add] at f0 f1 g0 g1
  have h := set_two v1 v2 (.slice none 0 0) (.bool true) hc hr
  have H := Lib.hid h
  clear h hc hr
  go_enter Try.func40, Try.ntmps40
  go_wp2
  go_end0
  exact ⟨rfl, ⟨H.out.2.1, H.out.2.2⟩, H.out.1⟩

/-- The next bytes are there. -/
def NextOk (B : Nat) (l : List UInt8) (n : Nat) (w : World) (e : Ending) (w' : World) : Prop :=
  ∃ g o, g ≠ B ∧ e = .returned (.tuple #[.slice (some ⟨g, o, none⟩) n n, .bool true]) ∧ Bs w' (some ⟨g, o, none⟩) n n (l.take n) ∧ Rdr w' B (l.drop n) ∧ OnlyB B w w'
def NextNo (B : Nat) (w : World) (e : Ending) (w' : World) : Prop := e = .returned (.tuple #[.slice none 0 0, .bool false]) ∧ RdrBad w' B ∧ OnlyB B w w'

set_option maxHeartbeats 800000 in
theorem next_ok (B : Nat) (l : List UInt8) (n : Nat) (w : World) (h : Rdr w B l) (hn : n ≤ l.length) :
    Calls Try.prog 41 #[.pointer (some ⟨B, 0, none⟩), .int .u64 n] w (NextOk B l n w) := by
  obtain ⟨hc, g, o, c, hg, hr, hbs⟩ := h
  have f0 := canAt_cell hc 0
  have g0 := readAt_cell hr 0 _ rfl
  have g1 := readAt_cell hr 1 _ rfl
  simp only [Nat.zero_add] at f0 g0 g1
  simp only [List.getElem_toArray, List.getElem_cons_zero, List.getElem_cons_succ] at g0 g1
  have hlc := hbs.2.1
  have hmx := hbs.2.2.1
  have Hbs := Lib.hid hbs
  have Hcr := Lib.hid (And.intro hc hr)
  clear hbs hc hr
  generalize hN : l.length = N at *
  have HN := Lib.hid hN
  clear hN
  have d0 : decide ((N : Int) < (n : Int)) = false := by simp; omega
  by_cases hcn : c = n
  · obtain rfl : c = n := hcn
    obtain rfl : N = c := by omega
    have hset := Lib.hid (set_one _ _ (.slice (some ⟨g, o, none⟩) 0 0) Hcr.out.1 Hcr.out.2)
    go_enter Try.func41, Try.ntmps41
    go_wp2
    go_ret2
    obtain ⟨h1, h2, h3⟩ := hset.out
    refine ⟨g, o, hg, rfl, h1.bs hg (Hbs.out.take N N (Nat.le_refl _) (Nat.le_refl _) (Nat.le_refl _)), ⟨h2, g, o, 0, hg, ?_, ?_⟩, h1⟩
    · rw [List.drop_of_length_le (by rw [HN.out]; exact Nat.le_refl _)]; exact h3
    · rw [List.drop_of_length_le (by rw [HN.out]; exact Nat.le_refl _)]
      exact ⟨rfl, Nat.le_refl _, by omega, fun h => (by cases h), fun h => absurd h (by simp)⟩
  · have hset := Lib.hid (set_one _ _ (.slice (some ⟨g, o + n, none⟩) (N - n) (c - n)) Hcr.out.1 Hcr.out.2)
    go_enter Try.func41, Try.ntmps41
    go_wp2
    go_ret2
    obtain ⟨h1, h2, h3⟩ := hset.out
    refine ⟨g, o, hg, rfl, h1.bs hg (Hbs.out.take n n hn (Nat.le_refl _) (by omega)), ⟨h2, g, o + n, c - n, hg, ?_, ?_⟩, h1⟩
    · rw [List.length_drop, HN.out]; exact h3
    · rw [List.length_drop, HN.out]; exact h1.bs hg (Hbs.out.drop n hn)

set_option maxHeartbeats 800000 in
theorem next_no (B : Nat) (l : List UInt8) (n : Int) (w : World) (h : Rdr w B l) (hn : (l.length : Int) < n) :
    Calls Try.prog 41 #[.pointer (some ⟨B, 0, none⟩), .int .u64 n] w (NextNo B w) := by
  obtain ⟨hc, g, o, c, hg, hr, hbs⟩ := h
  have g0 := readAt_cell hr 0 _ rfl
  have g1 := readAt_cell hr 1 _ rfl
  simp only [Nat.zero_add] at g0 g1
  simp only [List.getElem_toArray, List.getElem_cons_zero, List.getElem_cons_succ] at g0 g1
  have hlc := hbs.2.1
  have hmx := hbs.2.2.1
  have Hcr := Lib.hid (And.intro hc hr)
  clear hbs hc hr
  generalize l.length = N at *
  have d0 : decide ((N : Int) < n) = true := by simp; omega
  go_enter Try.func41, Try.ntmps41
  go_wp2_with fail
  refine (fail_any B _ _ _ Hcr.out.1 Hcr.out.2).mono ?_
  rintro _ w1 ⟨rfl, hb, ho⟩
  go_wp2
  go_ret2
  exact ⟨rfl, hb, ho⟩
theorem next_bad (B : Nat) (n : Int) (w : World) (h : RdrBad w B) :
    Calls Try.prog 41 #[.pointer (some ⟨B, 0, none⟩), .int .u64 n] w (NextNo B w) := by
  obtain ⟨hc, hr⟩ := h
  have g0 := readAt_cell hr 0 _ rfl
  have g1 := readAt_cell hr 1 _ rfl
  simp only [Nat.zero_add] at g0 g1
  simp only [List.getElem_toArray, List.getElem_cons_zero, List.getElem_cons_succ] at g0 g1
  have Hcr := Lib.hid (And.intro hc hr)
  clear hc hr
  go_enter Try.func41, Try.ntmps41
  go_wp2_with fail
  refine (fail_any B _ _ _ Hcr.out.1 Hcr.out.2).mono ?_
  rintro _ w1 ⟨rfl, hb, ho⟩
  go_wp2
  go_ret2
  exact ⟨rfl, hb, ho⟩

/-- The number that the bytes are, the highest one first. -/
def nb (l : List UInt8) : Nat := l.foldl (fun x c => x * 256 + c.toNat) 0
theorem nb_snoc (l : List UInt8) (c : UInt8) : nb (l ++ [c]) = nb l * 256 + c.toNat := by simp [nb]
theorem nb_lt (l : List UInt8) : nb l < 256 ^ l.length := by
  suffices h : ∀ (l : List UInt8) (x m : Nat), x < m → l.foldl (fun x c => x * 256 + c.toNat) x < m * 256 ^ l.length by
    have := h l 0 1 (by omega); rw [Nat.one_mul] at this; exact this
  intro l
  induction l with
  | nil => intro x m h; simpa using h
  | cons c l ih =>
    intro x m h
    have := ih (x * 256 + c.toNat) (m * 256) (by have := c.toNat_lt; omega)
    rw [List.length_cons, Nat.pow_succ, Nat.mul_comm _ 256, ← Nat.mul_assoc]
    exact this
theorem shl_or (x c : Nat) (hx : x < 72057594037927936) (hc : c < 256) : bits .or .u64 ((x : Int) * 256) (c : Int) = ((x * 256 + c : Nat) : Int) := by
  have e : ((x : Int) * 256) = ((x * 256 : Nat) : Int) := by omega
  rw [e, u64_or_nat _ _ (by omega) (by omega)]
  congr 1
  have := Nat.two_pow_add_eq_or_of_lt (i := 8) hc x
  rw [Nat.mul_comm] at this
  exact this.symm

/-- A number is there. -/
def NumOk (B : Nat) (l : List UInt8) (k : Nat) (w : World) (e : Ending) (w' : World) : Prop :=
  e = .returned (.tuple #[.int .u64 (nb (l.take k) : Nat), .bool true]) ∧ Rdr w' B (l.drop k) ∧ OnlyB B w w'
def NumNo (B : Nat) (w : World) (e : Ending) (w' : World) : Prop := e = .returned (.tuple #[.int .u64 0, .bool false]) ∧ RdrBad w' B ∧ OnlyB B w w'

set_option maxHeartbeats 800000 in
theorem number_ok (B : Nat) (l : List UInt8) (k : Nat) (w : World) (h : Rdr w B l) (hk1 : 1 ≤ k) (hk8 : k ≤ 8) (hk : k ≤ l.length) :
    Calls Try.prog 39 #[.pointer (some ⟨B, 0, none⟩), .int .i64 k] w (NumOk B l k w) := by
  have d1 : decide ((k : Int) < 1) = false := by simp; omega
  have d2 : decide ((8 : Int) < (k : Int)) = false := by simp; omega
  have d3 : decide ((1 : Int) ≤ (k : Int)) = true := by simp; omega
  have H := Lib.hid h
  clear h
  go_enter Try.func39, Try.ntmps39
  go_wp2_with fail
  refine (next_ok B l k _ H.out hk).mono ?_
  rintro _ w1 ⟨g, o, hg, rfl, hbs, hrd, ho⟩
  have hlen : (l.take k).length = k := hbs.1
  have Hlen := Lib.hid hlen
  have Hbs := Lib.hid hbs
  have hfin : Hid (Rdr w1 B (l.drop k) ∧ OnlyB B w w1) := ⟨hrd, ho⟩
  clear hlen hbs hrd ho H
  obtain ⟨m, hm⟩ : ∃ m, l.take k = m := ⟨_, rfl⟩
  rw [hm] at Hlen Hbs
  have Hm := Lib.hid hm
  clear hm
  go_wp2_with fail
  go_loop [8, 30] (fun x i => ∃ j : Nat, j ≤ k ∧ i = .int .i64 j ∧ x = .int .u64 (nb (m.take j) : Nat)) (fun _ i => k - (intOf i).toNat)
  case atStart => exact ⟨0, by omega, rfl, rfl⟩
  case round =>
    obtain ⟨j, hj, rfl, rfl⟩ := hrel
    by_cases hlt : j < k
    · obtain ⟨b, o', e, hcell⟩ := Hbs.out.at j hlt
      simp only [Option.some.injEq, Addr.mk.injEq, and_true] at e
      obtain ⟨rfl, rfl⟩ := e
      have hsn := take_snoc m j 0 (by rw [Hlen.out]; exact hlt)
      have hu := nb_snoc (m.take j) (m.getD j 0)
      rw [← hsn] at hu
      have Hu := Lib.hid hu
      have hx : nb (m.take j) < 72057594037927936 := by
        have h1 := nb_lt (m.take j)
        have h2 : (256 : Nat) ^ (m.take j).length ≤ 256 ^ 7 := Nat.pow_le_pow_right (by omega) (by rw [List.length_take]; omega)
        have h3 : (256 : Nat) ^ 7 = 72057594037927936 := by decide
        omega
      have hc := toNat_lt (m.getD j 0)
      have hso := shl_or (nb (m.take j)) (m.getD j 0).toNat hx hc
      clear hsn hu
      generalize nb (m.take j) = y at *
      generalize (m.getD j 0).toNat = z at *
      go_wp2
      go_round
      case rel => exact ⟨j + 1, by omega, by go_num, by rw [Hu.out]; go_num⟩
      case measure => simp [intOf]; omega
    · obtain rfl : j = k := by omega
      have hf : nb (m.take j) = nb (l.take j) := by rw [List.take_of_length_le (by rw [Hlen.out]; exact Nat.le_refl _), Hm.out]
      rw [hf]
      clear hf
      go_wp2
      go_ret2
      exact ⟨rfl, hfin.out.1, hfin.out.2⟩

set_option maxHeartbeats 800000 in
theorem number_no (B : Nat) (k : Nat) (w : World) (h : RdrBad w B ∨ ∃ l, Rdr w B l ∧ l.length < k) (hk1 : 1 ≤ k) (hk8 : k ≤ 8) :
    Calls Try.prog 39 #[.pointer (some ⟨B, 0, none⟩), .int .i64 k] w (NumNo B w) := by
  have d1 : decide ((k : Int) < 1) = false := by simp; omega
  have d2 : decide ((8 : Int) < (k : Int)) = false := by simp; omega
  have d3 : decide ((1 : Int) ≤ (k : Int)) = true := by simp; omega
  have hnx : Calls Try.prog 41 #[.pointer (some ⟨B, 0, none⟩), .int .u64 k] w (NextNo B w) := by
    rcases h with h | ⟨l, h, hl⟩
    · exact next_bad B k w h
    · exact next_no B l k w h (by omega)
  have Hnx := Lib.hid hnx
  clear h hnx
  go_enter Try.func39, Try.ntmps39
  go_wp2_with fail
  refine Hnx.out.mono ?_
  rintro _ w1 ⟨rfl, hb, ho⟩
  go_wp2
  go_ret2
  exact ⟨rfl, hb, ho⟩

theorem Number_ok (B : Nat) (l : List UInt8) (k : Nat) (w : World) (h : Rdr w B l) (hk1 : 1 ≤ k) (hk8 : k ≤ 8) (hk : k ≤ l.length) :
    Calls Try.prog 29 #[.pointer (some ⟨B, 0, none⟩), .int .i64 k] w fun e w' => e = .returned (.int .u64 (nb (l.take k) : Nat)) ∧ Rdr w' B (l.drop k) ∧ OnlyB B w w' := by
  have H := Lib.hid h
  clear h
  go_enter Try.func29, Try.ntmps29
  go_wp2_with fail
  refine (number_ok B l k _ H.out hk1 hk8 hk).mono ?_
  rintro _ w1 ⟨rfl, hb, ho⟩
  go_wp2
  go_ret
  exact ⟨rfl, hb, ho⟩
theorem Number_no (B : Nat) (k : Nat) (w : World) (h : RdrBad w B ∨ ∃ l, Rdr w B l ∧ l.length < k) (hk1 : 1 ≤ k) (hk8 : k ≤ 8) :
    Calls Try.prog 29 #[.pointer (some ⟨B, 0, none⟩), .int .i64 k] w fun e w' => e = .returned (.int .u64 0) ∧ RdrBad w' B ∧ OnlyB B w w' := by
  have H := Lib.hid h
  clear h
  go_enter Try.func29, Try.ntmps29
  go_wp2_with fail
  refine (number_no B k _ H.out hk1 hk8).mono ?_
  rintro _ w1 ⟨rfl, hb, ho⟩
  go_wp2
  go_ret
  exact ⟨rfl, hb, ho⟩
end Go.Proofs.Ytlonmghkdobhdaa
