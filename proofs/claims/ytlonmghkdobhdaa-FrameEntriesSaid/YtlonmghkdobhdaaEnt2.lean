/- What Right of the reference, Done of a reader and Take, Number of the reference of wire compute. Conditions: the reader of the reference has eight bytes. -/
import Derived.Test.YtlonmghkdobhdaaEnt1
set_option linter.unusedSimpArgs false
set_option linter.unusedVariables false
namespace Go.Proofs.Ytlonmghkdobhdaa
open Go.RowKit

def okX (x : Int) : Bool := decide (0 ≤ x) && decide (x ≤ 4611686018427387904)
theorem right_any (d : Dig) (x : Int) (w : World) :
    Calls Try.prog 22 #[.agg (ev d x)] w fun e w' => e = .returned (.bool (okX x)) ∧ Below w.heap.size w w' := by
  have hr : readAt (w.alloc (.cells (ev d x) 39)) w.heap.size 0 33 = some (ev d x) := by
    rw [readAt_alloc_at _ _ _ _ _ _ _ rfl (by simp), ev_all]
  have hc := readAt_cell hr 32 _ (ev_32 d x)
  rw [Nat.zero_add] at hc
  have hb := ba (.cells (ev d x) 39) (Below.refl w.heap.size w)
  generalize hW : w.alloc (.cells (ev d x) 39) = W at *
  have Hb := Lib.hid hb
  clear hb hr
  by_cases h0 : 0 ≤ x
  · have d0 : decide (0 ≤ x) = true := by simpa using h0
    have hx : okX x = decide (x ≤ 4611686018427387904) := by unfold okX; rw [d0]; rfl
    rw [hx]
    clear hx
    go_enter Try.func22, Try.ntmps22
    go_wp2
    go_ret
    exact ⟨rfl, Hb.out⟩
  · have d0 : decide (0 ≤ x) = false := by simpa using h0
    have hx : okX x = false := by unfold okX; rw [d0]; rfl
    rw [hx]
    clear hx
    go_enter Try.func22, Try.ntmps22
    go_wp2
    go_ret
    exact ⟨rfl, Hb.out⟩

theorem done_ok (B : Nat) (l : List UInt8) (w : World) (h : Rdr w B l) :
    Calls Try.prog 32 #[.pointer (some ⟨B, 0, none⟩)] w fun e w' => e = .returned (.bool (decide (l = []))) ∧ w = w' := by
  obtain ⟨hc, g, o, c, hg, hr, hbs⟩ := h
  have c0 := readAt_cell hr 0 _ rfl
  have c1 := readAt_cell hr 1 _ rfl
  rw [Nat.zero_add] at c0 c1
  have hl : (((l.length : Nat) : Int) == 0) = decide (l = []) := by
    rw [Bool.eq_iff_iff]; simp; 
  have Hl := Lib.hid hl
  clear hl hr hbs hc
  generalize l.length = n at *
  go_enter Try.func32, Try.ntmps32
  go_wp2
  go_ret
  exact ⟨by rw [← Hl.out]; rfl, rfl⟩
theorem done_bad (B : Nat) (w : World) (h : RdrBad w B) :
    Calls Try.prog 32 #[.pointer (some ⟨B, 0, none⟩)] w fun e w' => e = .returned (.bool false) ∧ w = w' := by
  obtain ⟨hc, hr⟩ := h
  have c0 := readAt_cell hr 0 _ rfl
  have c1 := readAt_cell hr 1 _ rfl
  rw [Nat.zero_add] at c0 c1
  clear hr hc
  go_enter Try.func32, Try.ntmps32
  go_wp2
  go_ret
  exact ⟨rfl, rfl⟩

theorem info_Rd : (Try.prog.info? 61).map (·.size) = some 2 := by kernel_rfl
theorem results_rd {fn : Func} {p q : Tmp} (h : fn.results = #[.cell p 61, .tmp q]) (tmps : Array Value) (w : World) (b o : Nat) (cs : Array Value) (v : Value)
    (hp : tmps.getD p undef = .pointer (some ⟨b, o, none⟩)) (hq : tmps.getD q undef = v) (hg : readAt w b o 2 = some cs) : (results fn tmps).run Try.prog w = .ok (.tuple #[.agg cs, v]) w := by
  have hp' : tmps[p]?.getD undef = .pointer (some ⟨b, o, none⟩) := by simpa using hp
  have hq' : tmps[q]?.getD undef = v := by simpa using hq
  simp [results, h, hp', hq', asAddr, run_loadVar_at w b o 2 61 _ cs hg Try.underlying61 rfl info_Rd]
theorem set_two' {w : World} {B : Nat} (v1 v2 x y : Value) (h : canAt w B 0 2 = true) (hr : readAt w B 0 2 = some #[v1, v2]) :
    OnlyB B w ((w.setCell ⟨B, 0, none⟩ x).setCell ⟨B, 1, none⟩ y) ∧ canAt ((w.setCell ⟨B, 0, none⟩ x).setCell ⟨B, 1, none⟩ y) B 0 2 = true ∧ readAt ((w.setCell ⟨B, 0, none⟩ x).setCell ⟨B, 1, none⟩ y) B 0 2 = some #[x, y] := by
  have c1 := canAt_sub h 1 1 (by omega)
  have c0 := canAt_sub h 0 1 (by omega)
  rw [setCell_setAt c0]
  have c1' : canAt (setAt w B 0 #[x]) B 1 1 = true := by rw [canAt_setAt _ _ _ _ _ _ _ (by exact c0)]; exact c1
  have h' : canAt (setAt w B 0 #[x]) B 0 2 = true := by rw [canAt_setAt _ _ _ _ _ _ _ (by exact c0)]; exact h
  rw [setCell_setAt c1']
  have r0 := readAt_setAt_over w B 0 2 _ hr h 0 #[x] (by omega) (by simp)
  have r1 := readAt_setAt_over _ B 0 2 _ r0 h' 1 #[y] (by omega) (by simp [putAt])
  refine ⟨(OnlyB.setAt _ _ _ _).trans (OnlyB.setAt _ _ _ _), by rw [canAt_setAt _ _ _ _ _ _ _ (by exact c1')]; exact h', ?_⟩
  rw [r1]
  simp [putAt]

set_option maxHeartbeats 1600000 in
theorem rtake_any (b o c : Nat) (l : List UInt8) (w : World) (hl : Bs w (some ⟨b, o, none⟩) 8 c l) :
    Calls Try.prog 44 #[.agg #[.slice (some ⟨b, o, none⟩) 8 c, .bool false], .int .i64 8] w fun e w' => (∃ a2 n2 c2 v, e = .returned (.tuple #[.agg #[.slice a2 n2 c2, .bool false], v]) ∧ ByOwn w' w.heap.size v l) ∧ Below w.heap.size w w' := by
  obtain ⟨i0, hi, hz, hsz, hby⟩ := info_parts view_u8
  have hc8 : 8 ≤ c := hl.2.1
  obtain ⟨W, hW⟩ : ∃ W, (w.alloc (.cells #[.slice (some ⟨b, o, none⟩) 8 c, .bool false] 61)).alloc (.cells #[.slice none 0 0, .bool false] 61) = W := ⟨_, rfl⟩
  have hb0 : Below w.heap.size w W := by rw [← hW]; exact ba _ (ba _ (Below.refl _ _))
  have hW0 : W.cell? ⟨w.heap.size, 0, none⟩ = some (.slice (some ⟨b, o, none⟩) 8 c) := by rw [← hW]; simp [go_sem]
  have hW0' : (W.alloc (.cells #[] 5)).cell? ⟨w.heap.size, 0, none⟩ = some (.slice (some ⟨b, o, none⟩) 8 c) := by rw [← hW]; simp [go_sem]
  have hW1 : W.cell? ⟨w.heap.size, 1, none⟩ = some (.bool false) := by rw [← hW]; simp [go_sem]
  have hr1 : readAt W (w.heap.size + 1) 0 2 = some #[.slice none 0 0, .bool false] := by rw [← hW, readAt_alloc_at _ _ _ _ _ _ _ (by simp) (by simp)]; rfl
  have Hr1 := Lib.hid hr1
  clear hr1
  have hk1 : canAt W (w.heap.size + 1) 0 2 = true := by rw [← hW, canAt_alloc_at _ _ _ _ _ _ (by simp) (by simp)]
  have Hk1 := Lib.hid hk1
  clear hk1
  have hWs : W.heap.size = w.heap.size + 2 := by rw [← hW]; simp
  have hown0 : (W.alloc (.cells #[] 5)).ownsRow W.heap.size 5 1 (.slice (some ⟨W.heap.size, 0, none⟩) 0 0) 0 [] :=
    World.ownsRow_made (size := 1) W #[] 0 (Nat.le_refl _) (by simp [maxLen]) (by simp)
  have hbz := run_buildSlice_zero (P := Try.prog) W 23 5 i0 Try.underlying23 hi
  have hc8' : (8 : Int) ≤ (c : Int) := by omega
  have hd := (Below.refl (W.alloc (.cells #[] 5)).heap.size (W.alloc (.cells #[] 5))).drew
  have hb1 : Below w.heap.size w (W.alloc (.cells #[] 5)).drew := bt (ba (.cells #[] 5) hb0) hd
  replace hown0 := ownsRow_below hown0 hd
  clear hd
  have hs1 := (hl.below hb1).src
  obtain ⟨a, ha, hs⟩ : ∃ a', some (⟨b, o, none⟩ : Addr) = some a' ∧ ∀ j u, (l.map B8)[j]? = some u → (W.alloc (.cells #[] 5)).drew.cell? (a'.add j) = some u := by
    rcases hs1 with ⟨h, _⟩ | h
    · cases h
    · exact h
  cases ha
  have hk2 : canAt (W.alloc (.cells #[] 5)).drew (w.heap.size + 1) 0 2 = true := by rw [canAt_drew, canAt_alloc_past _ _ _ _ _ (by omega)]; exact Hk1.out
  have Hk2 := Lib.hid hk2
  have Hcd : Hid ((W.alloc (.cells #[] 5)).drew.cell? ⟨w.heap.size, 0, none⟩ = some (.slice (some ⟨b, o, none⟩) 8 c)) := hW0'
  have hr2 : readAt (W.alloc (.cells #[] 5)).drew (w.heap.size + 1) 0 2 = some #[.slice none 0 0, .bool false] := by rw [readAt_drew, readAt_alloc_past _ _ _ _ _ (by omega)]; exact Hr1.out
  have Hr2 := Lib.hid hr2
  clear hk2 hr2
  have Hl := Lib.hid hl.1
  have Hs := Lib.hid hs
  have Hown := Lib.hid hown0
  have Hb1 := Lib.hid hb1
  have HWs := Lib.hid hWs
  clear hl hs hown0 hb1 hb0 hs1 hWs
  go_enter Try.func44, Try.ntmps44
  go_wp2_with fail
  clear hW
  go_region_law (refine step_append_own rfl (.tmp 25) (.tmp 29) 23 rfl W.heap.size 5 i0 _ 1 1 Try.underlying23 hi hz hsz hby rfl (by decide) _ 0 _ rfl Hown.out ⟨b, o, none⟩ 8 c (l.map B8) rfl (by rw [List.length_map, Hl.out]) Hs.out (map_B8_one _) (by simp [maxLen]) (by omega) (by simp) ?_; intro v6 w6 hown6 hgr6 _; have Hown6 := Lib.hid hown6; have hb6 : Below W.heap.size (W.alloc (.cells #[] 5)).drew w6 := (Below.refl _ _).grown hgr6 (by simp) (fun k hbk => (Hown.out.lt k hbk).1); have Hb6 := Lib.hid (Hb1.out.trans (hb6.mono (by have := HWs.out; omega))); have hk6 : canAt w6 (w.heap.size + 1) 0 2 = true := (canAt_below hb6 (by have := HWs.out; omega) 0 2).trans Hk2.out; have hr6 : readAt w6 (w.heap.size + 1) 0 2 = some #[.slice none 0 0, .bool false] := (readAt_below hb6 (by have := HWs.out; omega) 0 2).trans Hr2.out; have c06 : w6.cell? ⟨w.heap.size, 0, none⟩ = some (.slice (some ⟨b, o, none⟩) 8 c) := (hb6.cell (p := ⟨w.heap.size, 0, none⟩) (by have := HWs.out; simp; omega)).trans Hcd.out; have f0 := canAt_cell hk6 0; have f1 := canAt_cell hk6 1; have g0 := readAt_cell hr6 0 _ rfl; have g1 := readAt_cell hr6 1 _ rfl; simp only [Nat.zero_add] at f0 f1 g0 g1; have Hset := fun x y => Lib.hid (set_two' _ _ x y hk6 hr6); clear hown6 hgr6 hb6 hk6 hr6)
  all_goals
    have hst := (Hset (.slice (if c = 8 then some ⟨b, o, none⟩ else some ⟨b, o + 8, none⟩) 0 (c - 8)) (.bool false)).out
    have hown7 : ByOwn w6 W.heap.size v6 l := by
      have h := Hown6.out
      unfold ByOwn
      rw [Hl.out]
      rw [Nat.zero_add, List.nil_append] at h
      exact h
    have hw2 := HWs.out
    have Hfin := Lib.hid (And.intro (ownsRow_base (hown7.only hst.1 (by omega)) (show w.heap.size ≤ W.heap.size by omega)) (And.intro (hst.1.below Hb6.out (by omega)) hst.2.2))
    clear hst hown7 hw2 Hset Hown6 Hb6 c06 f0 f1 g0 g1 Hown Hs Hr2 Hcd Hk2 hbz hW0 hW0' hW1 Hr1 Hk1
    generalize (w6.setCell ⟨w.heap.size + 1, 0, none⟩ (.slice (if c = 8 then some ⟨b, o, none⟩ else some ⟨b, o + 8, none⟩) 0 (c - 8))).setCell ⟨w.heap.size + 1, 1, none⟩ (.bool false) = w7 at *
    go_wp2
    all_goals refine bodyPost_ret (results_rd rfl _ _ (w.heap.size + 1) 0 _ v6 rfl rfl Hfin.out.2.2) rfl ⟨⟨_, _, _, v6, rfl, Hfin.out.1⟩, Hfin.out.2.1⟩

theorem nb_pow (l : List UInt8) (k : Nat) (hk : k ≤ 7) : nb (l.take k) < 72057594037927936 := by
  have h1 := nb_lt (l.take k)
  have h2 : (l.take k).length ≤ 7 := by rw [List.length_take]; omega
  have h3 : 256 ^ (l.take k).length ≤ 256 ^ 7 := Nat.pow_le_pow_right (by omega) h2
  omega
set_option maxHeartbeats 1600000 in
theorem rnum_any (b o c : Nat) (l : List UInt8) (w : World) (hl : Bs w (some ⟨b, o, none⟩) 8 c l) :
    Calls Try.prog 33 #[.agg #[.slice (some ⟨b, o, none⟩) 8 c, .bool false], .int .i64 8] w fun e w' => (∃ a2 n2 c2, e = .returned (.tuple #[.agg #[.slice a2 n2 c2, .bool false], .int .u64 (nb l : Nat)])) ∧ Below w.heap.size w w' := by
  obtain ⟨W, hW⟩ : ∃ W, (w.alloc (.cells #[.slice (some ⟨b, o, none⟩) 8 c, .bool false] 61)).alloc (.cells #[.slice none 0 0, .bool false] 61) = W := ⟨_, rfl⟩
  have hb0 : Below w.heap.size w W := by rw [← hW]; exact ba _ (ba _ (Below.refl _ _))
  have hk1 : canAt W (w.heap.size + 1) 0 2 = true := by rw [← hW, canAt_alloc_at _ _ _ _ _ _ (by simp) (by simp)]
  have hr1 : readAt W (w.heap.size + 1) 0 2 = some #[.slice none 0 0, .bool false] := by rw [← hW, readAt_alloc_at _ _ _ _ _ _ _ (by simp) (by simp)]; rfl
  have hWs : W.heap.size = w.heap.size + 2 := by rw [← hW]; simp
  have Hl := Lib.hid hl.1
  have Hbs := Lib.hid (hl.below hb0)
  have Hb0 := Lib.hid hb0
  have Hk1 := Lib.hid hk1
  have Hr1 := Lib.hid hr1
  have HWs := Lib.hid hWs
  clear hl hb0 hk1 hr1 hWs
  have hW0 : W.cell? ⟨w.heap.size, 0, none⟩ = some (.slice (some ⟨b, o, none⟩) 8 c) := by rw [← hW]; simp [go_sem]
  have hW1 : W.cell? ⟨w.heap.size, 1, none⟩ = some (.bool false) := by rw [← hW]; simp [go_sem]
  go_enter Try.func33, Try.ntmps33
  go_wp2_with fail
  clear hW
  refine (rtake_any b o c l _ Hbs.out).mono ?_
  rintro _ w1 ⟨⟨a2, n2, c2, v, rfl, hown⟩, hb1⟩
  obtain ⟨pa, pc, rfl, hpb⟩ := hown.bs
  rw [Hl.out] at hpb ⊢
  have hb2 := bt hb1 (ba (.cells #[.slice a2 n2 c2, .bool false] 61) (Below.refl w1.heap.size w1))
  have Hp2 := Lib.hid (hpb.below (ba (.cells #[.slice a2 n2 c2, .bool false] 61) (Below.refl w1.heap.size w1)))
  have hk2 : canAt (w1.alloc (.cells #[.slice a2 n2 c2, .bool false] 61)) (w.heap.size + 1) 0 2 = true := (canAt_below hb2 (by have := HWs.out; omega) 0 2).trans Hk1.out
  have hr2 : readAt (w1.alloc (.cells #[.slice a2 n2 c2, .bool false] 61)) (w.heap.size + 1) 0 2 = some #[.slice none 0 0, .bool false] := (readAt_below hb2 (by have := HWs.out; omega) 0 2).trans Hr1.out
  have f0 := canAt_cell hk2 0
  have f1 := canAt_cell hk2 1
  have g0 := readAt_cell hr2 0 _ rfl
  have g1 := readAt_cell hr2 1 _ rfl
  have e0 : (w1.alloc (.cells #[.slice a2 n2 c2, .bool false] 61)).cell? ⟨w1.heap.size, 0, none⟩ = some (.slice a2 n2 c2) := by simp [go_sem]
  have e1 : (w1.alloc (.cells #[.slice a2 n2 c2, .bool false] 61)).cell? ⟨w1.heap.size, 1, none⟩ = some (.bool false) := by simp [go_sem]
  simp only [Nat.zero_add] at f0 f1 g0 g1
  have Hset := fun x y => Lib.hid (set_two' _ _ x y hk2 hr2)
  have Hb2 := Lib.hid (Hb0.out.trans (hb2.mono Hb0.out.size))
  clear hown hb1 hpb hb2 hk2 hr2 hW0 hW1 Hbs Hr1 Hk1 Hb0
  have HF0 := Lib.hid f0
  have HF1 := Lib.hid f1
  have HG0 := Lib.hid g0
  have HG1 := Lib.hid g1
  have HE0 := Lib.hid e0
  have HE1 := Lib.hid e1
  clear f0 f1 g0 g1 e0 e1
  go_wp2_with fail
  generalize w1.alloc (.cells #[.slice a2 n2 c2, .bool false] 61) = w2 at *
  go_loop [8, 9] (fun v i => ∃ k : Nat, k ≤ 8 ∧ i = .int .i64 k ∧ v = .int .u64 (nb (l.take k) : Nat)) (fun _ i => 8 - (intOf i).toNat)
  case atStart => exact ⟨0, by omega, rfl, rfl⟩
  case round =>
    obtain ⟨k, hk, rfl, rfl⟩ := hrel
    by_cases hlt : k < 8
    · have hq := nb_pow l k (by omega)
      have hs : nb (l.take (k + 1)) = nb (l.take k) * 256 + (l.getD k 0).toNat := by
        rw [take_snoc l k 0 (by rw [Hl.out]; exact hlt), nb_snoc]
      obtain ⟨b3, o3, rfl, hcell⟩ := Hp2.out.at k hlt
      have hz := toNat_lt (l.getD k 0)
      have Hs := Lib.hid hs
      clear hs
      generalize nb (l.take k) = q at *
      generalize (l.getD k 0).toNat = z at *
      go_wp2
      go_round
      case rel =>
        refine ⟨k + 1, by omega, by go_num, ?_⟩
        rw [Hs.out]
        go_num
      case measure => simp [intOf]; omega
    · obtain rfl : k = 8 := by omega
      have ht : l.take 8 = l := List.take_of_length_le (by rw [Hl.out]; exact Nat.le_refl _)
      rw [ht]
      have f0 := HF0.out
      have f1 := HF1.out
      have g0 := HG0.out
      have g1 := HG1.out
      have e0 := HE0.out
      have e1 := HE1.out
      go_wp2_with fail
      have hst := (Hset (.slice a2 n2 c2) (.bool false)).out
      refine bodyPost_ret (results_rd rfl _ _ (w.heap.size + 1) 0 _ (.int .u64 (nb l : Nat)) rfl rfl hst.2.2) rfl ⟨⟨_, _, _, rfl⟩, hst.1.below Hb2.out (by omega)⟩
end Go.Proofs.Ytlonmghkdobhdaa
