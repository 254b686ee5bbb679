/- Tickets and authenticators as values: loading, storing, building; what Usable, Expiry, Times of package policy and Few, early compute. Conditions: the numbers fit 64 bits; the names read. -/
import Derived.Test.YtmmimjpgaalbcaaName
set_option linter.unusedSimpArgs false
set_option linter.unusedVariables false
namespace Go.Proofs.Ytmmimjpgaalbcaa
open Go.RowKit

abbrev Key := Vector UInt8 16
def zkey : Key := Vector.replicate 16 0
def tv (r : ByteArray) (ad : Option Addr) (n c : Nat) (s e : Int) (k : Key) : Array Value := #[.string r, .slice ad n c, .int .i64 s, .int .i64 e] ++ av k
@[simp, go_sem] theorem size_tv (r : ByteArray) (ad : Option Addr) (n c : Nat) (s e : Int) (k : Key) : (tv r ad n c s e k).size = 20 := by simp [tv]
section
variable (r : ByteArray) (ad : Option Addr) (n c : Nat) (s e : Int) (k : Key)
theorem tv_one : ∀ v ∈ tv r ad n c s e k, v.oneCell' = true := by
  intro v hv
  simp only [tv, Array.mem_append] at hv
  rcases hv with hv | hv
  · simp at hv; rcases hv with rfl | rfl | rfl | rfl <;> rfl
  · exact av_one k v hv
@[go_sem] theorem tv_0 : (tv r ad n c s e k)[0]? = some (.string r) := by simp [tv]
@[go_sem] theorem tv_1 : (tv r ad n c s e k)[1]? = some (.slice ad n c) := by simp [tv]
@[go_sem] theorem tv_2 : (tv r ad n c s e k)[2]? = some (.int .i64 s) := by simp [tv]
@[go_sem] theorem tv_3 : (tv r ad n c s e k)[3]? = some (.int .i64 e) := by simp [tv]
@[go_sem, simp] theorem tvg_0 (h) : (tv r ad n c s e k)[0]'h = .string r := by simp [tv]
@[go_sem, simp] theorem tvg_1 (h) : (tv r ad n c s e k)[1]'h = .slice ad n c := by simp [tv]
@[go_sem, simp] theorem tvg_2 (h) : (tv r ad n c s e k)[2]'h = .int .i64 s := by simp [tv]
@[go_sem, simp] theorem tvg_3 (h) : (tv r ad n c s e k)[3]'h = .int .i64 e := by simp [tv]
@[go_sem] theorem tv_all : (tv r ad n c s e k).extract 0 20 = tv r ad n c s e k := by
  apply Array.ext'
  simp [List.extract_eq_take_drop]
  exact List.take_of_length_le (by simp)
end
attribute [go_sem] readAt_alloc_at readAt_alloc_past canAt_alloc_at canAt_alloc_past readAt_drew canAt_drew readAt_setAt_same readAt_setAt_other canAt_setAt_other canAt_setAt setAt_size size_av
theorem view_Tk : (Try.prog.info? 27).map (fun i => (i.zero, i.size, i.bytes)) = some (some (.agg (tv ⟨#[]⟩ none 0 0 0 0 zkey)), 20, 72) := by kernel_rfl
theorem info_Tk : (Try.prog.info? 27).map (·.size) = some 20 := by kernel_rfl
def LoadTk (v : Value) : Sem Value := Instr.loadAt 27 v
def StoreTk (v x : Value) : Sem Unit := Instr.storeAt 27 v x
def AllocTk : Sem Value := Instr.alloc 27 true (.tuple #[])
def BuildTk (parts : Array (Nat × Value)) : Sem Value := Instr.build 27 parts
@[go_sem ↓] theorem loadAt_Tk (v : Value) : Instr.loadAt 27 v = LoadTk v := rfl
@[go_sem ↓] theorem storeAt_Tk (v x : Value) : Instr.storeAt 27 v x = StoreTk v x := rfl
@[go_sem ↓] theorem alloc_Tk : Instr.alloc 27 true (.tuple #[]) = AllocTk := rfl
@[go_sem ↓] theorem build_Tk (parts : Array (Nat × Value)) : Instr.build 27 parts = BuildTk parts := rfl
@[go_sem ↓] theorem run_LoadTk (w : World) (b o : Nat) (h : (readAt w b o 20).isSome = true) :
    (LoadTk (.pointer (some ⟨b, o, none⟩))).run Try.prog w = .ok (.agg ((readAt w b o 20).getD #[])) w := by
  obtain ⟨cs, hc⟩ := Option.isSome_iff_exists.1 h
  unfold LoadTk
  rw [run_loadAt_at w b o 20 27 _ cs hc Try.underlying27 rfl info_Tk, hc]; rfl
@[go_sem ↓] theorem run_StoreTk (w : World) (b o : Nat) (r : ByteArray) (ad : Option Addr) (n c : Nat) (s e : Int) (k : Key) (h : canAt w b o 20 = true) :
    (StoreTk (.pointer (some ⟨b, o, none⟩)) (.agg (tv r ad n c s e k))).run Try.prog w = .ok () (setAt w b o (tv r ad n c s e k)) :=
  run_storeAt_at w b o 20 27 (tv r ad n c s e k) h (size_tv ..) info_Tk (tv_one r ad n c s e k)
theorem info_parts {P : Program} {e : TypeId} {z : Value} {n b : Nat} (h : (P.info? e).map (fun i => (i.zero, i.size, i.bytes)) = some (some z, n, b)) : ∃ i, P.info? e = some i ∧ i.zero = some z ∧ i.size = n ∧ i.bytes = b := by
  obtain ⟨i, hi, h⟩ := Option.map_eq_some_iff.1 h
  simp at h
  exact ⟨i, hi, h.1, h.2.1, h.2.2⟩
@[go_sem] theorem run_AllocTk (w : World) :
    AllocTk.run Try.prog w = .ok (.pointer (some ⟨w.heap.size, 0, none⟩)) (w.alloc (.cells (tv ⟨#[]⟩ none 0 0 0 0 zkey) 27)) := by
  obtain ⟨i, hi, hz, hs, hb⟩ := info_parts view_Tk
  unfold AllocTk
  simp [Instr.alloc, zeroValue, typeInfo, hi, hz, newVar, newRow, Value.cells]

attribute [irreducible] tv

set_option maxHeartbeats 400000 in
theorem usable_any (r : ByteArray) (ad : Option Addr) (n c : Nat) (s e : Int) (k : Key) (now skew : Int) (w : World) (hs : Is64 s) (he : Is64 e) (hk : Is64 skew) :
    Calls Try.prog 9 #[.agg (tv r ad n c s e k), .int .i64 now, .int .i64 skew] w fun x w' => x = .returned (.bool (side now s e skew == 0)) ∧ Below w.heap.size w w' := by
  have hb0 := ba (.cells (tv r ad n c s e k) 27) (Below.refl _ w)
  go_enter Try.func9, Try.ntmps9
  go_wp2_with fail
  refine (side_any now s e skew _ hs he hk).mono ?_
  rintro _ w2 ⟨rfl, hb2⟩
  go_wp2
  go_ret
  exact ⟨rfl, bt hb0 hb2⟩

theorem expiry_any (r : ByteArray) (ad : Option Addr) (n c : Nat) (t m q : Int) (skew : Int) (w : World) (ht : Is64 t) (hk : Is64 skew) :
    Calls Try.prog 13 #[.agg #[.string r, .slice ad n c, .int .i64 t, .int .u32 m, .int .u32 q], .int .i64 skew] w fun x w' => x = .returned (.int .i64 (sat (t + skew))) ∧ Below w.heap.size w w' := by
  have hb0 := ba (.cells #[.int .i64 skew] 2) (ba (.cells #[.string r, .slice ad n c, .int .i64 t, .int .u32 m, .int .u32 q] 33) (Below.refl _ w))
  go_enter Try.func13, Try.ntmps13
  go_wp2_with fail
  refine (add_one t skew _ _ ht hk (by simp) (by simp)).mono ?_
  rintro _ w2 ⟨rfl, hb2⟩
  go_wp2
  go_ret
  exact ⟨rfl, bt hb0 hb2⟩

theorem most_two (a b : Int) (B : Nat) (w : World) (ha : Is64 a) (hb : Is64 b) (hB : B < w.heap.size) (h0 : w.cell? ⟨B, 0, none⟩ = some (.int .i64 a)) (h1 : w.cell? ⟨B, 1, none⟩ = some (.int .i64 b)) :
    Calls Try.prog 24 #[.slice (some ⟨B, 0, none⟩) 2 2] w fun x w' => x = .returned (.int .i64 (max a b)) ∧ Below w.heap.size w w' := by
  have := most_any (some ⟨B, 0, none⟩) 2 2 [a, b] w ⟨rfl, by omega, by intro z hz; simp at hz; rcases hz with rfl | rfl <;> assumption, fun _ => ⟨B, 0, rfl, hB, fun j hj => by
    match j, hj with
    | 0, _ => simpa using h0
    | 1, _ => simpa using h1⟩⟩
  refine this.mono ?_
  rintro _ w' ⟨rfl, rfl⟩
  refine ⟨ret_int ?_, Below.refl _ _⟩
  simp only [mosts, low, List.foldl_cons, List.foldl_nil, Is64] at *
  omega

/-- A ticket, an authenticator in a block. -/
def TkAt (w : World) (B : Nat) (r : ByteArray) (ad : Option Addr) (n c : Nat) (s e : Int) (k : Key) : Prop := readAt w B 0 20 = some (tv r ad n c s e k)
theorem TkAt.below {w w' : World} {B : Nat} {r : ByteArray} {ad : Option Addr} {n c : Nat} {s e : Int} {k : Key} (h : TkAt w B r ad n c s e k) (hb : Below w.heap.size w w') : TkAt w' B r ad n c s e k := by
  unfold TkAt at *; rw [readAt_below hb (readAt_lt h)]; exact h
theorem TkAt.cells {w : World} {B : Nat} {r : ByteArray} {ad : Option Addr} {n c : Nat} {s e : Int} {k : Key} (h : TkAt w B r ad n c s e k) :
    w.cell? ⟨B, 0, none⟩ = some (.string r) ∧ w.cell? ⟨B, 1, none⟩ = some (.slice ad n c) ∧ w.cell? ⟨B, 2, none⟩ = some (.int .i64 s) ∧ w.cell? ⟨B, 3, none⟩ = some (.int .i64 e) ∧ readAt w B 0 20 = some (tv r ad n c s e k) := by
  have h0 := readAt_cell h 0 _ (tv_0 ..)
  have h1 := readAt_cell h 1 _ (tv_1 ..)
  have h2 := readAt_cell h 2 _ (tv_2 ..)
  have h3 := readAt_cell h 3 _ (tv_3 ..)
  rw [Nat.zero_add] at h0 h1 h2 h3
  exact ⟨h0, h1, h2, h3, h⟩
theorem TkAt.new (w : World) (r : ByteArray) (ad : Option Addr) (n c : Nat) (s e : Int) (k : Key) : TkAt (w.alloc (.cells (tv r ad n c s e k) 27)) w.heap.size r ad n c s e k := by
  unfold TkAt; rw [readAt_alloc_at _ _ _ _ _ _ _ rfl (by simp), tv_all]
def AuAt (w : World) (B : Nat) (q : ByteArray) (ad : Option Addr) (n c : Nat) (t mi sq : Int) : Prop :=
  B < w.heap.size ∧ w.cell? ⟨B, 0, none⟩ = some (.string q) ∧ w.cell? ⟨B, 1, none⟩ = some (.slice ad n c) ∧ w.cell? ⟨B, 2, none⟩ = some (.int .i64 t) ∧ w.cell? ⟨B, 3, none⟩ = some (.int .u32 mi) ∧ w.cell? ⟨B, 4, none⟩ = some (.int .u32 sq)
theorem AuAt.below {w w' : World} {B : Nat} {q : ByteArray} {ad : Option Addr} {n c : Nat} {t mi sq : Int} (h : AuAt w B q ad n c t mi sq) (hb : Below w.heap.size w w') : AuAt w' B q ad n c t mi sq := by
  obtain ⟨h0, h1, h2, h3, h4, h5⟩ := h
  exact ⟨Nat.lt_of_lt_of_le h0 hb.size, (hb.cell (p := ⟨B, 0, none⟩) h0).trans h1, (hb.cell (p := ⟨B, 1, none⟩) h0).trans h2, (hb.cell (p := ⟨B, 2, none⟩) h0).trans h3, (hb.cell (p := ⟨B, 3, none⟩) h0).trans h4, (hb.cell (p := ⟨B, 4, none⟩) h0).trans h5⟩
theorem AuAt.new (w : World) (q : ByteArray) (ad : Option Addr) (n c : Nat) (t mi sq : Int) : AuAt (w.alloc (.cells #[.string q, .slice ad n c, .int .i64 t, .int .u32 mi, .int .u32 sq] 33)) w.heap.size q ad n c t mi sq := by
  refine ⟨by simp, ?_, ?_, ?_, ?_, ?_⟩ <;> simp [go_sem]

set_option maxHeartbeats 800000 in
theorem times_any (r q : ByteArray) (ad bd : Option Addr) (n m c c2 : Nat) (A B : List ByteArray) (s e t mi sq : Int) (k : Key) (skew : Int) (w : World) (hs : Is64 s) (he : Is64 e) (ht : Is64 t) (hk : Is64 skew) (ha : StrsAt w ad n c A) (hb : StrsAt w bd m c2 B)
    (hn : nsame r q A B = true) (hle : max (sat (s - skew)) (sat (t - skew)) ≤ min (sat (e + skew)) (sat (t + skew))) :
    Calls Try.prog 17 #[.agg (tv r ad n c s e k), .agg #[.string q, .slice bd m c2, .int .i64 t, .int .u32 mi, .int .u32 sq], .int .i64 skew] w fun x w' =>
      x = .returned (.tuple #[.int .i64 (max (sat (s - skew)) (sat (t - skew))), .int .i64 (min (sat (e + skew)) (sat (t + skew))), .bool true]) ∧ Below w.heap.size w w' := by
  have T0 := (TkAt.new w r ad n c s e k).below (ba (.cells #[.string q, .slice bd m c2, .int .i64 t, .int .u32 mi, .int .u32 sq] 33) (Below.refl _ _))
  have U0 := AuAt.new (w.alloc (.cells (tv r ad n c s e k) 27)) q bd m c2 t mi sq
  rw [World.size_alloc] at U0
  have hb0 := ba (.cells #[.string q, .slice bd m c2, .int .i64 t, .int .u32 mi, .int .u32 sq] 33) (ba (.cells (tv r ad n c s e k) 27) (Below.refl _ w))
  have Ha := Lib.hid ha
  have Hb := Lib.hid hb
  have Hn := Lib.hid hn
  clear ha hb hn
  go_enter Try.func17, Try.ntmps17
  go_wp2_with fail
  refine (nsame_any r q ad bd n m c c2 A B _ (Ha.out.below hb0) (Hb.out.below hb0)).mono ?_
  rw [Hn.out]
  rintro _ w2 ⟨rfl, hb2⟩
  have T2 := Lib.hid (T0.below hb2)
  have U2 := Lib.hid (U0.below hb2)
  have hb1 := bt hb0 hb2
  clear T0 U0 hb0 hb2 Ha Hb Hn
  obtain ⟨f0, f1, f2, f3, f4⟩ := T2.out.cells
  obtain ⟨g0, g1, g2, g3, g4, g5⟩ := U2.out
  go_wp2_with fail
  refine (window_any s e skew _ hs he hk).mono ?_
  rintro _ w3 ⟨rfl, hb3⟩
  have U3 := Lib.hid (U2.out.below hb3)
  have hb4 := bt hb1 hb3
  clear f0 f1 f2 f3 f4 g0 g1 g2 g3 g4 g5 T2 U2 hb1 hb3
  obtain ⟨g0, g1, g2, g3, g4, g5⟩ := U3.out
  go_wp2_with fail
  refine (window_any t t skew _ ht ht hk).mono ?_
  rintro _ w4 ⟨rfl, hb5⟩
  have hb6 := bt hb4 hb5
  clear g0 g1 g2 g3 g4 g5 U3 hb4 hb5
  generalize hx1 : sat (s - skew) = x1 at *
  generalize hx2 : sat (t - skew) = x2 at *
  have hx1' : Is64 x1 := by rw [← hx1]; exact sat_is _
  have hx2' : Is64 x2 := by rw [← hx2]; exact sat_is _
  have HL := Lib.hid hle
  have Hx1 := Lib.hid hx1
  have Hx2 := Lib.hid hx2
  clear hle hx1 hx2
  go_wp2_with fail
  refine (most_two x1 x2 _ _ hx1' hx2' (by simp) (by simp [go_sem]) (by simp [go_sem])).mono ?_
  rintro _ w5 ⟨rfl, hb7⟩
  have hb8 : Below w.heap.size w w5 := (ba _ hb6).trans (hb7.mono (ba _ hb6).size)
  have hle := HL.out
  generalize hy1 : sat (e + skew) = y1 at *
  generalize hy2 : sat (t + skew) = y2 at *
  generalize hM : max x1 x2 = M at *
  have Hy1 := Lib.hid hy1
  have Hy2 := Lib.hid hy2
  have HM := Lib.hid hM
  clear hy1 hy2 hM
  clear hb6 hb7 HL
  by_cases hy : y1 < y2
  · have e1 : min y1 y2 = y1 := by omega
    rw [e1] at hle
    have E1 := Lib.hid e1
    have hlt : decide (y1 < M) = false := by simp; omega
    clear e1
    go_wp2
    all_goals first
      | (exact bodyPost_ret (results_tmp3 rfl _ _ _) rfl ⟨by rw [Hx1.out, Hx2.out, HM.out, Hy1.out, Hy2.out, E1.out]; rfl, hb8⟩)
      | (exfalso; omega)
  · have e1 : min y1 y2 = y2 := by omega
    rw [e1] at hle
    have E1 := Lib.hid e1
    have hlt : decide (y2 < M) = false := by simp; omega
    clear e1
    by_cases hy2 : y2 < y1
    · go_wp2
      all_goals first
        | (exact bodyPost_ret (results_tmp3 rfl _ _ _) rfl ⟨by rw [Hx1.out, Hx2.out, HM.out, Hy1.out, Hy2.out, E1.out]; rfl, hb8⟩)
        | (exfalso; omega)
    · obtain rfl : y1 = y2 := by omega
      clear hy hy2
      go_wp2
      all_goals first
        | (exact bodyPost_ret (results_tmp3 rfl _ _ _) rfl ⟨by rw [Hx1.out, Hx2.out, HM.out, Hy1.out, Hy2.out, E1.out]; rfl, hb8⟩)
        | (exfalso; omega)
end Go.Proofs.Ytmmimjpgaalbcaa
