/- What ParseEntry of the reference of package frame computes. No conditions. -/
import Derived.Test.YtlonmghkdobhdaaEnt2
set_option linter.unusedSimpArgs false
set_option linter.unusedVariables false
namespace Go.Proofs.Ytlonmghkdobhdaa
open Go.RowKit

def digOf (l : List UInt8) : Dig := Vector.ofFn fun i => l.getD i.val 0
theorem bv_digOf (l : List UInt8) (h : l.length = 32) : bv l = av (digOf l) := by
  apply Array.ext_getElem?
  intro i
  by_cases hi : i < 32
  · rw [av_get _ i hi, bv_get l i (by omega)]
    simp [digOf]
  · simp [bv, hi, h]
def expOf (x : Sec) : Nat := nb ((payOf x).drop 32)
def okE (x : Sec) : Bool := okF x && (decide ((payOf x).length = 40) && decide (expOf x ≤ 4611686018427387904))
def entOf (x : Sec) : Dig := digOf ((payOf x).take 32)
def PEnt (x : Sec) (e : Ending) : Prop := if okE x = true then e = .returned (.tuple #[.int .u32 (tagOf x : Nat), .agg (ev (entOf x) (expOf x : Nat)), .bool true]) else e = .returned (.tuple #[.int .u32 0, .agg (ev zdig 0), .bool false])
theorem PEnt.no {x : Sec} (h : okE x = false) : PEnt x (.returned (.tuple #[.int .u32 0, .agg (ev zdig 0), .bool false])) := by unfold PEnt; rw [if_neg (by rw [h]; simp)]
theorem PEnt.yes {x : Sec} (h : okE x = true) : PEnt x (.returned (.tuple #[.int .u32 (tagOf x : Nat), .agg (ev (entOf x) (expOf x : Nat)), .bool true])) := by unfold PEnt; rw [if_pos h]
theorem results_ent {fn : Func} (h : fn.results = #[.tmp 2, .cell 3 39, .tmp 4]) (tmps : Array Value) (w : World) (b o : Nat) (cs : Array Value) (u v : Value)
    (hu : tmps.getD 2 undef = u) (hp : tmps.getD 3 undef = .pointer (some ⟨b, o, none⟩)) (hq : tmps.getD 4 undef = v) (hg : readAt w b o 33 = some cs) : (results fn tmps).run Try.prog w = .ok (.tuple #[u, .agg cs, v]) w := by
  have hu' : tmps[2]?.getD undef = u := by simpa using hu
  have hp' : tmps[3]?.getD undef = .pointer (some ⟨b, o, none⟩) := by simpa using hp
  have hq' : tmps[4]?.getD undef = v := by simpa using hq
  simp [results, h, hu', hp', hq', asAddr, run_loadVar_at w b o 33 39 _ cs hg Try.underlying39 rfl info_E]
@[go_sem] theorem run_toArr (w : World) (a : Option Addr) (c : Nat) : (Instr.arrayAt 37 (.slice a 32 c)).run Try.prog w = .ok (.pointer a) w := by
  simp [Instr.arrayAt, run_underlying Try.underlying37]
theorem okX_wrap (x : Nat) (h : x < 18446744073709551616) : okX (IntKind.i64.wrap (x : Int)) = decide (x ≤ 4611686018427387904) := by
  unfold okX
  rw [IntKind.wrap_i64, Bool.eq_iff_iff]
  simp only [Bool.and_eq_true, decide_eq_true_eq]
  omega
theorem wrap_i64_eq (x : Int) : IntKind.i64.wrap x = wrap64 x := by rw [IntKind.wrap_i64]; unfold wrap64; rfl
theorem wrap_small (x : Nat) (h : x ≤ 4611686018427387904) : IntKind.i64.wrap (x : Int) = (x : Int) := by
  rw [IntKind.wrap_i64]; omega
theorem exp_lt (x : Sec) (h : (payOf x).length = 40) : expOf x < 18446744073709551616 := by
  have h1 := nb_lt ((payOf x).drop 32)
  rw [List.length_drop, h] at h1
  exact h1
theorem setE (w : World) (b : Nat) (cs : Array Value) (h : canAt w b 0 33 = true) (hs : cs.size = 33) : readAt (setAt w b 0 cs) b 0 33 = some cs := readAt_setAt_same _ _ _ _ _ hs.symm h
theorem readAt_part {w : World} {b o n : Nat} {l : List UInt8} (h : readAt w b o n = some (bv l)) (i k : Nat) (hi : i + k ≤ n) : readAt w b (o + i) k = some (bv ((l.drop i).take k)) := by
  rw [readAt_sub h (o + i) k (by omega) (by omega), show o + i - o = i by omega, bv_extract]

set_option maxHeartbeats 3200000 in
theorem rpentry_any (x : Sec) (w : World) :
    Calls Try.prog 16 #[.agg (av x)] w fun e w' => PEnt x e ∧ Below w.heap.size w w' := by
  obtain ⟨W, hW⟩ : ∃ W, (w.alloc (.cells (av x) 25)).alloc (.cells (ev zdig 0) 39) = W := ⟨_, rfl⟩
  have hb0 : Below w.heap.size w W := by rw [← hW]; exact ba _ (ba _ (Below.refl _ _))
  have hr0 : readAt W w.heap.size 0 64 = some (av x) := by rw [← hW]; simp [go_sem]
  have hk0 : canAt W (w.heap.size + 1) 0 33 = true := by rw [← hW, canAt_alloc_at _ _ _ _ _ _ (by simp) (by simp)]
  have Hb0 := Lib.hid hb0
  have Hk0 := Lib.hid hk0
  have Hlt := Lib.hid (canAt_lt hk0)
  clear hb0 hk0
  go_enter Try.func16, Try.ntmps16
  go_wp2_with fail
  clear hr0 hW
  refine (rparse_any x _).mono ?_
  rintro _ w1 ⟨hpo, hb1⟩
  have Hk1 := Lib.hid ((canAt_below hb1 Hlt.out 0 33).trans Hk0.out)
  have Hb1 := Lib.hid (Hb0.out.trans (hb1.mono Hb0.out.size))
  have Hlt1 := Lib.hid (Nat.lt_of_lt_of_le Hlt.out hb1.size)
  clear hb1 Hk0 Hb0 Hlt
  by_cases hok : okF x = true
  · obtain ⟨v, rfl, hown⟩ := hpo.yes hok
    by_cases h40 : (payOf x).length = 40
    · obtain ⟨G, pc, rfl, hbG, hpc, hpm, hpr, hpk⟩ := hown.view (by rw [h40]; omega)
      rw [h40] at hpr hpc ⊢
      have hbs : Bs w1 (some ⟨G, 32, none⟩) 8 (pc - 32) ((payOf x).drop 32) := by
        refine ⟨by rw [List.length_drop, h40], by omega, by omega, fun h => (by cases h), fun h0 => ⟨G, 32, rfl, ?_⟩⟩
        have h := readAt_part hpr 32 8 (by omega)
        rwa [List.take_of_length_le (by rw [List.length_drop, h40]; omega), Nat.zero_add] at h
      have hrd : readAt w1 G 0 32 = some (av (entOf x)) := by
        have h := readAt_part hpr 0 32 (by omega)
        rw [List.drop_zero, bv_digOf _ (by rw [List.length_take, h40]; omega)] at h
        exact h
      have hpc32 : ¬ pc = 32 := by omega
      have hpc' : (40 : Int) ≤ (pc : Int) := by omega
      have Hbs := Lib.hid hbs
      have Hrd := Lib.hid hrd
      have hxe := exp_lt x h40
      have hnb : nb ((payOf x).drop 32) = expOf x := rfl
      have hokE : okE x = decide (expOf x ≤ 4611686018427387904) := by unfold okE; rw [hok, decide_eq_true h40]; rfl
      have HokE := Lib.hid hokE
      have Hnb := Lib.hid hnb
      clear hpo hown hpr hpk hbs hrd hok h40 hokE hnb
      go_wp2_with fail
      refine (rnum_any G 32 _ _ _ Hbs.out).mono ?_
      rintro _ w2 ⟨⟨a2, n2, c2, rfl⟩, hb2⟩
      rw [Hnb.out]
      have hb3 := bt hb2 (ba (.cells #[.slice a2 n2 c2, .bool false] 61) (Below.refl w2.heap.size w2))
      have hG := readAt_lt Hrd.out
      have hG2 : G < w2.heap.size := Nat.lt_of_lt_of_le hG hb2.size
      have hr2 : readAt w2 G 0 32 = some (av (entOf x)) := (readAt_below hb2 hG 0 32).trans Hrd.out
      have hr3 : readAt (w2.alloc (.cells #[.slice a2 n2 c2, .bool false] 61)) G 0 32 = some (av (entOf x)) := (readAt_below hb3 hG 0 32).trans Hrd.out
      have Hb3 := Lib.hid (Hb1.out.trans (hb3.mono Hb1.out.size))
      have Hk3 := Lib.hid ((canAt_below hb3 Hlt1.out 0 33).trans Hk1.out)
      have Hlt3 := Lib.hid (Nat.lt_of_lt_of_le Hlt1.out hb3.size)
      clear hb2 hb3 hG Hrd Hbs Hb1 Hk1 Hlt1 Hnb
      generalize hEX : expOf x = E at *
      have HEX := Lib.hid hEX
      clear hEX
      go_wp2_with fail
      rw [ev_all]
      have hy : okX (wrap64 (E : Int)) = decide (E ≤ 4611686018427387904) := by rw [← wrap_i64_eq]; exact okX_wrap E hxe
      have hys : E ≤ 4611686018427387904 → wrap64 (E : Int) = (E : Int) := by rw [← wrap_i64_eq]; exact wrap_small E
      generalize wrap64 (E : Int) = y at *
      have hr4 : readAt ((w2.alloc (.cells #[.slice a2 n2 c2, .bool false] 61)).alloc (.cells (ev (entOf x) y) 39)) (w2.heap.size + 1) 0 33 = some (ev (entOf x) y) := by
        rw [readAt_alloc_at _ _ _ _ _ _ _ (by simp) (by simp), ev_all]
      have hb4 := ba (.cells (ev (entOf x) y) 39) (Below.refl (w2.alloc (.cells #[.slice a2 n2 c2, .bool false] 61)).heap.size (w2.alloc (.cells #[.slice a2 n2 c2, .bool false] 61)))
      have Hk4 := Lib.hid ((canAt_below hb4 Hlt3.out 0 33).trans Hk3.out)
      have Hb4 := Lib.hid (Hb3.out.trans (hb4.mono Hb3.out.size))
      have Hlt4 := Lib.hid (Nat.lt_of_lt_of_le Hlt3.out hb4.size)
      have Hr4 := Lib.hid hr4
      clear hr4 hb4 Hk3 Hlt3 Hb3 hr3 hr2 hG2
      generalize (w2.alloc (.cells #[.slice a2 n2 c2, .bool false] 61)).alloc (.cells (ev (entOf x) y) 39) = w4 at *
      refine (right_any _ _ _).mono ?_
      rintro _ w5 ⟨rfl, hb5⟩
      rw [hy]
      have hr5 : readAt w5 (w2.heap.size + 1) 0 33 = some (ev (entOf x) y) := (readAt_below hb5 (readAt_lt Hr4.out) 0 33).trans Hr4.out
      have hk5 := (canAt_below hb5 Hlt4.out 0 33).trans Hk4.out
      have Hb5 := Lib.hid (Hb4.out.trans (hb5.mono Hb4.out.size))
      have Hr5 := Lib.hid hr5
      have Hk5 := Lib.hid hk5
      clear hb5 Hk4 Hlt4 Hb4 Hr4
      by_cases hE : E ≤ 4611686018427387904
      · obtain rfl := hys hE
        have hyes : okE x = true := by rw [HokE.out, decide_eq_true hE]
        have hdE : decide (E ≤ 4611686018427387904) = true := decide_eq_true hE
        have Hyes := Lib.hid hyes
        clear hys hy HokE hyes hxe
        rw [hdE]
        clear hdE
        go_wp2_with fail
        go_region
        all_goals
          have hk6 : canAt w5.drew (w.heap.size + 1) 0 33 = true := by rw [canAt_drew]; exact hk5
          have hfin := Hb5.out.drew
          go_wp2
          refine bodyPost_ret (results_ent rfl _ _ (w.heap.size + 1) 0 _ _ _ rfl rfl rfl (setE _ _ _ hk6 (by simp))) rfl ⟨?_, setAt_below hfin (by omega) _ _⟩
          rw [← HEX.out]
          exact PEnt.yes Hyes.out
      · have hno : okE x = false := by rw [HokE.out, decide_eq_false hE]
        have hdE : decide (E ≤ 4611686018427387904) = false := decide_eq_false hE
        have Hno := Lib.hid hno
        clear hys hy HokE hno hxe
        rw [hdE]
        clear hdE
        go_wp2
        refine bodyPost_ret (results_ent rfl _ _ (w.heap.size + 1) 0 _ _ _ rfl rfl rfl (setE _ _ _ Hk5.out (by simp))) rfl ⟨PEnt.no Hno.out, setAt_below Hb5.out (by omega) _ _⟩
    · have hne : (((payOf x).length : Int) != 40) = true := by simp; omega
      have hno : okE x = false := by unfold okE; rw [decide_eq_false h40]; simp
      have Hno := Lib.hid hno
      obtain ⟨pa, pc, rfl, _⟩ := hown.bs
      have hk1 := Hk1.out
      clear hpo hown hok h40 hno
      generalize (payOf x).length = n at *
      go_wp2
      refine bodyPost_ret (results_ent rfl _ _ (w.heap.size + 1) 0 _ _ _ rfl rfl rfl (setE _ _ _ hk1 (by simp))) rfl ⟨PEnt.no Hno.out, setAt_below Hb1.out (by omega) _ _⟩
  · obtain rfl := hpo.no (by simpa using hok)
    have hno : okE x = false := by unfold okE; rw [show okF x = false by simpa using hok]; rfl
    have hk1 := Hk1.out
    clear hpo
    go_wp2
    refine bodyPost_ret (results_ent rfl _ _ (w.heap.size + 1) 0 _ _ _ rfl rfl rfl (setE _ _ _ hk1 (by simp))) rfl ⟨PEnt.no hno, setAt_below Hb1.out (by omega) _ _⟩
end Go.Proofs.Ytlonmghkdobhdaa
