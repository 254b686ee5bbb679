/- What ParseHeader of package frame and of its reference computes. No conditions. -/
import Derived.Test.YtlonmghkdobhdaaFr7
set_option linter.unusedSimpArgs false
set_option linter.unusedVariables false
namespace Go.Proofs.Ytlonmghkdobhdaa
open Go.RowKit

theorem okH_no {x : Sec} (h : okF x = false) : okH x = false ∧ headTag x = 0 := by
  have e : okH x = false := by unfold okH; rw [h]; rfl
  exact ⟨e, by unfold headTag; rw [e]; rfl⟩
theorem okH_eq {x : Sec} (h : okF x = true) : okH x = decide (payOf x = toll) := by unfold okH; rw [h]; rfl
theorem headTag_yes {x : Sec} (h : okH x = true) : headTag x = tagOf x := by unfold headTag; rw [h]; rfl
theorem headTag_no {x : Sec} (h : okH x = false) : headTag x = 0 := by unfold headTag; rw [h]; rfl

set_option maxHeartbeats 1600000 in
theorem fhead_any (x : Sec) (w : World) :
    Calls Try.prog 17 #[.agg (av x)] w fun e w' => e = .returned (.tuple #[.int .u32 (headTag x : Nat), .bool (okH x)]) ∧ Below w.heap.size w w' := by
  have hr0 : readAt (w.alloc (.cells (av x) 25)) w.heap.size 0 64 = some (av x) := by simp [go_sem]
  have hb0 := ba (.cells (av x) 25) (Below.refl w.heap.size w)
  have Hb0 := Lib.hid hb0
  clear hb0
  go_enter Try.func17, Try.ntmps17
  go_wp2_with fail
  refine (fparse_any x _).mono ?_
  rintro _ w1 ⟨hp, hb1⟩
  have Hb1 := Lib.hid (bt Hb0.out hb1)
  clear hb1 hr0
  cases hok : okF x with
  | false =>
    have he := hp.no hok
    subst he
    have Hno := Lib.hid (okH_no hok)
    clear hp hok
    go_wp2
    go_ret2
    exact ⟨by rw [Hno.out.1, Hno.out.2]; rfl, Hb1.out⟩
  | true =>
    obtain ⟨v, rfl, hown⟩ := hp.yes hok
    obtain ⟨pa, pc, rfl, hpb⟩ := hown.bs
    have Hyes := Lib.hid (okH_eq hok)
    have hx := ba (.cells #[.int .u8 84, .int .u8 79, .int .u8 76, .int .u8 76] 5 (4, 5)) (Below.refl w1.heap.size w1)
    have HA := Lib.hid (hpb.below hx)
    have HL := Lib.hid (Bs.lit (l := toll) 4 rfl (by omega) (lit_toll w1 (4, 5)))
    have Hb2 := Lib.hid (bt Hb1.out hx)
    clear hp hok hown hpb hx
    obtain ⟨G, hG⟩ : ∃ G, tagOf x = G := ⟨_, rfl⟩
    have HG := Lib.hid hG
    rw [hG]
    clear hG
    have Hyes2 : Hid (okH x = decide (payOf x = toll)) := Hyes.out
    generalize payOf x = P at *
    clear Hyes
    go_wp2_with fail
    refine (equal_any _ _ _ _ _ _ P toll _ HA.out HL.out).mono ?_
    rintro _ _ ⟨rfl, rfl⟩
    by_cases he : P = toll
    · rw [decide_eq_true he]
      have hq : okH x = true := by rw [Hyes2.out, decide_eq_true he]
      have hT := headTag_yes hq
      have Hq := Lib.hid hq
      have HT := Lib.hid hT
      clear he hq hT
      go_wp2
      go_ret2
      exact ⟨by rw [Hq.out, HT.out, HG.out]; rfl, Hb2.out⟩
    · rw [decide_eq_false he]
      have hq : okH x = false := by rw [Hyes2.out, decide_eq_false he]
      have hT := headTag_no hq
      have Hq := Lib.hid hq
      have HT := Lib.hid hT
      clear he hq hT
      go_wp2
      go_ret2
      exact ⟨by rw [Hq.out, HT.out]; rfl, Hb2.out⟩

set_option maxHeartbeats 1600000 in
theorem rhead_any (x : Sec) (w : World) :
    Calls Try.prog 18 #[.agg (av x)] w fun e w' => e = .returned (.tuple #[.int .u32 (headTag x : Nat), .bool (okH x)]) ∧ Below w.heap.size w w' := by
  have hr0 : readAt (w.alloc (.cells (av x) 25)) w.heap.size 0 64 = some (av x) := by simp [go_sem]
  have hb0 := ba (.cells (av x) 25) (Below.refl w.heap.size w)
  have Hb0 := Lib.hid hb0
  clear hb0
  go_enter Try.func18, Try.ntmps18
  go_wp2_with fail
  refine (rparse_any x _).mono ?_
  rintro _ w1 ⟨hp, hb1⟩
  have Hb1 := Lib.hid (bt Hb0.out hb1)
  clear hb1 hr0
  cases hok : okF x with
  | false =>
    have he := hp.no hok
    subst he
    have Hno := Lib.hid (okH_no hok)
    clear hp hok
    go_wp2
    go_ret2
    exact ⟨by rw [Hno.out.1, Hno.out.2]; rfl, Hb1.out⟩
  | true =>
    obtain ⟨v, rfl, hown⟩ := hp.yes hok
    obtain ⟨pa, pc, rfl, hpb⟩ := hown.bs
    have Hyes := Lib.hid (okH_eq hok)
    have kc := conv_bs hpb
    have he := strL_eq (payOf x) toll
    clear hp hok hown hpb
    obtain ⟨G, hG⟩ : ∃ G, tagOf x = G := ⟨_, rfl⟩
    have HG := Lib.hid hG
    rw [hG]
    clear hG
    have Hyes2 : Hid (okH x = decide (payOf x = toll)) := Hyes.out
    generalize payOf x = P at *
    clear Hyes
    by_cases hpt : P = toll
    · have hq : okH x = true := by rw [Hyes2.out, decide_eq_true hpt]
      have hT := headTag_yes hq
      have hs1 : ((strL P).toList == [84, 79, 76, 76]) = true := by rw [strL_toList, hpt]; rfl
      have hs2 : ((strL P).toList != [84, 79, 76, 76]) = false := by rw [strL_toList, hpt]; rfl
      have Hq := Lib.hid hq
      have HT := Lib.hid hT
      clear hpt hq hT he
      go_wp2
      go_ret2
      exact ⟨by rw [Hq.out, HT.out, HG.out]; rfl, Hb1.out⟩
    · have hq : okH x = false := by rw [Hyes2.out, decide_eq_false hpt]
      have hT := headTag_no hq
      have hs1 : ((strL P).toList == [84, 79, 76, 76]) = false := by rw [strL_toList]; simpa [toll] using hpt
      have hs2 : ((strL P).toList != [84, 79, 76, 76]) = true := by rw [strL_toList]; simpa [toll] using hpt
      have Hq := Lib.hid hq
      have HT := Lib.hid hT
      clear hpt hq hT he
      go_wp2
      go_ret2
      exact ⟨by rw [Hq.out, HT.out]; rfl, Hb1.out⟩
end Go.Proofs.Ytlonmghkdobhdaa
