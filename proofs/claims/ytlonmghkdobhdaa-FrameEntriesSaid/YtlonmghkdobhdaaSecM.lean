/- What Make of package sector computes. Conditions: the slice reads as bytes. -/
import Derived.Test.YtlonmghkdobhdaaSecB
set_option linter.unusedSimpArgs false
set_option linter.unusedVariables false
namespace Go.Proofs.Ytlonmghkdobhdaa
open Go.RowKit

def secOf (l : List UInt8) : Sec := Vector.ofFn fun i => l.getD i 0
theorem av_secOf (l : List UInt8) (h : l.length ≤ 64) : putAt (av zsec) 0 (bv l) = av (secOf l) := by
  apply Array.ext_getElem?
  intro i
  rw [putAt_get _ _ _ (by simpa using h)]
  by_cases hi : i < 64
  · rw [av_get _ i hi]
    by_cases h2 : i < l.length
    · rw [if_pos (by simp; exact h2)]
      simp [bv, B8, secOf, h2]
      rw [av_get _ i hi]
      simp [h2]
    · rw [if_neg (by simp; omega), av_get _ i hi]
      simp [secOf, zsec, List.getD, h2]
  · rw [if_neg (by simp; omega)]; simp [hi]

theorem results_sec_tmp {fn : Func} {p q : Tmp} (h : fn.results = #[.cell p 25, .tmp q]) (tmps : Array Value) (w : World) (b o : Nat) (cs : Array Value) (v : Value)
    (hp : tmps.getD p undef = .pointer (some ⟨b, o, none⟩)) (hq : tmps.getD q undef = v) (hg : readAt w b o 64 = some cs) : (results fn tmps).run Try.prog w = .ok (.tuple #[.agg cs, v]) w := by
  have hp' : tmps[p]?.getD undef = .pointer (some ⟨b, o, none⟩) := by simpa using hp
  have hq' : tmps[q]?.getD undef = v := by simpa using hq
  simp [results, h, hp', hq', asAddr, run_loadVar_at w b o 64 25 _ cs hg Try.underlying25 rfl info_sec]

theorem make_no (ad : Option Addr) (n c : Nat) (w : World) (h : 64 < n) :
    Calls Try.prog 24 #[.slice ad n c] w fun e w' => e = .returned (.tuple #[.agg (av zsec), .bool false]) ∧ Below w.heap.size w w' := by
  go_enter Try.func24, Try.ntmps24
  go_wp2
  refine bodyPost_ret (results_sec_tmp rfl _ _ (w.heap.size) 0 (av zsec) _ rfl rfl ?_) rfl ⟨rfl, setAt_below (ba _ (ba _ (Below.refl _ _))) (Nat.le_refl _) _ _⟩
  exact readAt_setAt_same _ _ _ _ _ (by simp) (by simp [go_sem])

theorem make_yes (ad : Option Addr) (n c : Nat) (l : List UInt8) (w : World) (hr : BytesAt w ad n l) (h : n ≤ 64) :
    Calls Try.prog 24 #[.slice ad n c] w fun e w' => e = .returned (.tuple #[.agg (av (secOf l)), .bool true]) ∧ Below w.heap.size w w' := by
  obtain ⟨hl, _, hr⟩ := hr
  obtain ⟨W, hW⟩ : ∃ W, W = ((w.alloc (.cells (av zsec) 25)).alloc (.cells (av zsec) 25)) := ⟨_, rfl⟩
  have hb : Below w.heap.size w W := by subst hW; exact (ba _ (ba _ (Below.refl _ _)))
  have hcp : ∃ W2, (Builtin.copy_ #[23, 23] 3 #[.slice (some ⟨w.heap.size + 1, 0, none⟩) 64 64, .slice ad n c]).run Try.prog W = .ok (goInt n) W2 ∧
      readAt W2 (w.heap.size + 1) 0 64 = some (av (secOf l)) ∧ canAt W2 w.heap.size 0 64 = true ∧ Below w.heap.size w W2 := by
    by_cases h0 : 0 < n
    · obtain ⟨b, o, rfl, hrd⟩ := hr h0
      have hlt := readAt_lt hrd
      refine ⟨setAt W (w.heap.size + 1) 0 (bv l), copy_sec W 3 (w.heap.size + 1) 0 64 64 b o n c n (by simp only [Nat.min_def]; split <;> omega) (bv l) ?_ ?_ (bv_one l), ?_, ?_, setAt_below hb (by omega) _ _⟩
      · subst hW; simp [go_sem, h]
      · rw [readAt_below hb hlt]; exact hrd
      · subst hW
        rw [readAt_setAt_over _ _ 0 64 (av zsec) (by simp [go_sem]) (by simp [go_sem]) 0 _ (Nat.le_refl _) (by simp [hl, h])]
        exact congrArg some (av_secOf l (by omega))
      · subst hW; simp [go_sem]
    · obtain rfl : n = 0 := by omega
      obtain rfl : l = [] := List.eq_nil_of_length_eq_zero hl
      refine ⟨W, run_copy_none W _ _ _ 5 _ _ _ _ _ _ Try.underlying23 info_u8 (by simp), ?_, ?_, hb⟩
      · subst hW; simp [go_sem]
        congr 1
      · subst hW; simp [go_sem]
  obtain ⟨W2, hcp, h1, h2, h3⟩ := hcp
  subst hW
  go_enter Try.func24, Try.ntmps24
  go_wp2
  refine bodyPost_ret (results_sec_tmp rfl _ _ (w.heap.size) 0 (av (secOf l)) _ rfl rfl ?_) rfl ⟨rfl, setAt_below h3 (Nat.le_refl _) _ _⟩
  exact readAt_setAt_same _ _ _ _ _ (by simp) h2
end Go.Proofs.Ytlonmghkdobhdaa
