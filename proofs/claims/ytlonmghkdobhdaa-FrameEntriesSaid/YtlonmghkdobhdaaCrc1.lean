/- What one, eight, steps of package crc compute. Conditions: the numbers fit 32 bits. -/
import Derived.Test.YtlonmghkdobhdaaBytes
import Derived.Test.YtlonmghkdobhdaaCrcP
import Derived.Laws.BitsAll
set_option linter.unusedSimpArgs false
set_option linter.unusedVariables false
namespace Go.Proofs.Ytlonmghkdobhdaa
open Go.RowKit

theorem and1_u32 (x : Nat) (hx : x < 4294967296) : bits .and .u32 (x : Int) 1 = ((x % 2 : Nat) : Int) := by
  have := u32_and_nat x 1 hx (by omega)
  rw [show ((1 : Nat) : Int) = 1 by rfl] at this
  rw [this, Nat.and_one_is_mod]
theorem one_any (x : Nat) (w : World) (hx : x < 4294967296) :
    Calls Try.prog 48 #[.int .u32 x] w fun e w' => e = .returned (.int .u32 (one1 x : Nat)) ∧ w = w' := by
  have e1 := and1_u32 x hx
  have e2 : bits .xor .u32 ((x : Int) / 2) 2197175160 = ((x / 2 ^^^ poly : Nat) : Int) := by
    have := u32_xor_nat (x / 2) 2197175160 (by omega) (by omega)
    rw [show ((2197175160 : Nat) : Int) = 2197175160 by rfl] at this
    exact this
  by_cases h : x % 2 = 1
  · have hf : one1 x = (x / 2 ^^^ poly) := by unfold one1; rw [if_pos h]
    have Hf := Lib.hid hf
    clear hf
    go_enter Try.func48, Try.ntmps48
    go_wp2
    go_ret
    exact ⟨by rw [Hf.out]; rfl, rfl⟩
  · have hf : one1 x = x / 2 := by unfold one1; rw [if_neg h]
    have Hf := Lib.hid hf
    have h0 : x % 2 = 0 := by omega
    clear hf h
    go_enter Try.func48, Try.ntmps48
    go_wp2
    go_ret
    exact ⟨by rw [Hf.out]; rfl, rfl⟩

theorem eight_any (x : Nat) (w : World) (hx : x < 4294967296) :
    Calls Try.prog 45 #[.int .u32 x] w fun e w' => e = .returned (.int .u32 (eight8 x : Nat)) ∧ w = w' := by
  go_enter Try.func45, Try.ntmps45
  go_wp2_with fail
  go_loop [0, 3] (fun y i => ∃ k : Nat, k ≤ 8 ∧ i = .int .i64 k ∧ y = .int .u32 (stepN k x : Nat)) (fun _ i => 8 - (intOf i).toNat)
  case atStart => exact ⟨0, by omega, rfl, rfl⟩
  case round =>
    obtain ⟨k, hk, rfl, rfl⟩ := hrel
    by_cases hlt : k < 8
    · have hy : stepN k x < 4294967296 := stepN_lt hx
      go_wp2_with fail
      refine (one_any _ _ hy).mono ?_
      rintro _ _ ⟨rfl, rfl⟩
      rw [← stepN_succ]
      go_wp2
      go_round
      case rel => exact ⟨k + 1, by omega, by go_num, rfl⟩
      case measure => simp [intOf]; omega
    · obtain rfl : k = 8 := by omega
      have hf : eight8 x = stepN 8 x := rfl
      have Hf := Lib.hid hf
      clear hf
      go_wp2
      go_ret
      exact ⟨by rw [Hf.out]; rfl, rfl⟩

/-! ### the table -/
def tabTo (k : Nat) : Array Value := Array.ofFn (n := 256) fun i => if i.val < k then .int .u32 (eight8 i.val : Nat) else .int .u32 0
def tab : Array Value := Array.ofFn (n := 256) fun i => .int .u32 (eight8 i.val : Nat)
@[simp, go_sem] theorem size_tabTo (k : Nat) : (tabTo k).size = 256 := by simp [tabTo]
@[simp, go_sem] theorem size_tab : tab.size = 256 := by simp [tab]
theorem tabTo_all : tabTo 256 = tab := by
  apply Array.ext
  · simp
  · intro i h1 h2; simp [tabTo, tab] at *
theorem tabTo_succ (k : Nat) (h : k < 256) : putAt (tabTo k) k #[.int .u32 (eight8 k : Nat)] = tabTo (k + 1) := by
  apply Array.ext_getElem?
  intro i
  rw [putAt_get _ _ _ (by simp; omega)]
  by_cases hi : i < 256
  · by_cases h2 : i = k
    · subst h2; rw [if_pos (by simp)]; simp [tabTo, h]
    · rw [if_neg (by simp; omega)]
      by_cases h3 : i < k
      · simp [tabTo, hi, h3, show i < k + 1 by omega]
      · simp [tabTo, hi, h3, show ¬ i < k + 1 by omega]
  · rw [if_neg (by simp; omega)]; simp [hi]
theorem tabTo_one (k : Nat) : ∀ v ∈ tabTo k, v.oneCell' = true := by
  intro v hv
  simp only [tabTo, Array.mem_ofFn] at hv
  obtain ⟨i, rfl⟩ := hv
  split <;> rfl
theorem tab_one : ∀ v ∈ tab, v.oneCell' = true := by rw [← tabTo_all]; exact tabTo_one _
theorem tab_get (k : Nat) (h : k < 256) : tab[k]? = some (.int .u32 (eight8 k : Nat)) := by simp [tab, h]
@[go_sem] theorem tab_extract : tab.extract 0 256 = tab := by
  apply Array.ext'; simp; exact List.take_of_length_le (by simp)
@[go_sem] theorem tabTo_extract (k : Nat) : (tabTo k).extract 0 256 = tabTo k := by
  apply Array.ext'; simp; exact List.take_of_length_le (by simp)
theorem info_tab : (Try.prog.info? 81).map (·.size) = some 256 := by kernel_rfl
theorem zero_tab : (Try.prog.info? 81).bind (·.zero) = some (.agg (tabTo 0)) := by
  have h : (Try.prog.info? 81).bind (·.zero) = some (.agg (Array.replicate 256 (.int .u32 0))) := by kernel_rfl
  have e : Array.replicate 256 (Value.int .u32 0) = tabTo 0 := by
    apply Array.ext
    · rw [Array.size_replicate, size_tabTo]
    · intro i h1 h2
      rw [Array.getElem_replicate]
      simp only [tabTo, Array.getElem_ofFn, Nat.not_lt_zero, if_false]
  rw [← e]; exact h
def LoadTab (v : Value) : Sem Value := Instr.loadAt 81 v
def StoreTab (v x : Value) : Sem Unit := Instr.storeAt 81 v x
def AllocTab : Sem Value := Instr.alloc 81 true (.tuple #[])
@[go_sem ↓] theorem loadAt_tab (v : Value) : Instr.loadAt 81 v = LoadTab v := rfl
@[go_sem ↓] theorem storeAt_tab (v x : Value) : Instr.storeAt 81 v x = StoreTab v x := rfl
@[go_sem ↓] theorem alloc_tab : Instr.alloc 81 true (.tuple #[]) = AllocTab := rfl
@[go_sem ↓] theorem run_LoadTab (w : World) (b o : Nat) (h : (readAt w b o 256).isSome = true) :
    (LoadTab (.pointer (some ⟨b, o, none⟩))).run Try.prog w = .ok (.agg ((readAt w b o 256).getD #[])) w := by
  obtain ⟨cs, hc⟩ := Option.isSome_iff_exists.1 h
  unfold LoadTab
  rw [run_loadAt_at w b o 256 81 _ cs hc Try.underlying81 rfl info_tab, hc]; rfl
@[go_sem ↓] theorem run_StoreTab (w : World) (b o : Nat) (h : canAt w b o 256 = true) :
    (StoreTab (.pointer (some ⟨b, o, none⟩)) (.agg tab)).run Try.prog w = .ok () (setAt w b o tab) :=
  run_storeAt_at w b o 256 81 tab h (by simp) info_tab tab_one
@[go_sem] theorem run_AllocTab (w : World) :
    AllocTab.run Try.prog w = .ok (.pointer (some ⟨w.heap.size, 0, none⟩)) (w.alloc (.cells (tabTo 0) 81)) := by
  obtain ⟨i, hi, hz⟩ := Option.bind_eq_some_iff.1 zero_tab
  unfold AllocTab
  simp [Instr.alloc, zeroValue, typeInfo, hi, hz, newVar, newRow, Value.cells]
theorem results_tab {fn : Func} {p : Tmp} (h : fn.results = #[.cell p 81]) (tmps : Array Value) (w : World) (b o : Nat) (cs : Array Value)
    (hp : tmps.getD p undef = .pointer (some ⟨b, o, none⟩)) (hg : readAt w b o 256 = some cs) : (results fn tmps).run Try.prog w = .ok (.agg cs) w := by
  have hp' : tmps[p]?.getD undef = .pointer (some ⟨b, o, none⟩) := by simpa using hp
  simp [results, h, hp', asAddr, run_loadVar_at w b o 256 81 _ cs hg Try.underlying81 rfl info_tab]
attribute [irreducible] tab tabTo

set_option maxHeartbeats 400000 in
set_option maxRecDepth 10000 in
theorem steps_any (w : World) :
    Calls Try.prog 46 #[] w fun e w' => e = .returned (.agg tab) ∧ Below w.heap.size w w' := by
  go_enter Try.func46, Try.ntmps46
  go_wp2_with fail
  go_loopw [3] (fun i wr => ∃ k : Nat, k ≤ 256 ∧ i = .int .i64 k ∧ readAt wr (w.heap.size + 1) 0 256 = some (tabTo k) ∧ canAt wr (w.heap.size + 1) 0 256 = true ∧ canAt wr w.heap.size 0 256 = true ∧ Below w.heap.size w wr) (fun i _ => 256 - (intOf i).toNat)
  case atStart => exact ⟨0, by omega, rfl, by simp [go_sem], by simp [go_sem], by simp [go_sem], ba _ (ba _ (Below.refl _ _))⟩
  case round =>
    obtain ⟨k, hk, rfl, hr, hc, hc0, hb⟩ := hrel
    by_cases hlt : k < 256
    · have hfr := canAt_cell hc k
      have hold := readAt_cell hr k ((tabTo k)[k]'(by simp; omega)) (by simp)
      rw [Nat.zero_add] at hfr hold
      have Hr := Lib.hid hr
      have Hc := Lib.hid hc
      have Hc0 := Lib.hid hc0
      clear hr hc hc0
      generalize (tabTo k)[k]'(by simp; omega) = old at *
      go_wp2_with fail
      refine (eight_any k _ (by omega)).mono ?_
      rintro _ _ ⟨rfl, rfl⟩
      go_wp2
      go_roundw
      case rel =>
        refine ⟨k + 1, by omega, by go_num, ?_⟩
        have hcan1 := canAt_sub Hc.out k 1 (by omega)
        rw [setCell_setAt hcan1]
        refine ⟨?_, ?_, ?_, setAt_below hb (by omega) _ _⟩
        · rw [readAt_setAt_over _ _ 0 256 _ Hr.out Hc.out k _ (by omega) (by simp; omega), Nat.sub_zero]
          exact congrArg some (tabTo_succ k hlt)
        · rw [canAt_setAt _ _ _ _ _ _ _ (by simpa using hcan1)]; exact Hc.out
        · rw [canAt_setAt _ _ _ _ _ _ _ (by simpa using hcan1)]; exact Hc0.out
      case measure => simp [intOf]; omega
    · obtain rfl : k = 256 := by omega
      rw [tabTo_all] at hr
      go_wp2
      refine bodyPost_ret (results_tab rfl _ _ (w.heap.size) 0 tab rfl ?_) rfl ⟨rfl, setAt_below hb (Nat.le_refl _) _ _⟩
      exact readAt_setAt_same _ _ _ _ _ (by simp) hc0
end Go.Proofs.Ytlonmghkdobhdaa
