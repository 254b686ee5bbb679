/- What Code and Place of package fault compute of the errors that a disk returns. Conditions: the error is nil, a code, or a fault. -/
import Derived.Test.YtjedlcfeobhjnaaDisk6
import Derived.Defers
import Derived.Recover
import Derived.Laws.Pointers
import Derived.Stop.Asserts
import Derived.LoopN
set_option linter.unusedSimpArgs false
set_option linter.unusedVariables false
namespace Go.Proofs.Ytjedlcfeobhjnaa
open Go.RowKit Go.ChangeMaps

theorem ta66_hit (c : Int) (w : World) : (Instr.typeAssert (.iface 66 (.int .i64 c)) 33 66 true).run Try.prog w = .ok (.tuple #[.int .i64 c, .bool true]) w := by
  simp [Instr.typeAssert, run_underlying Try.underlying66]
theorem zero66 (w : World) : (zeroValue 66).run Try.prog w = .ok (.int .i64 0) w := by kernel_rfl
theorem zero89 (w : World) : (zeroValue 89).run Try.prog w = .ok (.agg #[.int .i64 0, .int .i64 0]) w := by kernel_rfl
theorem ta66_miss (v : Value) (w : World) : (Instr.typeAssert (.iface 89 v) 33 66 true).run Try.prog w = .ok (.tuple #[.int .i64 0, .bool false]) w := by
  simp [Instr.typeAssert, run_underlying Try.underlying66, zero66]
theorem ta89_hit (v : Value) (w : World) : (Instr.typeAssert (.iface 89 v) 33 89 true).run Try.prog w = .ok (.tuple #[v, .bool true]) w := by
  simp [Instr.typeAssert, run_underlying Try.underlying89]
theorem ta89_miss (v : Value) (w : World) : (Instr.typeAssert (.iface 66 v) 33 89 true).run Try.prog w = .ok (.tuple #[.agg #[.int .i64 0, .int .i64 0], .bool false]) w := by
  simp [Instr.typeAssert, run_underlying Try.underlying89, zero89]
theorem ta105_lacks (v : Value) (w : World) : (Instr.typeAssert (.iface 66 v) 33 105 true).run Try.prog w = .ok (.tuple #[.nilIface, .bool false]) w :=
  run_typeAssert_lacksB Try.underlying105 (by kernel_rfl) (by kernel_rfl) v _ w
theorem ta105_has (v : Value) (w : World) : (Instr.typeAssert (.iface 89 v) 33 105 true).run Try.prog w = .ok (.tuple #[.iface 89 v, .bool true]) w :=
  run_typeAssert_hasB Try.underlying105 (by kernel_rfl) v _ w

set_option maxRecDepth 100000 in
theorem code1_code (c : Int) (B : Nat) (v : Value) (w : World) (hc : w.cell? ⟨B, 0, none⟩ = some v) (hf : w.frozen? ⟨B, 0, none⟩ = false) :
    Calls Try.prog 51 #[codeV c, .pointer (some ⟨B, 0, none⟩)] w fun e w' => e = .returned (.bool true) ∧ w' = w.setCell ⟨B, 0, none⟩ (.int .i64 c) := by
  unfold codeV
  have ta := ta66_hit c
  go_enter Try.func51, Try.ntmps51
  go_wp2
  go_ret
  exact ⟨rfl, rfl⟩
set_option maxRecDepth 100000 in
theorem code1_fault (c k : Int) (B : Nat) (w : World) :
    Calls Try.prog 51 #[faultV c k, .pointer (some ⟨B, 0, none⟩)] w fun e w' => e = .returned (.bool false) ∧ w' = w := by
  unfold faultV
  have ta := ta66_miss (.agg #[.int .i64 c, .int .i64 k])
  go_enter Try.func51, Try.ntmps51
  go_wp2
  go_ret
  exact ⟨rfl, rfl⟩
set_option maxRecDepth 100000 in
theorem place1_code (c : Int) (B C : Nat) (w : World) :
    Calls Try.prog 53 #[codeV c, .pointer (some ⟨B, 0, none⟩), .pointer (some ⟨C, 0, none⟩)] w fun e w' => e = .returned (.bool false) ∧ Below w.heap.size w w' := by
  unfold codeV
  have ta := ta89_miss (.int .i64 c)
  go_enter Try.func53, Try.ntmps53
  go_wp2
  go_ret
  exact ⟨rfl, ba _ (Below.refl _ _)⟩
set_option maxRecDepth 100000 in
theorem place1_fault (c k : Int) (B C : Nat) (v u : Value) (w : World) (hBC : B ≠ C) (hc : w.cell? ⟨B, 0, none⟩ = some v) (hf : w.frozen? ⟨B, 0, none⟩ = false) (hc2 : w.cell? ⟨C, 0, none⟩ = some u) (hf2 : w.frozen? ⟨C, 0, none⟩ = false) :
    Calls Try.prog 53 #[faultV c k, .pointer (some ⟨B, 0, none⟩), .pointer (some ⟨C, 0, none⟩)] w fun e w' => e = .returned (.bool true) ∧ ∃ o, w' = ((w.setCell ⟨B, 0, none⟩ (.int .i64 k)).setCell ⟨C, 0, none⟩ (.bool true)).alloc o := by
  unfold faultV
  have ta := ta89_hit (.agg #[.int .i64 c, .int .i64 k])
  have hB := World.block_lt_of_cell? w _ hc
  have hC := World.block_lt_of_cell? w _ hc2
  go_enter Try.func53, Try.ntmps53
  go_wp2
  go_ret
  exact ⟨rfl, _, rfl⟩
set_option maxRecDepth 100000 in
theorem unwrap_any (c k : Int) (w : World) :
    Calls Try.prog 74 #[.agg #[.int .i64 c, .int .i64 k]] w fun e w' => e = .returned (codeV c) ∧ Below w.heap.size w w' := by
  unfold codeV
  go_enter Try.func74, Try.ntmps74
  go_wp2
  go_ret
  exact ⟨rfl, ba _ (Below.refl _ _)⟩
theorem recover_idle (w : World) :
    CallsD Try.prog 55 #[] .returning w fun e u' w' => e = .returned (.tuple #[]) ∧ u' = .returning ∧ w' = w := by
  refine callsD_of_wpS Try.func55 rfl fun c₀ cs hu => ?_
  apply wpS_region
  simp [wpOpsS, go_sem, recoverD, hu, Try.ntmps55, Exit.thenS, bodyPostS, results, Try.results55]
  cases c₀; simp_all

theorem method_un (v : Value) (w : World) : (method 224 89 v "Unwrap").run Try.prog w = .ok (74, v) w := by kernel_rfl
/-- The closures that Code and Place hand to search. -/
def cCode (B : Nat) : Value := .func (.func 51) #[] #[.pointer (some ⟨B, 0, none⟩)]
def cPlace (B C : Nat) : Value := .func (.func 53) #[] #[.pointer (some ⟨B, 0, none⟩), .pointer (some ⟨C, 0, none⟩)]

set_option maxRecDepth 100000 in
set_option maxHeartbeats 800000 in
theorem search_nil (fn : Fn) (f1 f2 : Array Value) (w : World) :
    Calls Try.prog 50 #[.nilIface, .func fn f1 f2] w fun e w' => e = .returned (.tuple #[]) ∧ w' = w := by
  have hmf : ∀ (fn : Fn) (first cap : Array Value) (w : World), (Instr.makeFunc fn first cap).run Try.prog w = .ok (.func fn first cap) w := fun _ _ _ _ => rfl
  go_enter_defers Try.func50, Try.ntmps50
  go_wp2
  refine wp_loop_rounds 1 ?_
  rw [rounds_succ]
  go_wp2
  refine leaves_cons (f := 55) (args := #[]) (by simp) (by simp [go_sem]) ?_
  refine (recover_idle _).mono ?_
  rintro e u' w'' ⟨rfl, rfl, rfl⟩
  exact ⟨_, results_none rfl _ _ _, rfl, rfl⟩
set_option maxRecDepth 100000 in
set_option maxHeartbeats 800000 in
theorem search_code_code (c : Int) (B : Nat) (v : Value) (w : World) (hc : w.cell? ⟨B, 0, none⟩ = some v) (hf : w.frozen? ⟨B, 0, none⟩ = false) :
    Calls Try.prog 50 #[codeV c, cCode B] w fun e w' => e = .returned (.tuple #[]) ∧ w' = w.setCell ⟨B, 0, none⟩ (.int .i64 c) := by
  unfold cCode codeV
  have hmf : ∀ (fn : Fn) (first cap : Array Value) (w : World), (Instr.makeFunc fn first cap).run Try.prog w = .ok (.func fn first cap) w := fun _ _ _ _ => rfl
  go_enter_defers Try.func50, Try.ntmps50
  go_wp2
  refine wp_loop_rounds 1 ?_
  rw [rounds_succ]
  go_wp2_with fail
  refine (code1_code c B v w hc hf).mono ?_
  rintro e w1 ⟨rfl, rfl⟩
  go_wp2
  refine leaves_cons (f := 55) (args := #[]) (by simp) (by simp [go_sem]) ?_
  refine (recover_idle _).mono ?_
  rintro e u' w'' ⟨rfl, rfl, rfl⟩
  exact ⟨_, results_none rfl _ _ _, rfl, rfl⟩
set_option maxRecDepth 100000 in
set_option maxHeartbeats 800000 in
theorem search_place_fault (c k : Int) (B C : Nat) (v u : Value) (w : World) (hBC : B ≠ C) (hc : w.cell? ⟨B, 0, none⟩ = some v) (hf : w.frozen? ⟨B, 0, none⟩ = false) (hc2 : w.cell? ⟨C, 0, none⟩ = some u) (hf2 : w.frozen? ⟨C, 0, none⟩ = false) :
    Calls Try.prog 50 #[faultV c k, cPlace B C] w fun e w' => e = .returned (.tuple #[]) ∧ ∃ o, w' = ((w.setCell ⟨B, 0, none⟩ (.int .i64 k)).setCell ⟨C, 0, none⟩ (.bool true)).alloc o := by
  unfold cPlace faultV
  have hmf : ∀ (fn : Fn) (first cap : Array Value) (w : World), (Instr.makeFunc fn first cap).run Try.prog w = .ok (.func fn first cap) w := fun _ _ _ _ => rfl
  go_enter_defers Try.func50, Try.ntmps50
  go_wp2
  refine wp_loop_rounds 1 ?_
  rw [rounds_succ]
  go_wp2_with fail
  refine (place1_fault c k B C v u w hBC hc hf hc2 hf2).mono ?_
  rintro e w1 ⟨rfl, o, rfl⟩
  go_wp2
  refine leaves_cons (f := 55) (args := #[]) (by simp) (by simp [go_sem]) ?_
  refine (recover_idle _).mono ?_
  rintro e u' w'' ⟨rfl, rfl, rfl⟩
  exact ⟨_, results_none rfl _ _ _, rfl, o, rfl⟩
set_option maxRecDepth 100000 in
set_option maxHeartbeats 800000 in
theorem search_place_code (c : Int) (B C : Nat) (w : World) :
    Calls Try.prog 50 #[codeV c, cPlace B C] w fun e w' => e = .returned (.tuple #[]) ∧ Below w.heap.size w w' := by
  unfold cPlace codeV
  have ta := ta105_lacks (.int .i64 c)
  have hmf : ∀ (fn : Fn) (first cap : Array Value) (w : World), (Instr.makeFunc fn first cap).run Try.prog w = .ok (.func fn first cap) w := fun _ _ _ _ => rfl
  go_enter_defers Try.func50, Try.ntmps50
  go_wp2
  refine wp_loop_rounds 1 ?_
  rw [rounds_succ]
  go_wp2_with fail
  refine (place1_code c B C w).mono ?_
  rintro e w1 ⟨rfl, hb⟩
  have Hb := Lib.hid hb
  clear hb
  go_wp2
  refine leaves_cons (f := 55) (args := #[]) (by simp) (by simp [go_sem]) ?_
  refine (recover_idle _).mono ?_
  rintro e u' w'' ⟨rfl, rfl, rfl⟩
  exact ⟨_, results_none rfl _ _ _, rfl, Hb.out⟩
set_option maxRecDepth 100000 in
set_option maxHeartbeats 800000 in
theorem search_code_fault (c k : Int) (B : Nat) (v : Value) (w : World) (hc : w.cell? ⟨B, 0, none⟩ = some v) (hf : w.frozen? ⟨B, 0, none⟩ = false) :
    Calls Try.prog 50 #[faultV c k, cCode B] w fun e w' => e = .returned (.tuple #[]) ∧ Below B w w' ∧ w'.cell? ⟨B, 0, none⟩ = some (.int .i64 c) := by
  unfold cCode faultV
  have mu := method_un (.agg #[.int .i64 c, .int .i64 k])
  have ta := ta105_has (.agg #[.int .i64 c, .int .i64 k])
  have hmf : ∀ (fn : Fn) (first cap : Array Value) (w : World), (Instr.makeFunc fn first cap).run Try.prog w = .ok (.func fn first cap) w := fun _ _ _ _ => rfl
  go_enter_defers Try.func50, Try.ntmps50
  go_wp2
  refine wp_loop_rounds 2 ?_
  rw [rounds_succ]
  go_wp2_with fail
  refine (code1_fault c k B w).mono ?_
  rintro e w1 ⟨rfl, rfl⟩
  go_wp2_with fail
  refine (unwrap_any c k _).mono ?_
  rintro e w2 ⟨rfl, hb⟩
  have hlt := World.block_lt_of_cell? w1 _ hc
  have hc2 : w2.cell? ⟨B, 0, none⟩ = some v := (hb.cell (p := ⟨B, 0, none⟩) hlt).trans hc
  have hf2 : w2.frozen? ⟨B, 0, none⟩ = false := (hb.frozen (p := ⟨B, 0, none⟩) hlt).trans hf
  have Hb : Hid (Below B w1 w2) := hb.mono (Nat.le_of_lt hlt)
  have Hlt : Hid (B < w2.heap.size) := Nat.lt_of_lt_of_le hlt hb.size
  clear hb hlt hc hf mu
  unfold codeV
  go_wp2_with fail
  rw [rounds_succ]
  go_wp2_with fail
  refine (code1_code c B v w2 hc2 hf2).mono ?_
  rintro e w3 ⟨rfl, rfl⟩
  have HC : Hid (Below B w1 (w2.setCell ⟨B, 0, none⟩ (.int .i64 c)) ∧ (w2.setCell ⟨B, 0, none⟩ (.int .i64 c)).cell? ⟨B, 0, none⟩ = some (.int .i64 c)) := ⟨Hb.out.setCell (Nat.le_refl _) _, World.cell?_setCell_same' w2 _ _ (by simp [hc2])⟩
  clear hc2 hf2
  generalize w2.setCell ⟨B, 0, none⟩ (.int .i64 c) = w4 at *
  go_wp2
  refine leaves_cons (f := 55) (args := #[]) (by simp) (by simp [go_sem]) ?_
  refine (recover_idle _).mono ?_
  rintro e u' w'' ⟨rfl, rfl, rfl⟩
  exact ⟨_, results_none rfl _ _ _, rfl, HC.out⟩

/-- The error that a code stands for, as a disk returns it. -/
theorem errV_cases (c k : Int) : (c = 0 ∧ errV c k = .nilIface) ∨ (c = 15 ∧ errV c k = faultV 15 k) ∨ (c ≠ 0 ∧ c ≠ 15 ∧ errV c k = codeV c) := by
  unfold errV
  by_cases h0 : c = 0
  · exact .inl ⟨h0, by rw [if_pos h0]⟩
  · by_cases h1 : c = 15
    · exact .inr (.inl ⟨h1, by rw [if_neg h0, if_pos h1]⟩)
    · exact .inr (.inr ⟨h0, h1, by rw [if_neg h0, if_neg h1]⟩)

set_option maxRecDepth 100000 in
set_option maxHeartbeats 800000 in
theorem fcode_any (c k : Int) (w : World) :
    Calls Try.prog 42 #[errV c k] w fun e w' => e = .returned (.int .i64 c) ∧ Below w.heap.size w w' := by
  have hmf : ∀ (fn : Fn) (first cap : Array Value) (w : World), (Instr.makeFunc fn first cap).run Try.prog w = .ok (.func fn first cap) w := fun _ _ _ _ => rfl
  have hc : (w.alloc (.cells #[.int .i64 0] 66)).cell? ⟨w.heap.size, 0, none⟩ = some (.int .i64 0) := by simp [go_sem]
  have hf : (w.alloc (.cells #[.int .i64 0] 66)).frozen? ⟨w.heap.size, 0, none⟩ = false := by simp [go_sem]
  have Hb := Lib.hid (ba (.cells #[.int .i64 0] 66) (Below.refl w.heap.size w))
  have Hc := Lib.hid hc
  have Hf := Lib.hid hf
  clear hc hf
  rcases errV_cases c k with ⟨rfl, e1⟩ | ⟨rfl, e1⟩ | ⟨h0, h1, e1⟩
  · rw [e1]
    go_enter Try.func42, Try.ntmps42
    go_wp2_with fail
    refine (search_nil _ _ _ _).mono ?_
    rintro _ w2 ⟨rfl, rfl⟩
    go_wp2
    go_ret
    exact ⟨rfl, Hb.out⟩
  · rw [e1]
    go_enter Try.func42, Try.ntmps42
    go_wp2_with fail
    refine (search_code_fault 15 k w.heap.size _ _ Hc.out Hf.out).mono ?_
    rintro _ w2 ⟨rfl, hb, hc2⟩
    have HB := Lib.hid (Hb.out.trans hb)
    clear hb
    go_wp2
    go_ret
    exact ⟨rfl, HB.out⟩
  · rw [e1]
    go_enter Try.func42, Try.ntmps42
    go_wp2_with fail
    refine (search_code_code c w.heap.size _ _ Hc.out Hf.out).mono ?_
    rintro _ w2 ⟨rfl, rfl⟩
    go_wp2
    go_ret
    exact ⟨rfl, ba _ (Below.refl _ _)⟩
theorem code_any (c k : Int) (w : World) :
    Calls Try.prog 26 #[errV c k] w fun e w' => e = .returned (.int .i64 c) ∧ Below w.heap.size w w' := by
  go_enter Try.func26, Try.ntmps26
  go_wp2_with fail
  refine (fcode_any c k w).mono ?_
  rintro _ w2 ⟨rfl, hb⟩
  have HB := Lib.hid hb
  clear hb
  go_wp2
  go_ret
  exact ⟨rfl, HB.out⟩
def plN (c k : Int) : Int := if c = 15 then k else 0
set_option maxRecDepth 100000 in
set_option maxHeartbeats 800000 in
theorem fplace_any (c k : Int) (w : World) :
    Calls Try.prog 46 #[errV c k] w fun e w' => e = .returned (.tuple #[.int .i64 (plN c k), .bool (decide (c = 15))]) ∧ Below w.heap.size w w' := by
  have hmf : ∀ (fn : Fn) (first cap : Array Value) (w : World), (Instr.makeFunc fn first cap).run Try.prog w = .ok (.func fn first cap) w := fun _ _ _ _ => rfl
  have Hb := Lib.hid (ba (.cells #[.bool false] 4) (ba (.cells #[.int .i64 0] 3) (Below.refl w.heap.size w)))
  have hc1 : ((w.alloc (.cells #[.int .i64 0] 3)).alloc (.cells #[.bool false] 4)).cell? ⟨w.heap.size, 0, none⟩ = some (.int .i64 0) := by simp [go_sem]
  have hf1 : ((w.alloc (.cells #[.int .i64 0] 3)).alloc (.cells #[.bool false] 4)).frozen? ⟨w.heap.size, 0, none⟩ = false := by simp [go_sem]
  have hc2 : ((w.alloc (.cells #[.int .i64 0] 3)).alloc (.cells #[.bool false] 4)).cell? ⟨w.heap.size + 1, 0, none⟩ = some (.bool false) := by simp [go_sem]
  have hf2 : ((w.alloc (.cells #[.int .i64 0] 3)).alloc (.cells #[.bool false] 4)).frozen? ⟨w.heap.size + 1, 0, none⟩ = false := by simp [go_sem]
  have Hc1 := Lib.hid hc1
  have Hf1 := Lib.hid hf1
  have Hc2 := Lib.hid hc2
  have Hf2 := Lib.hid hf2
  clear hc1 hf1 hc2 hf2
  rcases errV_cases c k with ⟨rfl, e1⟩ | ⟨rfl, e1⟩ | ⟨h0, h1, e1⟩
  · rw [e1]
    go_enter Try.func46, Try.ntmps46
    go_wp2_with fail
    generalize (w.alloc (.cells #[.int .i64 0] 3)).alloc (.cells #[.bool false] 4) = W at *
    refine (search_nil _ _ _ _).mono ?_
    rintro _ w2 ⟨rfl, rfl⟩
    go_wp2_with fail
    have c1 := Hc1.out
    have c2 := Hc2.out
    have HB := Lib.hid Hb.out
    refine wp_region_tr (.take 0 (.take 1 (.take 2 (.take 3 .done)))) (fun u => u = w2.drew) (by kernel_rfl) (by kernel_rfl) rfl (by kernel_rfl) rfl ?_
    have c1' : w2.drew.cell? ⟨w.heap.size, 0, none⟩ = some (.int .i64 0) := c1
    have c2' : w2.drew.cell? ⟨w.heap.size + 1, 0, none⟩ = some (.bool false) := c2
    have HB2 : Hid (Below w.heap.size w w2.drew) := HB.out.drew
    clear c1 c2 HB
    generalize w2.drew = w3 at *
    repeat (first | (refine t_off rfl rfl ?_; simp only [List.getElem_toArray, List.getElem_cons_succ, List.getElem_cons_zero, Act.put, Act.eval, List.setIfInBounds_toArray, List.set_cons_zero, List.set_cons_succ, Array.getD_eq_getD_getElem?, List.getElem?_toArray, List.getElem?_cons_succ, List.getElem?_cons_zero, Option.getD_some]) | (refine t_move rfl _ rfl rfl ?_; simp only [List.getElem_toArray, List.getElem_cons_succ, List.getElem_cons_zero, Act.put, Act.eval, List.setIfInBounds_toArray, List.set_cons_zero, List.set_cons_succ, Array.getD_eq_getD_getElem?, List.getElem?_toArray, List.getElem?_cons_succ, List.getElem?_cons_zero, Option.getD_some]) | (refine t_assign rfl _ rfl rfl ?_; simp only [List.getElem_toArray, List.getElem_cons_succ, List.getElem_cons_zero, Act.put, Act.eval, List.setIfInBounds_toArray, List.set_cons_zero, List.set_cons_succ, Array.getD_eq_getD_getElem?, List.getElem?_toArray, List.getElem?_cons_succ, List.getElem?_cons_zero, Option.getD_some]) | (refine t_val rfl rfl ?_; apply Exists.intro; refine ⟨fun w' hC' => ?_, ?_⟩; (subst hC'; go_simp; (first | done | exact rfl)); simp only [List.getElem_toArray, List.getElem_cons_succ, List.getElem_cons_zero, Act.put, Act.eval, List.setIfInBounds_toArray, List.set_cons_zero, List.set_cons_succ, Array.getD_eq_getD_getElem?, List.getElem?_toArray, List.getElem?_cons_succ, List.getElem?_cons_zero, Option.getD_some]) | (refine p_off rfl rfl ?_; simp only [List.getElem_toArray, List.getElem_cons_succ, List.getElem_cons_zero, Act.put, Act.eval, List.setIfInBounds_toArray, List.set_cons_zero, List.set_cons_succ, Array.getD_eq_getD_getElem?, List.getElem?_toArray, List.getElem?_cons_succ, List.getElem?_cons_zero, Option.getD_some]) | (refine p_val rfl rfl ?_; apply Exists.intro; refine ⟨fun w' => ?_, ?_⟩; (go_simp; (first | done | exact rfl)); simp only [List.getElem_toArray, List.getElem_cons_succ, List.getElem_cons_zero, Act.put, Act.eval, List.setIfInBounds_toArray, List.set_cons_zero, List.set_cons_succ, Array.getD_eq_getD_getElem?, List.getElem?_toArray, List.getElem?_cons_succ, List.getElem?_cons_zero, Option.getD_some]))
    refine t_done ?_
    clear c1' c2'
    go_wp2
    go_ret2
    exact ⟨rfl, HB2.out⟩
  · rw [e1]
    go_enter Try.func46, Try.ntmps46
    go_wp2_with fail
    generalize (w.alloc (.cells #[.int .i64 0] 3)).alloc (.cells #[.bool false] 4) = W at *
    refine (search_place_fault 15 k w.heap.size (w.heap.size + 1) _ _ _ (by omega) Hc1.out Hf1.out Hc2.out Hf2.out).mono ?_
    rintro _ w2 ⟨rfl, o, hw2⟩
    have l1 := World.block_lt_of_cell? _ _ Hc1.out
    have l2 := World.block_lt_of_cell? _ _ Hc2.out
    have s1 : ∀ (a : Addr) (v : Value), (W.setCell a v).heap.size = W.heap.size := fun a v => by simp
    have s2 : ∀ (a b : Addr) (v u : Value), ((W.setCell a v).setCell b u).heap.size = W.heap.size := fun a b v u => by simp
    have c1 : w2.cell? ⟨w.heap.size, 0, none⟩ = some (.int .i64 k) := by
      rw [hw2, World.cell?_alloc_lt _ _ _ (by rw [s2]; exact l1), World.cell?_setCell_other _ _ _ _ (by simp), World.cell?_setCell_same' _ _ _ (by rw [Hc1.out]; rfl)]
    have c2 : w2.cell? ⟨w.heap.size + 1, 0, none⟩ = some (.bool true) := by
      rw [hw2, World.cell?_alloc_lt _ _ _ (by rw [s2]; exact l2), World.cell?_setCell_same' _ _ _ (by rw [World.cell?_setCell_other _ _ _ _ (by simp), Hc2.out]; rfl)]
    clear l1 l2 s1 s2
    have HB : Hid (Below w.heap.size w w2) := by
      show Below _ _ _
      rw [hw2]
      exact ba _ ((Hb.out.setCell (p := ⟨w.heap.size, 0, none⟩) (Nat.le_refl _) _).setCell (p := ⟨w.heap.size + 1, 0, none⟩) (Nat.le_succ _) _)
    clear hw2
    have Hq1 := Lib.hid c1
    have Hq2 := Lib.hid c2
    clear c1 c2
    go_wp2_with fail
    have c1 := Hq1.out
    have c2 := Hq2.out
    refine wp_region_tr (.take 0 (.take 1 (.take 2 (.take 3 .done)))) (fun u => u = w2.drew) (by kernel_rfl) (by kernel_rfl) rfl (by kernel_rfl) rfl ?_
    have c1' : w2.drew.cell? ⟨w.heap.size, 0, none⟩ = some (.int .i64 k) := c1
    have c2' : w2.drew.cell? ⟨w.heap.size + 1, 0, none⟩ = some (.bool true) := c2
    have HB2 : Hid (Below w.heap.size w w2.drew) := HB.out.drew
    clear c1 c2 HB
    generalize w2.drew = w3 at *
    repeat (first | (refine t_off rfl rfl ?_; simp only [List.getElem_toArray, List.getElem_cons_succ, List.getElem_cons_zero, Act.put, Act.eval, List.setIfInBounds_toArray, List.set_cons_zero, List.set_cons_succ, Array.getD_eq_getD_getElem?, List.getElem?_toArray, List.getElem?_cons_succ, List.getElem?_cons_zero, Option.getD_some]) | (refine t_move rfl _ rfl rfl ?_; simp only [List.getElem_toArray, List.getElem_cons_succ, List.getElem_cons_zero, Act.put, Act.eval, List.setIfInBounds_toArray, List.set_cons_zero, List.set_cons_succ, Array.getD_eq_getD_getElem?, List.getElem?_toArray, List.getElem?_cons_succ, List.getElem?_cons_zero, Option.getD_some]) | (refine t_assign rfl _ rfl rfl ?_; simp only [List.getElem_toArray, List.getElem_cons_succ, List.getElem_cons_zero, Act.put, Act.eval, List.setIfInBounds_toArray, List.set_cons_zero, List.set_cons_succ, Array.getD_eq_getD_getElem?, List.getElem?_toArray, List.getElem?_cons_succ, List.getElem?_cons_zero, Option.getD_some]) | (refine t_val rfl rfl ?_; apply Exists.intro; refine ⟨fun w' hC' => ?_, ?_⟩; (subst hC'; go_simp; (first | done | exact rfl)); simp only [List.getElem_toArray, List.getElem_cons_succ, List.getElem_cons_zero, Act.put, Act.eval, List.setIfInBounds_toArray, List.set_cons_zero, List.set_cons_succ, Array.getD_eq_getD_getElem?, List.getElem?_toArray, List.getElem?_cons_succ, List.getElem?_cons_zero, Option.getD_some]) | (refine p_off rfl rfl ?_; simp only [List.getElem_toArray, List.getElem_cons_succ, List.getElem_cons_zero, Act.put, Act.eval, List.setIfInBounds_toArray, List.set_cons_zero, List.set_cons_succ, Array.getD_eq_getD_getElem?, List.getElem?_toArray, List.getElem?_cons_succ, List.getElem?_cons_zero, Option.getD_some]) | (refine p_val rfl rfl ?_; apply Exists.intro; refine ⟨fun w' => ?_, ?_⟩; (go_simp; (first | done | exact rfl)); simp only [List.getElem_toArray, List.getElem_cons_succ, List.getElem_cons_zero, Act.put, Act.eval, List.setIfInBounds_toArray, List.set_cons_zero, List.set_cons_succ, Array.getD_eq_getD_getElem?, List.getElem?_toArray, List.getElem?_cons_succ, List.getElem?_cons_zero, Option.getD_some]))
    refine t_done ?_
    clear c1' c2'
    go_wp2
    go_ret2
    exact ⟨rfl, HB2.out⟩
  · rw [e1]
    have hp : plN c k = 0 := by unfold plN; rw [if_neg h1]
    have hd : decide (c = 15) = false := by simpa using h1
    rw [hp, hd]
    go_enter Try.func46, Try.ntmps46
    go_wp2_with fail
    generalize (w.alloc (.cells #[.int .i64 0] 3)).alloc (.cells #[.bool false] 4) = W at *
    refine (search_place_code c w.heap.size (w.heap.size + 1) _).mono ?_
    rintro _ w2 ⟨rfl, hb2⟩
    have Hq1 : Hid (w2.cell? ⟨w.heap.size, 0, none⟩ = some (.int .i64 0)) := (hb2.cell (p := ⟨w.heap.size, 0, none⟩) (World.block_lt_of_cell? _ _ Hc1.out)).trans Hc1.out
    have Hq2 : Hid (w2.cell? ⟨w.heap.size + 1, 0, none⟩ = some (.bool false)) := (hb2.cell (p := ⟨w.heap.size + 1, 0, none⟩) (World.block_lt_of_cell? _ _ Hc2.out)).trans Hc2.out
    have HB := Lib.hid (bt Hb.out hb2)
    clear hb2
    go_wp2_with fail
    have c1 := Hq1.out
    have c2 := Hq2.out
    refine wp_region_tr (.take 0 (.take 1 (.take 2 (.take 3 .done)))) (fun u => u = w2.drew) (by kernel_rfl) (by kernel_rfl) rfl (by kernel_rfl) rfl ?_
    have c1' : w2.drew.cell? ⟨w.heap.size, 0, none⟩ = some (.int .i64 0) := c1
    have c2' : w2.drew.cell? ⟨w.heap.size + 1, 0, none⟩ = some (.bool false) := c2
    have HB2 : Hid (Below w.heap.size w w2.drew) := HB.out.drew
    clear c1 c2 HB
    generalize w2.drew = w3 at *
    repeat (first | (refine t_off rfl rfl ?_; simp only [List.getElem_toArray, List.getElem_cons_succ, List.getElem_cons_zero, Act.put, Act.eval, List.setIfInBounds_toArray, List.set_cons_zero, List.set_cons_succ, Array.getD_eq_getD_getElem?, List.getElem?_toArray, List.getElem?_cons_succ, List.getElem?_cons_zero, Option.getD_some]) | (refine t_move rfl _ rfl rfl ?_; simp only [List.getElem_toArray, List.getElem_cons_succ, List.getElem_cons_zero, Act.put, Act.eval, List.setIfInBounds_toArray, List.set_cons_zero, List.set_cons_succ, Array.getD_eq_getD_getElem?, List.getElem?_toArray, List.getElem?_cons_succ, List.getElem?_cons_zero, Option.getD_some]) | (refine t_assign rfl _ rfl rfl ?_; simp only [List.getElem_toArray, List.getElem_cons_succ, List.getElem_cons_zero, Act.put, Act.eval, List.setIfInBounds_toArray, List.set_cons_zero, List.set_cons_succ, Array.getD_eq_getD_getElem?, List.getElem?_toArray, List.getElem?_cons_succ, List.getElem?_cons_zero, Option.getD_some]) | (refine t_val rfl rfl ?_; apply Exists.intro; refine ⟨fun w' hC' => ?_, ?_⟩; (subst hC'; go_simp; (first | done | exact rfl)); simp only [List.getElem_toArray, List.getElem_cons_succ, List.getElem_cons_zero, Act.put, Act.eval, List.setIfInBounds_toArray, List.set_cons_zero, List.set_cons_succ, Array.getD_eq_getD_getElem?, List.getElem?_toArray, List.getElem?_cons_succ, List.getElem?_cons_zero, Option.getD_some]) | (refine p_off rfl rfl ?_; simp only [List.getElem_toArray, List.getElem_cons_succ, List.getElem_cons_zero, Act.put, Act.eval, List.setIfInBounds_toArray, List.set_cons_zero, List.set_cons_succ, Array.getD_eq_getD_getElem?, List.getElem?_toArray, List.getElem?_cons_succ, List.getElem?_cons_zero, Option.getD_some]) | (refine p_val rfl rfl ?_; apply Exists.intro; refine ⟨fun w' => ?_, ?_⟩; (go_simp; (first | done | exact rfl)); simp only [List.getElem_toArray, List.getElem_cons_succ, List.getElem_cons_zero, Act.put, Act.eval, List.setIfInBounds_toArray, List.set_cons_zero, List.set_cons_succ, Array.getD_eq_getD_getElem?, List.getElem?_toArray, List.getElem?_cons_succ, List.getElem?_cons_zero, Option.getD_some]))
    refine t_done ?_
    clear c1' c2'
    go_wp2
    go_ret2
    exact ⟨rfl, HB2.out⟩
end Go.Proofs.Ytjedlcfeobhjnaa
