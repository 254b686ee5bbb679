/- A region that leaves its order of evaluation open, whose operations but for the last one yield one value in every world of a class and leave a world of the class: one walk in the order of the text serves every order. No conditions on the program. -/
import Derived.Test.YtjedlcfeobhjnaaCells
import Derived.Deep.Quiet
import Derived.KernelRfl
set_option linter.unusedSimpArgs false
set_option linter.unusedVariables false
namespace Go.Proofs.Ytjedlcfeobhjnaa
open Go.RowKit

section
variable {P : Program} {ops : Array Oper} {C : World → Prop} {Q : Act → Prop} {a : Act} {o : Oper} {rest : List Oper}
theorem q_val (hw : Region.wanted o (yielded ops a.tmps) = true) (v : Value) (h : ∀ w, C w → (execOp a.eval o).run P w = .ok (.value v) w)
    (hn : wpQuiet P ops C Q rest (a.put o.dst v)) : wpQuiet P ops C Q (o :: rest) a := by
  unfold wpQuiet; rw [if_pos hw]
  exact ⟨v, fun w hC => by unfold Oper.quietAt; rw [h w hC]; exact ⟨rfl, rfl⟩, hn⟩
theorem q_ex (hw : Region.wanted o (yielded ops a.tmps) = true) (h : ∃ v, (∀ w, C w → (execOp a.eval o).run P w = .ok (.value v) w) ∧ wpQuiet P ops C Q rest (a.put o.dst v)) : wpQuiet P ops C Q (o :: rest) a :=
  let ⟨v, h1, h2⟩ := h
  q_val hw v h1 h2
theorem q_cx (hw : Region.wanted o (yielded ops a.tmps) = true) (h : ∃ f args v, (∀ w, C w → (execOp a.eval o).run P w = .ok (.enter f args) w) ∧ (∀ w, C w → Calls P f args w fun e w' => e = .returned v ∧ C w') ∧ wpQuiet P ops C Q rest (a.put o.dst v)) : wpQuiet P ops C Q (o :: rest) a := by
  obtain ⟨f, args, v, h1, h2, h3⟩ := h
  unfold wpQuiet; rw [if_pos hw]
  exact ⟨v, fun w hC => by unfold Oper.quietAt; rw [h1 w hC]; exact ⟨rfl, h2 w hC⟩, h3⟩
theorem q_move (x : Operand) (ho : o.op = .move x) (hw : Region.wanted o (yielded ops a.tmps) = true)
    (hn : wpQuiet P ops C Q rest (a.put o.dst (a.eval x))) : wpQuiet P ops C Q (o :: rest) a :=
  q_val hw _ (fun w _ => by rw [execOp, ho]; rfl) hn
theorem q_assign (x : Operand) (ho : o.op = .assign x) (hw : Region.wanted o (yielded ops a.tmps) = true)
    (hn : wpQuiet P ops C Q rest (a.put o.dst (a.eval x))) : wpQuiet P ops C Q (o :: rest) a :=
  q_val hw _ (fun w _ => by rw [execOp, ho]; rfl) hn
theorem q_off (hw : Region.wanted o (yielded ops a.tmps) = false) (hn : wpQuiet P ops C Q rest (a.put o.dst undef)) : wpQuiet P ops C Q (o :: rest) a := by
  unfold wpQuiet; rw [if_neg (by rw [hw]; exact Bool.false_ne_true)]; exact hn
end

/-- The operations of 'init' are looked at in the order of the text; 'last' waits for each of them. -/
def lastB (init : List Oper) (last : Oper) : Bool :=
  (List.range init.length).all (fun i => last.after.any fun e => Region.binds .any e && e.on == i) &&
  (List.range init.length).all (fun i => ((init[i]?).map fun o => o.after.all (fun e => decide (e.on < i)) && (match o.guard with | some (g, _) => decide (g < init.length) | none => true)).getD true) &&
  last.after.all (fun e => decide (e.on < init.length))

section
variable {P : Program} {init : List Oper} {last : Oper} {Q : Exit → Act → World → Prop}

theorem get_init (i : Nat) (h : i < init.length) : ((init ++ [last]).toArray)[i]? = (init.toArray)[i]? := by
  simp [List.getElem?_append_left h]
theorem get_last : ((init ++ [last]).toArray)[init.length]? = some last := by simp

/-- what comes behind the first ones -/
def Then (P : Program) (init : List Oper) (last : Oper) (Q : Exit → Act → World → Prop) : Exit → Act → World → Prop
  | .normal, a, w => wpOp P (init ++ [last]).toArray Q init.length (Q .normal) a w
  | e, a, w => Q e a w

theorem wanted_init {o : Oper} (hg : (match o.guard with | some (g, _) => decide (g < init.length) | none => true) = true) (tmps : Array Value) :
    Region.wanted o (yielded (init ++ [last]).toArray tmps) = Region.wanted o (yielded init.toArray tmps) := by
  unfold Region.wanted
  cases h : o.guard with
  | none => rfl
  | some gw =>
    obtain ⟨g, b⟩ := gw
    simp only [h, decide_eq_true_eq] at hg
    have e : yielded (init ++ [last]).toArray tmps g = yielded init.toArray tmps g := by
      unfold yielded; rw [get_init g hg]
    simp only [e]
theorem wpOp_init {i : Nat} (hi : i < init.length) (hg : ∀ o, init[i]? = some o → (match o.guard with | some (g, _) => decide (g < init.length) | none => true) = true) {K : Act → World → Prop} {a : Act} {w : World}
    (h : wpOp P init.toArray (Then P init last Q) i K a w) : wpOp P (init ++ [last]).toArray Q i K a w := by
  unfold wpOp at h ⊢
  rw [get_init i hi]
  have ho : (init.toArray)[i]? = some init[i] := by simp [hi]
  simp only [ho] at h ⊢
  have hgi := hg init[i] (by simp [hi])
  rw [wanted_init hgi]
  split
  · rename_i hw
    rw [if_pos hw] at h
    rcases h with h | ⟨h1, h2⟩
    · left
      unfold Oper.wp at *
      generalize (execOp a.eval init[i]).run P w = r at *
      cases r with
      | ok n w' => cases n <;> first | exact h | (simp only [Oper.upon] at h ⊢; exact Calls.mono h (fun e w'' he => by cases e <;> exact he))
      | halt x w' => cases x <;> exact h
    · exact .inr ⟨h1, h2⟩
  · rename_i hw
    rw [if_neg hw] at h
    exact h

theorem getD_pop {listed : Array Bool} {m : Nat} (hs : listed.size = m + 1) (i : Nat) (hi : i < m) (d : Bool) : listed.pop.getD i d = listed.getD i d := by
  have h1 : i < listed.size := by omega
  have h2 : i < listed.size - 1 := by omega
  simp [Array.getD, h1, h2]
theorem set_pop (listed : Array Bool) (i : Nat) : (listed.setIfInBounds i true).pop = listed.pop.setIfInBounds i true := by
  apply Array.ext
  · simp
  · intro j h1 h2
    simp only [Array.getElem_pop]
    simp only [Array.size_pop, Array.size_setIfInBounds] at h1 h2
    by_cases e : i = j
    · subst e; simp
    · rw [Array.getElem_setIfInBounds_ne (by omega) e, Array.getElem_setIfInBounds_ne (by simp; omega) e, Array.getElem_pop]
theorem set_last (listed : Array Bool) (m : Nat) (hs : listed.size = m + 1) : (listed.setIfInBounds m true).pop = listed.pop := by
  apply Array.ext
  · simp
  · intro j h1 h2
    simp only [Array.size_pop, Array.size_setIfInBounds] at h1 h2
    simp only [Array.getElem_pop]
    rw [Array.getElem_setIfInBounds_ne _ (by omega)]

theorem ready_sub {listed : Array Bool} (hs : listed.size = init.length + 1) (i : Nat) (hi : i < init.length)
    (hon : ∀ o : Oper, init[i]? = some o → o.after.all (fun e => decide (e.on < i)) = true) : i ∈ Region.ready .any (init ++ [last]).toArray listed ↔ i ∈ Region.ready .any init.toArray listed.pop := by
  rw [mem_ready, mem_ready, get_init i hi, getD_pop hs i hi]
  constructor
  · rintro ⟨h0, o, ho, hall⟩
    refine ⟨h0, o, ho, fun e he hb => ?_⟩
    have h3 := (Array.all_eq_true_iff_forall_mem.1 (hon o (by simpa using ho))) e he
    simp only [decide_eq_true_eq] at h3
    rw [getD_pop hs _ (by omega)]; exact hall e he hb
  · rintro ⟨h0, o, ho, hall⟩
    refine ⟨h0, o, ho, fun e he hb => ?_⟩
    have h3 := (Array.all_eq_true_iff_forall_mem.1 (hon o (by simpa using ho))) e he
    simp only [decide_eq_true_eq] at h3
    have := hall e he hb
    rw [getD_pop hs _ (by omega)] at this; exact this

theorem getD_bool {L : Array Bool} {i : Nat} (hi : i < L.size) (d d' : Bool) : L.getD i d = L.getD i d' := by simp [Array.getD, hi]

theorem all_listed {L : Array Bool} (hs : L.size = init.length) (h : Region.ready .any init.toArray L = [])
    (hon : ∀ (i : Nat) (o : Oper), init[i]? = some o → o.after.all (fun e => decide (e.on < i)) = true) : ∀ i, i < init.length → L.getD i false = true := by
  intro i
  induction i using Nat.strongRecOn with
  | ind i ih =>
    intro hi
    cases hq : L.getD i false with
    | true => rfl
    | false =>
      have : i ∈ Region.ready .any init.toArray L := by
        rw [mem_ready]
        refine ⟨by rw [getD_bool (by omega) true false]; exact hq, init[i], by simp [hi], fun e he _ => ?_⟩
        have h3 := (Array.all_eq_true_iff_forall_mem.1 (hon i init[i] (by simp [hi]))) e he
        simp only [decide_eq_true_eq] at h3
        exact ih e.on h3 (by omega)
      rw [h] at this; cases this

theorem wpAny_last (hB : lastB init last = true) : ∀ (fuel : Nat) (listed : Array Bool) (a : Act) (w : World), listed.size = init.length + 1 → listed.getD init.length true = false →
    wpAny P .any init.toArray (Then P init last Q) fuel listed.pop a w → wpAny P .any (init ++ [last]).toArray Q (fuel + 1) listed a w := by
  simp only [lastB, Bool.and_eq_true, List.all_eq_true, List.mem_range] at hB
  obtain ⟨⟨hall, htop⟩, hlast⟩ := hB
  have hon : ∀ (i : Nat) (o : Oper), init[i]? = some o → o.after.all (fun e => decide (e.on < i)) = true := fun i o ho => by
    have hi : i < init.length := (List.getElem?_eq_some_iff.1 ho).1
    have := htop i hi; rw [ho] at this; simp only [Option.map_some, Option.getD_some, Bool.and_eq_true] at this; exact this.1
  have hgd : ∀ (i : Nat) (o : Oper), init[i]? = some o → (match o.guard with | some (g, _) => decide (g < init.length) | none => true) = true := fun i o ho => by
    have hi : i < init.length := (List.getElem?_eq_some_iff.1 ho).1
    have := htop i hi; rw [ho] at this; simp only [Option.map_some, Option.getD_some, Bool.and_eq_true] at this; exact this.2
  -- what may come up has a number up to that of the last one
  have hle : ∀ (listed : Array Bool) i, i ∈ Region.ready .any (init ++ [last]).toArray listed → i ≤ init.length := fun listed i hi => by
    obtain ⟨_, o, ho, _⟩ := mem_ready.1 hi
    have := (Array.getElem?_eq_some_iff.1 ho).1
    simp at this; omega
  -- all the first ones have come up: the last one may
  have hdone : ∀ (listed : Array Bool), listed.size = init.length + 1 → listed.getD init.length true = false → Region.ready .any init.toArray listed.pop = [] → init.length ∈ Region.ready .any (init ++ [last]).toArray listed := fun listed hs hl hr => by
    rw [mem_ready]
    refine ⟨hl, last, get_last, fun e he _ => ?_⟩
    have h3 := (Array.all_eq_true_iff_forall_mem.1 hlast) e he
    simp only [decide_eq_true_eq] at h3
    have := all_listed (by simp [hs]) hr hon e.on h3
    rwa [getD_pop hs _ h3] at this
  have hnone : ∀ (listed : Array Bool), listed.size = init.length + 1 → Region.ready .any init.toArray listed.pop = [] → Region.ready .any (init ++ [last]).toArray (listed.setIfInBounds init.length true) = [] := fun listed hs hr => by
    rw [List.eq_nil_iff_forall_not_mem]
    intro i hi
    have h1 := hle _ i hi
    rcases Nat.lt_or_eq_of_le h1 with h | h
    · rw [ready_sub (by simp [hs]) i h (hon i), set_last _ _ hs, hr] at hi; cases hi
    · subst h
      have := (mem_ready.1 hi).1
      simp [hs] at this
  have hfin : ∀ (fuel : Nat) (listed : Array Bool) (a : Act) (w : World), listed.size = init.length + 1 → listed.getD init.length true = false → Region.ready .any init.toArray listed.pop = [] →
      Then P init last Q .normal a w → wpAny P .any (init ++ [last]).toArray Q (fuel + 1) listed a w := fun fuel listed a w hs hl hr hT => by
    refine ⟨fun h => ?_, fun i hi => ?_⟩
    · have := hdone listed hs hl hr; rw [h] at this; cases this
    · rcases Nat.lt_or_eq_of_le (hle _ i hi) with h | h
      · rw [ready_sub hs i h (hon i), hr] at hi; cases hi
      · subst h
        refine wpOp_mono (fun a w hq => ?_) hT
        have hn := hnone listed hs hr
        cases fuel with
        | zero => exact ⟨hn, hq⟩
        | succ fuel => exact ⟨fun _ => hq, fun j hj => by rw [hn] at hj; cases hj⟩
  intro fuel
  induction fuel with
  | zero => intro listed a w hs hl h; exact hfin 0 listed a w hs hl h.1 h.2
  | succ fuel ih =>
    intro listed a w hs hl h
    by_cases hr : Region.ready .any init.toArray listed.pop = []
    · exact hfin _ listed a w hs hl hr (h.1 hr)
    · refine ⟨fun h0 => ?_, fun i hi => ?_⟩
      · exfalso; apply hr
        rw [List.eq_nil_iff_forall_not_mem]
        intro i hi
        have hlt : i < init.length := by
          obtain ⟨_, o, ho, _⟩ := mem_ready.1 hi
          simpa using (Array.getElem?_eq_some_iff.1 ho).1
        rw [← ready_sub hs i hlt (hon i), h0] at hi; cases hi
      · rcases Nat.lt_or_eq_of_le (hle _ i hi) with hlt | h1
        · rw [ready_sub hs i hlt (hon i)] at hi
          refine wpOp_init hlt (hgd i) (wpOp_mono (fun a w hq => ?_) (h.2 i hi))
          refine ih _ a w (by simp [hs]) ?_ (by rw [set_pop]; exact hq)
          rw [getD_set_ne true (by omega)]; exact hl
        · exfalso; subst h1; apply hr
          obtain ⟨_, o, ho, hal⟩ := mem_ready.1 hi
          rw [get_last] at ho
          obtain rfl := Option.some.inj ho
          rw [List.eq_nil_iff_forall_not_mem]
          intro i hi2
          obtain ⟨h0, o, ho, _⟩ := mem_ready.1 hi2
          have hlt : i < init.length := by simpa using (Array.getElem?_eq_some_iff.1 ho).1
          have := hall i hlt
          simp only [Array.any_eq_true, Bool.and_eq_true, beq_iff_eq] at this
          obtain ⟨j, hj, hb, he⟩ := this
          have := hal last.after[j] (by simp) hb
          rw [he] at this
          rw [getD_pop hs i hlt, getD_bool (by omega) true false, this] at h0
          cases h0

/-- The rule. -/
theorem wp_region_quiet_last {C : World → Prop} {id : Nat} {a : Act} {w : World} (init : List Oper) (last : Oper) {l : List Oper} (hl : l = init ++ [last]) (hm : P.follows .mixedOrders = true) (hB : Region.lexB .any init.toArray = true) (hL : lastB init last = true) (hC : C w.drew)
    (h : wpQuiet P init.toArray C (fun a' => ∀ w', C w' → wpList P (init ++ [last]).toArray Q [last] a' w') init a) : (Code.region id l.toArray true).wp P Q a w := by
  subst hl
  simp only [Region.lexB, Bool.and_eq_true] at hB
  refine wp_region_any hm ?_
  have hT : wpAny P .any init.toArray (Then P init last Q) init.length (Array.replicate init.length false) a w.drew := by
    refine wpAny_of_quiet (Q := fun a' => ∀ w', C w' → wpList P (init ++ [last]).toArray Q [last] a' w') (fun a' w' hw' h => ?_) _ _ _ _ hC ?_
    · have h1 := h w' hw'
      show wpOp P _ Q init.length (Q .normal) a' w'
      unfold wpOp
      rw [get_last]
      exact h1
    · exact wpAnyQ_lex (C := C) (md := .any) hB.1 init 0 (Array.replicate init.length false) a (by simp) (by simpa using hB.2) h
  have := wpAny_last (P := P) (Q := Q) hL init.length (Array.replicate (init.length + 1) false) a w.drew (by simp) (by simp) (by
    have e : (Array.replicate (init.length + 1) false).pop = Array.replicate init.length false := by
      apply Array.ext <;> simp
    rw [e]; exact hT)
  simpa using this

theorem wp_region_quiet_end {C : World → Prop} {id : Nat} {a : Act} {w : World} {l : List Oper} (hne : l ≠ []) (hm : P.follows .mixedOrders = true) (hB : Region.lexB .any l.dropLast.toArray = true) (hL : lastB l.dropLast (l.getLast hne) = true) (hC : C w.drew)
    (h : wpQuiet P l.dropLast.toArray C (fun a' => ∀ w', C w' → wpList P l.toArray Q [l.getLast hne] a' w') l.dropLast a) : (Code.region id l.toArray true).wp P Q a w := by
  refine wp_region_quiet_last l.dropLast (l.getLast hne) (List.dropLast_concat_getLast hne).symm hm hB hL hC ?_
  rw [List.dropLast_concat_getLast hne]
  exact h
end
end Go.Proofs.Ytjedlcfeobhjnaa
