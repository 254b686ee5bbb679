/- A region that leaves its order of evaluation open, walked along one order: what yields one value in every world of a class is taken first, what has an effect comes up alone. The class may be narrowed behind each effect. No conditions on the program. -/
import Derived.Test.YtlonmghkdobhdaaQuiet
import Derived.OrdersHeld
import Derived.RegionTactic
set_option linter.unusedSimpArgs false
set_option linter.unusedVariables false
namespace Go.Proofs.Ytlonmghkdobhdaa
open Go.RowKit

/-- An order with its branches. -/
inductive Tr where
  | done
  | take (i : Nat) (t : Tr)
  | run (i : Nat) (t : Tr)
  | two (i : Nat) (t : Tr) (j : Nat) (u : Tr)

def Tr.len : Tr → Nat
  | .done => 0
  | .take _ t => t.len + 1
  | .run _ t => t.len + 1
  | .two _ t _ _ => t.len + 1

def wpT (P : Program) (ops : Array Oper) (Q : Exit → Act → World → Prop) : Tr → (World → Prop) → Act → World → Prop
  | .done, _, a, w => Q .normal a w
  | .take i t, S, a, w => ∃ o v, ops[i]? = some o ∧ YieldsIf P ops S o v a ∧ wpT P ops Q t S (a.put o.dst v) w
  | .run i t, S, a, w => wpOp P ops Q i (fun a' w' => ∃ S' : World → Prop, (∀ u, S' u → S u) ∧ S' w' ∧ wpT P ops Q t S' a' w') a w
  | .two i t j u, S, a, w => wpOp P ops Q i (fun a' w' => ∃ S' : World → Prop, (∀ u, S' u → S u) ∧ S' w' ∧ wpT P ops Q t S' a' w') a w ∧ wpOp P ops Q j (fun a' w' => ∃ S' : World → Prop, (∀ u, S' u → S u) ∧ S' w' ∧ wpT P ops Q u S' a' w') a w

def trB (md : Region.Mode) (ops : Array Oper) : Tr → Array Bool → Bool
  | .done, l => (Region.ready md ops l).isEmpty
  | .take i t, l => Region.free md ops l i && (Region.ready md ops l).contains i && trB md ops t (l.setIfInBounds i true)
  | .run i t, l => Region.ready md ops l == [i] && trB md ops t (l.setIfInBounds i true)
  | .two i t j u, l => Region.ready md ops l == [i, j] && t.len == u.len && trB md ops t (l.setIfInBounds i true) && trB md ops u (l.setIfInBounds j true)

section
variable {P : Program} {ops : Array Oper} {Q : Exit → Act → World → Prop} {md : Region.Mode} {S : World → Prop}

theorem wpAnyH_narrow {S' : World → Prop} (hs : ∀ u, S' u → S u) : ∀ (fuel : Nat) (listed : Array Bool) (a : Act) (w : World), wpAnyH P md ops Q S' fuel listed a w → wpAnyH P md ops Q S fuel listed a w
  | 0, _, _, _, h => h
  | fuel + 1, _, _, _, h => ⟨h.1, fun i hi => wpOp_mono (fun a' w' h' => ⟨hs _ h'.1, wpAnyH_narrow hs fuel _ a' w' h'.2⟩) (h.2 i hi)⟩

theorem wpAnyH_of_tr (hs : Region.noSelect ops = true) (hQ : ∀ c a d v w, Q (.panic c) (Act.put a d v) w → Q (.panic c) a w) :
    ∀ (t : Tr) (S : World → Prop) (listed : Array Bool) (a : Act) (w : World), trB md ops t listed = true → S w → wpT P ops Q t S a w → wpAnyH P md ops Q S t.len listed a w
  | .done, S, l, a, w, hb, hS, h => by
    simp only [trB, List.isEmpty_iff] at hb
    exact wpAnyH_done hb h _
  | .take i t, S, l, a, w, hb, hS, h => by
    simp only [trB, Bool.and_eq_true] at hb
    obtain ⟨o, v, ho, hy, hn⟩ := h
    exact wpAnyH_take ho hs hb.1.1 hb.1.2 (fun c a w h => hQ c a _ _ w h) hy hS (wpAnyH_of_tr hs hQ t S _ _ w hb.2 hS hn)
  | .run i t, S, l, a, w, hb, hS, h => by
    simp only [trB, Bool.and_eq_true, beq_iff_eq] at hb
    refine wpAnyH_all hb.1 (by simp) fun j hj => ?_
    obtain rfl : j = i := by simpa using hj
    exact wpOp_mono (fun a' w' ⟨S', h1, h2, h3⟩ => ⟨h1 _ h2, wpAnyH_narrow h1 _ _ _ _ (wpAnyH_of_tr hs hQ t S' _ _ _ hb.2 h2 h3)⟩) h
  | .two i t j u, S, l, a, w, hb, hS, h => by
    simp only [trB, Bool.and_eq_true, beq_iff_eq] at hb
    obtain ⟨⟨⟨hb1, hl⟩, hb2⟩, hb3⟩ := hb
    refine wpAnyH_all hb1 (by simp) fun k hk => ?_
    have hk : k = i ∨ k = j := by simpa using hk
    rcases hk with rfl | rfl
    · exact wpOp_mono (fun a' w' ⟨S', h1, h2, h3⟩ => ⟨h1 _ h2, wpAnyH_narrow h1 _ _ _ _ (wpAnyH_of_tr hs hQ t S' _ _ _ hb2 h2 h3)⟩) h.1
    · exact wpOp_mono (fun a' w' ⟨S', h1, h2, h3⟩ => ⟨h1 _ h2, wpAnyH_narrow h1 _ _ _ _ (by have h4 := wpAnyH_of_tr hs hQ u S' _ _ _ hb3 h2 h3; rw [← hl] at h4; exact h4)⟩) h.2

/-- Q, but 'False' at a panic. -/
def NP (Q : Exit → Act → World → Prop) : Exit → Act → World → Prop
  | .panic _, _, _ => False
  | e, a, w => Q e a w
theorem NP.imp : ∀ (e : Exit) (a : Act) (w : World), NP Q e a w → Q e a w := fun e a w h => by
  cases e <;> first | exact h | exact (h : False).elim
/-- The rule: the region is shown not to panic. -/
theorem wp_region_tr {id : Nat} {a : Act} {w : World} (t : Tr) (S : World → Prop) (hm : P.follows .mixedOrders = true) (hs : Region.noSelect ops = true)
    (hl : ops.size = t.len) (hb : trB .any ops t (Array.replicate ops.size false) = true) (hS : S w.drew) (h : wpT P ops (NP Q) t S a w.drew) : (Code.region id ops true).wp P Q a w := by
  refine Code.wp_mono NP.imp ?_
  refine wp_region_held hm (S := S) ?_
  have h1 := wpAnyH_of_tr (md := .any) hs (fun c a d v w h => h) t S _ _ _ hb hS h
  rw [← hl] at h1
  exact h1
theorem t_done {S : World → Prop} {a : Act} {w : World} (h : Q .normal a w) : wpT P ops (NP Q) .done S a w := h

section
variable {i : Nat} {o : Oper} {t : Tr} {a : Act} {w : World}
theorem t_val (ho : ops[i]? = some o) (hw : Region.wanted o (yielded ops a.tmps) = true) (h : ∃ v, (∀ w, S w → (execOp a.eval o).run P w = .ok (.value v) w) ∧ wpT P ops Q t S (a.put o.dst v) w) : wpT P ops Q (.take i t) S a w :=
  let ⟨v, h1, h2⟩ := h
  ⟨o, v, ho, .inl ⟨hw, h1⟩, h2⟩
theorem t_off (ho : ops[i]? = some o) (hw : Region.wanted o (yielded ops a.tmps) = false) (h : wpT P ops Q t S (a.put o.dst undef) w) : wpT P ops Q (.take i t) S a w :=
  ⟨o, undef, ho, .inr ⟨hw, rfl⟩, h⟩
theorem t_move (ho : ops[i]? = some o) (x : Operand) (hx : o.op = .move x) (hw : Region.wanted o (yielded ops a.tmps) = true) (h : wpT P ops Q t S (a.put o.dst (a.eval x)) w) : wpT P ops Q (.take i t) S a w :=
  ⟨o, _, ho, .inl ⟨hw, fun w _ => by rw [execOp, hx]; rfl⟩, h⟩
theorem t_assign (ho : ops[i]? = some o) (x : Operand) (hx : o.op = .assign x) (hw : Region.wanted o (yielded ops a.tmps) = true) (h : wpT P ops Q t S (a.put o.dst (a.eval x)) w) : wpT P ops Q (.take i t) S a w :=
  ⟨o, _, ho, .inl ⟨hw, fun w _ => by rw [execOp, hx]; rfl⟩, h⟩
/-- An operation with an effect that the guard leaves out. -/
theorem r_off (ho : ops[i]? = some o) (hw : Region.wanted o (yielded ops a.tmps) = false) (hS : S w) (h : wpT P ops Q t S (a.put o.dst undef) w) : wpT P ops Q (.run i t) S a w := by
  show wpOp P ops Q i _ a w
  unfold wpOp
  rw [ho]
  simp only [hw, Bool.false_eq_true, if_false]
  exact ⟨S, fun _ h => h, hS, h⟩
/-- A call. -/
theorem r_call (ho : ops[i]? = some o) (hw : Region.wanted o (yielded ops a.tmps) = true)
    (h : ∃ f args, (execOp a.eval o).run P w = .ok (.enter f args) w ∧ Calls P f args w fun e w' => ∃ v, e = .returned v ∧ ∃ S' : World → Prop, (∀ u, S' u → S u) ∧ S' w' ∧ wpT P ops Q t S' (a.put o.dst v) w') : wpT P ops Q (.run i t) S a w := by
  obtain ⟨f, args, h1, h2⟩ := h
  show wpOp P ops Q i _ a w
  unfold wpOp
  rw [ho]
  simp only [hw, if_true]
  refine .inl ?_
  unfold Oper.wp
  rw [h1]
  simp only [Oper.upon]
  refine h2.mono ?_
  rintro _ w' ⟨v, rfl, hv⟩
  exact hv
/-- An operation that yields a value and leaves another world. -/
theorem r_val (ho : ops[i]? = some o) (hw : Region.wanted o (yielded ops a.tmps) = true)
    (h : ∃ v w', (execOp a.eval o).run P w = .ok (.value v) w' ∧ ∃ S' : World → Prop, (∀ u, S' u → S u) ∧ S' w' ∧ wpT P ops Q t S' (a.put o.dst v) w') : wpT P ops Q (.run i t) S a w := by
  obtain ⟨v, w', h1, h2⟩ := h
  show wpOp P ops Q i _ a w
  unfold wpOp
  rw [ho]
  simp only [hw, if_true]
  refine .inl ?_
  unfold Oper.wp
  rw [h1]
  exact h2
/-- An operation that yields nothing and leaves another world. -/
theorem r_skip (ho : ops[i]? = some o) (hw : Region.wanted o (yielded ops a.tmps) = true)
    (h : ∃ w', (execOp a.eval o).run P w = .ok .skip w' ∧ ∃ S' : World → Prop, (∀ u, S' u → S u) ∧ S' w' ∧ wpT P ops Q t S' (a.put o.dst undef) w') : wpT P ops Q (.run i t) S a w := by
  obtain ⟨w', h1, h2⟩ := h
  show wpOp P ops Q i _ a w
  unfold wpOp
  rw [ho]
  simp only [hw, if_true]
  refine .inl ?_
  unfold Oper.wp
  rw [h1]
  exact h2
/-- Any operation, what follows behind a variable. -/
theorem r_any (ho : ops[i]? = some o) (hw : Region.wanted o (yielded ops a.tmps) = true)
    (h : ∀ K : Act → World → Prop, (∀ (a' : Act) (w' : World) (S' : World → Prop), (∀ u, S' u → S u) → S' w' → wpT P ops Q t S' a' w' → K a' w') → Oper.wp P o a w K Q) : wpT P ops Q (.run i t) S a w := by
  show wpOp P ops Q i _ a w
  unfold wpOp
  rw [ho]
  simp only [hw, if_true]
  exact .inl (h _ fun a' w' S' h1 h2 h3 => ⟨S', h1, h2, h3⟩)
end
end
end Go.Proofs.Ytlonmghkdobhdaa
