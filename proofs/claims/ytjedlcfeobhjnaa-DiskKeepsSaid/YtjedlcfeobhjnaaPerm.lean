/- A region that leaves its order of evaluation open, walked along one order: what yields one value in every world of a class is taken first, what has an effect comes up alone. The class may be narrowed behind each effect. No conditions on the program. -/
import Derived.Test.YtjedlcfeobhjnaaQuiet
import Derived.OrdersHeld
import Derived.RegionTactic
set_option linter.unusedSimpArgs false
set_option linter.unusedVariables false
namespace Go.Proofs.Ytjedlcfeobhjnaa
open Go.RowKit

/-- An order with its branches; 'brk': an effect behind which the class is chosen anew. -/
inductive Tr where
  | done
  | take (i : Nat) (t : Tr)
  | pure (i : Nat) (t : Tr)
  | run (i : Nat) (t : Tr)
  | two (i : Nat) (t : Tr) (j : Nat) (u : Tr)
  | brk (i : Nat) (t : Tr)

def Tr.len : Tr → Nat
  | .done => 0
  | .take _ t => t.len + 1
  | .pure _ t => t.len + 1
  | .run _ t => t.len + 1
  | .two _ t _ _ => t.len + 1
  | .brk _ t => t.len + 1
/-- The next break, if there is one. -/
def Tr.next : Tr → Option Nat
  | .done => none
  | .take _ t => t.next
  | .pure _ t => t.next
  | .run _ t => t.next
  | .two _ t _ _ => t.next
  | .brk i _ => some i

def wpT (P : Program) (ops : Array Oper) (Q : Exit → Act → World → Prop) : Tr → (World → Prop) → Act → World → Prop
  | .done, _, a, w => Q .normal a w
  | .take i t, S, a, w => ∃ o v, ops[i]? = some o ∧ YieldsIf P ops S o v a ∧ wpT P ops Q t S (a.put o.dst v) w
  | .pure i t, S, a, w => ∃ o v, ops[i]? = some o ∧ Yields P ops o v a ∧ wpT P ops Q t S (a.put o.dst v) w
  | .run i t, S, a, w => wpOp P ops Q i (fun a' w' => ∃ S' : World → Prop, (∀ u, S' u → S u) ∧ S' w' ∧ wpT P ops Q t S' a' w') a w
  | .two i t j u, S, a, w => wpOp P ops Q i (fun a' w' => ∃ S' : World → Prop, (∀ u, S' u → S u) ∧ S' w' ∧ wpT P ops Q t S' a' w') a w ∧ wpOp P ops Q j (fun a' w' => ∃ S' : World → Prop, (∀ u, S' u → S u) ∧ S' w' ∧ wpT P ops Q u S' a' w') a w
  | .brk i t, S, a, w => wpOp P ops Q i (fun a' w' => ∃ S' : World → Prop, S' w' ∧ wpT P ops Q t S' a' w') a w

/-- Operation j waits for operation i by an edge of its own. -/
def edgeB (md : Region.Mode) (ops : Array Oper) (j i : Nat) : Bool :=
  match ops[j]? with
  | some o => o.after.any fun e => Region.binds md e && e.on == i
  | none => true
/-- Operation f waits for operation i, by at most k + 1 edges. -/
def reachB (md : Region.Mode) (ops : Array Oper) : Nat → Nat → Nat → Bool
  | 0, f, i => edgeB md ops f i
  | k + 1, f, i => edgeB md ops f i || (List.range ops.size).any fun m => edgeB md ops f m && reachB md ops k m i
def waitsB (md : Region.Mode) (ops : Array Oper) (f : Option Nat) (i : Nat) : Bool :=
  match f with
  | none => true
  | some f => f != i && reachB md ops 5 f i
/-- What has come up has come up behind what it waits for. -/
def Shutd (md : Region.Mode) (ops : Array Oper) (l : Array Bool) : Prop :=
  ∀ m o, ops[m]? = some o → l.getD m false = true → ∀ e ∈ o.after, Region.binds md e = true → l.getD e.on false = true

def trB (md : Region.Mode) (ops : Array Oper) : Tr → Array Bool → Bool
  | .done, l => (Region.ready md ops l).isEmpty
  | .take i t, l => waitsB md ops t.next i && Region.free md ops l i && (Region.ready md ops l).contains i && trB md ops t (l.setIfInBounds i true)
  | .pure i t, l => t.next != some i && Region.free md ops l i && (Region.ready md ops l).contains i && trB md ops t (l.setIfInBounds i true)
  | .run i t, l => t.next != some i && Region.ready md ops l == [i] && trB md ops t (l.setIfInBounds i true)
  | .two i t j u, l => t.next != some i && t.next != some j && u.next == t.next && Region.ready md ops l == [i, j] && t.len == u.len && trB md ops t (l.setIfInBounds i true) && trB md ops u (l.setIfInBounds j true)
  | .brk i t, l => Region.ready md ops l == [i] && trB md ops t (l.setIfInBounds i true)

section
variable {P : Program} {ops : Array Oper} {Q : Exit → Act → World → Prop} {md : Region.Mode} {S : World → Prop}

/-- Any order from here on; S holds behind what is carried out, till operation f comes up. -/
def wpAnyX (P : Program) (md : Region.Mode) (ops : Array Oper) (Q : Exit → Act → World → Prop) (f : Option Nat) (S : World → Prop) : Nat → Array Bool → Act → World → Prop
  | 0, listed, a, w => Region.ready md ops listed = [] ∧ Q .normal a w
  | fuel + 1, listed, a, w =>
    (Region.ready md ops listed = [] → Q .normal a w) ∧
    ∀ i ∈ Region.ready md ops listed, wpOp P ops Q i (fun a' w' => (f = some i ∧ wpAny P md ops Q fuel (listed.setIfInBounds i true) a' w') ∨ (f ≠ some i ∧ S w' ∧ wpAnyX P md ops Q f S fuel (listed.setIfInBounds i true) a' w')) a w

theorem wpAny_of_X {f : Option Nat} : ∀ (fuel : Nat) (listed : Array Bool) (a : Act) (w : World), wpAnyX P md ops Q f S fuel listed a w → wpAny P md ops Q fuel listed a w
  | 0, _, _, _, h => h
  | fuel + 1, _, _, _, h => ⟨h.1, fun i hi => wpOp_mono (fun a' w' h' => by
      rcases h' with h' | h'
      · exact h'.2
      · exact wpAny_of_X fuel _ a' w' h'.2.2) (h.2 i hi)⟩

theorem wpAnyX_narrow {f : Option Nat} {S' : World → Prop} (hs : ∀ u, S' u → S u) : ∀ (fuel : Nat) (listed : Array Bool) (a : Act) (w : World), wpAnyX P md ops Q f S' fuel listed a w → wpAnyX P md ops Q f S fuel listed a w
  | 0, _, _, _, h => h
  | fuel + 1, _, _, _, h => ⟨h.1, fun i hi => wpOp_mono (fun a' w' h' => by
      rcases h' with h' | h'
      · exact .inl h'
      · exact .inr ⟨h'.1, hs _ h'.2.1, wpAnyX_narrow hs fuel _ a' w' h'.2.2⟩) (h.2 i hi)⟩

theorem getD_set_true {l : Array Bool} {j m : Nat} (h : l.getD m false = true) : (l.setIfInBounds j true).getD m false = true := by
  by_cases e : j = m
  · subst e
    have hs : j < l.size := by
      rcases Nat.lt_or_ge j l.size with h1 | h1
      · exact h1
      · simp [Array.getD, Nat.not_lt.2 h1] at h
    simp [Array.getD, hs]
  · rwa [getD_set_ne false e]
theorem Shutd.set {l : Array Bool} (h : Shutd md ops l) {j : Nat} (hj : j ∈ Region.ready md ops l) : Shutd md ops (l.setIfInBounds j true) := by
  intro m o ho hm e he hb
  obtain ⟨_, oj, hoj, hall⟩ := mem_ready.1 hj
  by_cases e1 : j = m
  · subst e1
    rw [hoj] at ho; cases ho
    exact getD_set_true (hall e he hb)
  · rw [getD_set_ne false e1] at hm
    exact getD_set_true (h m o ho hm e he hb)
theorem edge_listed {l : Array Bool} (h : Shutd md ops l) {j i : Nat} (hj : j < ops.size) (hl : l.getD j false = true) (he : edgeB md ops j i = true) : l.getD i false = true := by
  have ho : ops[j]? = some ops[j] := Array.getElem?_eq_getElem hj
  simp only [edgeB, ho] at he
  obtain ⟨ed, hed, h2⟩ := Array.any_eq_true'.1 he
  simp only [Bool.and_eq_true, beq_iff_eq] at h2
  rw [← h2.2]; exact h j _ ho hl ed hed h2.1
theorem edge_ready {l : Array Bool} {j i : Nat} (hj : j ∈ Region.ready md ops l) (he : edgeB md ops j i = true) : l.getD i false = true := by
  obtain ⟨_, oj, hoj, hall⟩ := mem_ready.1 hj
  simp only [edgeB, hoj] at he
  obtain ⟨ed, hed, h2⟩ := Array.any_eq_true'.1 he
  simp only [Bool.and_eq_true, beq_iff_eq] at h2
  rw [← h2.2]; exact hall ed hed h2.1

theorem reach_listed {l : Array Bool} (h : Shutd md ops l) : ∀ (k : Nat) {j i : Nat}, j < ops.size → l.getD j false = true → reachB md ops k j i = true → l.getD i false = true
  | 0, j, i, hj, hl, he => edge_listed h hj hl he
  | k + 1, j, i, hj, hl, he => by
    simp only [reachB, Bool.or_eq_true, List.any_eq_true, List.mem_range, Bool.and_eq_true] at he
    rcases he with he | ⟨m, hm, h1, h2⟩
    · exact edge_listed h hj hl he
    · exact reach_listed h k hm (edge_listed h hj hl h1) h2
theorem reach_ready {l : Array Bool} (h : Shutd md ops l) (k : Nat) {j i : Nat} (hj : j ∈ Region.ready md ops l) (he : reachB md ops k j i = true) : l.getD i false = true := by
  cases k with
  | zero => exact edge_ready hj he
  | succ k =>
    simp only [reachB, Bool.or_eq_true, List.any_eq_true, List.mem_range, Bool.and_eq_true] at he
    rcases he with he | ⟨m, hm, h1, h2⟩
    · exact edge_ready hj he
    · exact reach_listed h k hm (edge_ready hj h1) h2
theorem wpAnyX_take {f : Option Nat} {i : Nat} {oi : Oper} {v : Value} (hi : ops[i]? = some oi) (hs : Region.noSelect ops = true) (hw : waitsB md ops f i = true)
    (hQ : ∀ c a w, Q (.panic c) (a.put oi.dst v) w → Q (.panic c) a w) :
    ∀ (fuel : Nat) (listed : Array Bool) (a : Act) (w : World), Shutd md ops listed →
      (∀ j oj, ops[j]? = some oj → j ≠ i → listed.getD j true = false → (∀ e ∈ oj.after, Region.binds md e = true → e.on ≠ i) → oi.apart ops oj = true) →
      i ∈ Region.ready md ops listed → YieldsIf P ops S oi v a → S w →
      wpAnyX P md ops Q f S fuel (listed.setIfInBounds i true) (a.put oi.dst v) w → wpAnyX P md ops Q f S (fuel + 1) listed a w := by
  have hne : f ≠ some i := by
    rintro rfl
    simp [waitsB] at hw
  intro fuel
  induction fuel with
  | zero =>
    intro listed a w _ _ hr hy hS H
    refine ⟨fun h => absurd hr (by rw [h]; exact List.not_mem_nil), fun j hj => ?_⟩
    by_cases e : j = i
    · subst e; exact hy.wpOp hi hS (.inr ⟨hne, hS, H⟩)
    · have h0 := ready_mono hj e
      rw [H.1] at h0; cases h0
  | succ fuel ih =>
    intro listed a w hsh hap hr hy hS H
    refine ⟨fun h => absurd hr (by rw [h]; exact List.not_mem_nil), fun j hj => ?_⟩
    by_cases e : j = i
    · subst e; exact hy.wpOp hi hS (.inr ⟨hne, hS, H⟩)
    obtain ⟨hlj, oj, hoj, hall⟩ := mem_ready.1 hj
    have hli := (mem_ready.1 hr).1
    have hno1 : listed.getD i false ≠ true := by
      intro h1
      by_cases hb2 : i < listed.size
      · rw [getD_bool hb2 false true, hli] at h1; cases h1
      · simp [Array.getD, hb2] at h1
    have hno : ∀ ed ∈ oj.after, Region.binds md ed = true → ed.on ≠ i := by
      intro ed hed hb hon
      have h1 := hall ed hed hb
      rw [hon] at h1
      exact hno1 h1
    have hjf : f ≠ some j := by
      rintro rfl
      simp only [waitsB, Bool.and_eq_true] at hw
      exact hno1 (reach_ready hsh 5 hj hw.2)
    have h1 := H.2 j (ready_mono hj e)
    have h2 := wpOp_putIf hoj (hap j oj hoj e hlj hno) (fun cs b => Region.noSelect_spec hs i oi cs b hi) (fun cs b => Region.noSelect_spec hs j oj cs b hoj) hQ hy h1
    refine wpOp_mono (fun a' w' h3 => ?_) h2
    obtain ⟨hy', h4⟩ := h3
    rcases h4 with h4 | ⟨_, hS', h4⟩
    · exact absurd h4.1 hjf
    refine .inr ⟨hjf, hS', ih (listed.setIfInBounds j true) a' w' (hsh.set hj) ?_ (ready_mono hr (Ne.symm e)) hy' hS' ?_⟩
    · intro k ok hok hki hlk
      refine hap k ok hok hki ?_
      by_cases hkj : j = k
      · subst hkj; exact hlj
      · rwa [getD_set_ne true hkj] at hlk
    · rw [Array.setIfInBounds_comm _ _ e]; exact h4

theorem yields_of_true {o : Oper} {v : Value} {a : Act} (h : YieldsIf P ops (fun _ => True) o v a) : Yields P ops o v a :=
  h.imp (fun ⟨hw, hv⟩ => ⟨hw, fun w => hv w trivial⟩) id
theorem wpAnyX_pure {f : Option Nat} {i : Nat} {oi : Oper} {v : Value} (hi : ops[i]? = some oi) (hs : Region.noSelect ops = true) (hne : f ≠ some i)
    (hQ : ∀ c a w, Q (.panic c) (a.put oi.dst v) w → Q (.panic c) a w) :
    ∀ (fuel : Nat) (listed : Array Bool) (a : Act) (w : World),
      (∀ j oj, ops[j]? = some oj → j ≠ i → listed.getD j true = false → (∀ e ∈ oj.after, Region.binds md e = true → e.on ≠ i) → oi.apart ops oj = true) →
      i ∈ Region.ready md ops listed → YieldsIf P ops (fun _ => True) oi v a → S w →
      wpAnyX P md ops Q f S fuel (listed.setIfInBounds i true) (a.put oi.dst v) w → wpAnyX P md ops Q f S (fuel + 1) listed a w := by
  intro fuel
  induction fuel with
  | zero =>
    intro listed a w _ hr hy hS H
    refine ⟨fun h => absurd hr (by rw [h]; exact List.not_mem_nil), fun j hj => ?_⟩
    by_cases e : j = i
    · subst e; exact hy.wpOp hi trivial (.inr ⟨hne, hS, H⟩)
    · have h0 := ready_mono hj e
      rw [H.1] at h0; cases h0
  | succ fuel ih =>
    intro listed a w hap hr hy hS H
    refine ⟨fun h => absurd hr (by rw [h]; exact List.not_mem_nil), fun j hj => ?_⟩
    by_cases e : j = i
    · subst e; exact hy.wpOp hi trivial (.inr ⟨hne, hS, H⟩)
    obtain ⟨hlj, oj, hoj, hall⟩ := mem_ready.1 hj
    have hli := (mem_ready.1 hr).1
    have hno : ∀ ed ∈ oj.after, Region.binds md ed = true → ed.on ≠ i := by
      intro ed hed hb hon
      have h1 := hall ed hed hb
      rw [hon] at h1
      by_cases hb2 : i < listed.size
      · rw [getD_bool hb2 false true, hli] at h1; cases h1
      · simp [Array.getD, hb2] at h1
    have h1 := H.2 j (ready_mono hj e)
    have h2 := wpOp_putIf hoj (hap j oj hoj e hlj hno) (fun cs b => Region.noSelect_spec hs i oi cs b hi) (fun cs b => Region.noSelect_spec hs j oj cs b hoj) hQ hy h1
    have hap' : ∀ k ok, ops[k]? = some ok → k ≠ i → (listed.setIfInBounds j true).getD k true = false → (∀ e ∈ ok.after, Region.binds md e = true → e.on ≠ i) → oi.apart ops ok = true := by
      intro k ok hok hki hlk
      refine hap k ok hok hki ?_
      by_cases hkj : j = k
      · subst hkj; exact hlj
      · rwa [getD_set_ne true hkj] at hlk
    refine wpOp_mono (fun a' w' h3 => ?_) h2
    obtain ⟨hy', h4⟩ := h3
    rcases h4 with ⟨hf, h4⟩ | ⟨hf, hS', h4⟩
    · refine .inl ⟨hf, wpAny_first hi (Region.noSelect_spec hs) hQ fuel _ a' w' hap' (ready_mono hr (Ne.symm e)) (yields_of_true hy') ?_⟩
      rw [Array.setIfInBounds_comm _ _ e]; exact h4
    · refine .inr ⟨hf, hS', ih (listed.setIfInBounds j true) a' w' hap' (ready_mono hr (Ne.symm e)) hy' hS' ?_⟩
      rw [Array.setIfInBounds_comm _ _ e]; exact h4

theorem wpAnyX_of_tr (hs : Region.noSelect ops = true) (hQ : ∀ c a d v w, Q (.panic c) (Act.put a d v) w → Q (.panic c) a w) :
    ∀ (t : Tr) (S : World → Prop) (listed : Array Bool) (a : Act) (w : World), trB md ops t listed = true → Shutd md ops listed → S w → wpT P ops Q t S a w → wpAnyX P md ops Q t.next S t.len listed a w
  | .done, S, l, a, w, hb, hsh, hS, h => by
    simp only [trB, List.isEmpty_iff] at hb
    exact ⟨hb, h⟩
  | .take i t, S, l, a, w, hb, hsh, hS, h => by
    simp only [trB, Bool.and_eq_true] at hb
    obtain ⟨o, v, ho, hy, hn⟩ := h
    exact wpAnyX_take ho hs hb.1.1.1 (fun c a w h => hQ c a _ _ w h) _ _ _ _ hsh (Region.free_spec ho hb.1.1.2) (by simpa using hb.1.2) hy hS (wpAnyX_of_tr hs hQ t S _ _ w hb.2 (hsh.set (by simpa using hb.1.2)) hS hn)
  | .pure i t, S, l, a, w, hb, hsh, hS, h => by
    simp only [trB, Bool.and_eq_true, bne_iff_ne] at hb
    obtain ⟨o, v, ho, hy, hn⟩ := h
    exact wpAnyX_pure ho hs hb.1.1.1 (fun c a w h => hQ c a _ _ w h) _ _ _ _ (Region.free_spec ho hb.1.1.2) (by simpa using hb.1.2) hy.yieldsIf hS (wpAnyX_of_tr hs hQ t S _ _ w hb.2 (hsh.set (by simpa using hb.1.2)) hS hn)
  | .run i t, S, l, a, w, hb, hsh, hS, h => by
    simp only [trB, Bool.and_eq_true, beq_iff_eq, bne_iff_ne] at hb
    refine ⟨fun h0 => absurd (hb.1.2.symm.trans h0) (by simp), fun j hj => ?_⟩
    have hj0 := hj
    rw [hb.1.2] at hj
    obtain rfl : j = i := by simpa using hj
    exact wpOp_mono (fun a' w' ⟨S', h1, h2, h3⟩ => .inr ⟨hb.1.1, h1 _ h2, wpAnyX_narrow h1 _ _ _ _ (wpAnyX_of_tr hs hQ t S' _ _ _ hb.2 (hsh.set hj0) h2 h3)⟩) h
  | .two i t j u, S, l, a, w, hb, hsh, hS, h => by
    simp only [trB, Bool.and_eq_true, beq_iff_eq, bne_iff_ne] at hb
    obtain ⟨⟨⟨⟨⟨⟨hi, hj⟩, hu⟩, hb1⟩, hl⟩, hb2⟩, hb3⟩ := hb
    refine ⟨fun h0 => absurd (hb1.symm.trans h0) (by simp), fun k hk => ?_⟩
    have hk0 := hk
    rw [hb1] at hk
    have hk : k = i ∨ k = j := by simpa using hk
    rcases hk with rfl | rfl
    · exact wpOp_mono (fun a' w' ⟨S', h1, h2, h3⟩ => .inr ⟨hi, h1 _ h2, wpAnyX_narrow h1 _ _ _ _ (wpAnyX_of_tr hs hQ t S' _ _ _ hb2 (hsh.set hk0) h2 h3)⟩) h.1
    · refine wpOp_mono (fun a' w' ⟨S', h1, h2, h3⟩ => .inr ⟨hj, h1 _ h2, wpAnyX_narrow h1 _ _ _ _ ?_⟩) h.2
      have h4 := wpAnyX_of_tr hs hQ u S' _ _ _ hb3 (hsh.set hk0) h2 h3
      rw [hu, ← hl] at h4; exact h4
  | .brk i t, S, l, a, w, hb, hsh, hS, h => by
    simp only [trB, Bool.and_eq_true, beq_iff_eq] at hb
    refine ⟨fun h0 => absurd (hb.1.symm.trans h0) (by simp), fun j hj => ?_⟩
    have hj0 := hj
    rw [hb.1] at hj
    obtain rfl : j = i := by simpa using hj
    exact wpOp_mono (fun a' w' ⟨S', h2, h3⟩ => .inl ⟨rfl, wpAny_of_X _ _ _ _ (wpAnyX_of_tr hs hQ t S' _ _ _ hb.2 (hsh.set hj0) h2 h3)⟩) h

/-- Q, but 'False' at a panic. -/
def NP (Q : Exit → Act → World → Prop) : Exit → Act → World → Prop
  | .panic _, _, _ => False
  | e, a, w => Q e a w
theorem NP.imp : ∀ (e : Exit) (a : Act) (w : World), NP Q e a w → Q e a w := fun e a w h => by
  cases e <;> first | exact h | exact (h : False).elim
/-- The rule: the region is shown not to panic. -/
theorem wp_region_tr {id : Nat} {a : Act} {w : World} (t : Tr) (S : World → Prop) (hm : P.follows .mixedOrders = true) (hs : Region.noSelect ops = true)
    (hl : ops.size = t.len) (hb : trB .any ops t (Array.replicate ops.size false) = true) (hS : S w.drew) (h : wpT P ops (NP Q) t S a w.drew) : (Code.region id ops true).wp P Q a w := by
  refine Code.wp_mono NP.imp ?_
  refine wp_region_any hm ?_
  have h1 := wpAny_of_X _ _ _ _ (wpAnyX_of_tr (md := .any) hs (fun c a d v w h => h) t S _ _ _ hb (fun m o _ hm => (by simp [Array.getD] at hm)) hS h)
  rw [← hl] at h1
  exact h1
theorem t_done {S : World → Prop} {a : Act} {w : World} (h : Q .normal a w) : wpT P ops (NP Q) .done S a w := h

section
variable {i : Nat} {o : Oper} {t : Tr} {a : Act} {w : World}
theorem t_val (ho : ops[i]? = some o) (hw : Region.wanted o (yielded ops a.tmps) = true) (h : ∃ v, (∀ w, S w → (execOp a.eval o).run P w = .ok (.value v) w) ∧ wpT P ops Q t S (a.put o.dst v) w) : wpT P ops Q (.take i t) S a w :=
  let ⟨v, h1, h2⟩ := h
  ⟨o, v, ho, .inl ⟨hw, h1⟩, h2⟩
theorem p_val (ho : ops[i]? = some o) (hw : Region.wanted o (yielded ops a.tmps) = true) (h : ∃ v, (∀ w, (execOp a.eval o).run P w = .ok (.value v) w) ∧ wpT P ops Q t S (a.put o.dst v) w) : wpT P ops Q (.pure i t) S a w :=
  let ⟨v, h1, h2⟩ := h
  ⟨o, v, ho, .inl ⟨hw, h1⟩, h2⟩
theorem p_off (ho : ops[i]? = some o) (hw : Region.wanted o (yielded ops a.tmps) = false) (h : wpT P ops Q t S (a.put o.dst undef) w) : wpT P ops Q (.pure i t) S a w :=
  ⟨o, undef, ho, .inr ⟨hw, rfl⟩, h⟩
theorem t_off (ho : ops[i]? = some o) (hw : Region.wanted o (yielded ops a.tmps) = false) (h : wpT P ops Q t S (a.put o.dst undef) w) : wpT P ops Q (.take i t) S a w :=
  ⟨o, undef, ho, .inr ⟨hw, rfl⟩, h⟩
theorem t_move (ho : ops[i]? = some o) (x : Operand) (hx : o.op = .move x) (hw : Region.wanted o (yielded ops a.tmps) = true) (h : wpT P ops Q t S (a.put o.dst (a.eval x)) w) : wpT P ops Q (.take i t) S a w :=
  ⟨o, _, ho, .inl ⟨hw, fun w _ => by rw [execOp, hx]; rfl⟩, h⟩
theorem t_assign (ho : ops[i]? = some o) (x : Operand) (hx : o.op = .assign x) (hw : Region.wanted o (yielded ops a.tmps) = true) (h : wpT P ops Q t S (a.put o.dst (a.eval x)) w) : wpT P ops Q (.take i t) S a w :=
  ⟨o, _, ho, .inl ⟨hw, fun w _ => by rw [execOp, hx]; rfl⟩, h⟩
/-- An operation with an effect that the guard leaves out. -/
theorem r_off (ho : ops[i]? = some o) (hw : Region.wanted o (yielded ops a.tmps) = false) (hS : S w) (h : wpT P ops Q t S (a.put o.dst undef) w) : wpT P ops Q (.run i t) S a w := by
  show wpOp P ops Q i _ a w
  unfold wpOp
  rw [ho]
  simp only [hw, Bool.false_eq_true, if_false]
  exact ⟨S, fun _ h => h, hS, h⟩
/-- A call. -/
theorem r_call (ho : ops[i]? = some o) (hw : Region.wanted o (yielded ops a.tmps) = true)
    (h : ∃ f args, (execOp a.eval o).run P w = .ok (.enter f args) w ∧ Calls P f args w fun e w' => ∃ v, e = .returned v ∧ ∃ S' : World → Prop, (∀ u, S' u → S u) ∧ S' w' ∧ wpT P ops Q t S' (a.put o.dst v) w') : wpT P ops Q (.run i t) S a w := by
  obtain ⟨f, args, h1, h2⟩ := h
  show wpOp P ops Q i _ a w
  unfold wpOp
  rw [ho]
  simp only [hw, if_true]
  refine .inl ?_
  unfold Oper.wp
  rw [h1]
  simp only [Oper.upon]
  refine h2.mono ?_
  rintro _ w' ⟨v, rfl, hv⟩
  exact hv
/-- An operation that yields a value and leaves another world. -/
theorem r_val (ho : ops[i]? = some o) (hw : Region.wanted o (yielded ops a.tmps) = true)
    (h : ∃ v w', (execOp a.eval o).run P w = .ok (.value v) w' ∧ ∃ S' : World → Prop, (∀ u, S' u → S u) ∧ S' w' ∧ wpT P ops Q t S' (a.put o.dst v) w') : wpT P ops Q (.run i t) S a w := by
  obtain ⟨v, w', h1, h2⟩ := h
  show wpOp P ops Q i _ a w
  unfold wpOp
  rw [ho]
  simp only [hw, if_true]
  refine .inl ?_
  unfold Oper.wp
  rw [h1]
  exact h2
/-- An operation that yields nothing and leaves another world. -/
theorem r_skip (ho : ops[i]? = some o) (hw : Region.wanted o (yielded ops a.tmps) = true)
    (h : ∃ w', (execOp a.eval o).run P w = .ok .skip w' ∧ ∃ S' : World → Prop, (∀ u, S' u → S u) ∧ S' w' ∧ wpT P ops Q t S' (a.put o.dst undef) w') : wpT P ops Q (.run i t) S a w := by
  obtain ⟨w', h1, h2⟩ := h
  show wpOp P ops Q i _ a w
  unfold wpOp
  rw [ho]
  simp only [hw, if_true]
  refine .inl ?_
  unfold Oper.wp
  rw [h1]
  exact h2
/-- Any operation, what follows behind a variable. -/
theorem r_any (ho : ops[i]? = some o) (hw : Region.wanted o (yielded ops a.tmps) = true)
    (h : ∀ K : Act → World → Prop, (∀ (a' : Act) (w' : World) (S' : World → Prop), (∀ u, S' u → S u) → S' w' → wpT P ops Q t S' a' w' → K a' w') → Oper.wp P o a w K Q) : wpT P ops Q (.run i t) S a w := by
  show wpOp P ops Q i _ a w
  unfold wpOp
  rw [ho]
  simp only [hw, if_true]
  exact .inl (h _ fun a' w' S' h1 h2 h3 => ⟨S', h1, h2, h3⟩)
theorem b_off (ho : ops[i]? = some o) (hw : Region.wanted o (yielded ops a.tmps) = false) (hS : S w) (h : wpT P ops Q t S (a.put o.dst undef) w) : wpT P ops Q (.brk i t) S a w := by
  show wpOp P ops Q i _ a w
  unfold wpOp
  rw [ho]
  simp only [hw, Bool.false_eq_true, if_false]
  exact ⟨S, hS, h⟩
theorem b_call (ho : ops[i]? = some o) (hw : Region.wanted o (yielded ops a.tmps) = true)
    (h : ∃ f args, (execOp a.eval o).run P w = .ok (.enter f args) w ∧ Calls P f args w fun e w' => ∃ v, e = .returned v ∧ ∃ S' : World → Prop, S' w' ∧ wpT P ops Q t S' (a.put o.dst v) w') : wpT P ops Q (.brk i t) S a w := by
  obtain ⟨f, args, h1, h2⟩ := h
  show wpOp P ops Q i _ a w
  unfold wpOp
  rw [ho]
  simp only [hw, if_true]
  refine .inl ?_
  unfold Oper.wp
  rw [h1]
  simp only [Oper.upon]
  refine h2.mono ?_
  rintro _ w' ⟨v, rfl, hv⟩
  exact hv
theorem b_val (ho : ops[i]? = some o) (hw : Region.wanted o (yielded ops a.tmps) = true)
    (h : ∃ v w', (execOp a.eval o).run P w = .ok (.value v) w' ∧ ∃ S' : World → Prop, S' w' ∧ wpT P ops Q t S' (a.put o.dst v) w') : wpT P ops Q (.brk i t) S a w := by
  obtain ⟨v, w', h1, h2⟩ := h
  show wpOp P ops Q i _ a w
  unfold wpOp
  rw [ho]
  simp only [hw, if_true]
  refine .inl ?_
  unfold Oper.wp
  rw [h1]
  exact h2
theorem b_skip (ho : ops[i]? = some o) (hw : Region.wanted o (yielded ops a.tmps) = true)
    (h : ∃ w', (execOp a.eval o).run P w = .ok .skip w' ∧ ∃ S' : World → Prop, S' w' ∧ wpT P ops Q t S' (a.put o.dst undef) w') : wpT P ops Q (.brk i t) S a w := by
  obtain ⟨w', h1, h2⟩ := h
  show wpOp P ops Q i _ a w
  unfold wpOp
  rw [ho]
  simp only [hw, if_true]
  refine .inl ?_
  unfold Oper.wp
  rw [h1]
  exact h2
theorem b_any (ho : ops[i]? = some o) (hw : Region.wanted o (yielded ops a.tmps) = true)
    (h : ∀ K : Act → World → Prop, (∀ (a' : Act) (w' : World) (S' : World → Prop), S' w' → wpT P ops Q t S' a' w' → K a' w') → Oper.wp P o a w K Q) : wpT P ops Q (.brk i t) S a w := by
  show wpOp P ops Q i _ a w
  unfold wpOp
  rw [ho]
  simp only [hw, if_true]
  exact .inl (h _ fun a' w' S' h2 h3 => ⟨S', h2, h3⟩)
end
end
end Go.Proofs.Ytjedlcfeobhjnaa
