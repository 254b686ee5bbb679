/- Maps with keys of type int, read as functions: what a look-up, a store, a deletion and a clearing do. No conditions on the program. -/
import Derived.Test.YtjedlcfeobhjnaaSlices
import Derived.Maps.OwnSet
set_option linter.unusedSimpArgs false
set_option linter.unusedVariables false
namespace Go.Proofs.Ytjedlcfeobhjnaa
open Go.RowKit Go.ChangeMaps
open Go.Maps (Keyed int_keyed keyOf_int_mk)

theorem keyedI : Keyed Try.prog 3 := int_keyed Try.underlying3
def I64 (a : Int) : Prop := -9223372036854775808 ≤ a ∧ a ≤ 9223372036854775807
theorem keyI {a : Int} (h : I64 a) : keyOf Try.prog 3 (.int .i64 a) = some (.int .i64 a) := keyOf_int_mk Try.underlying3 (by unfold I64 at h; simp [Lit.wf, IntKind.min, IntKind.max, IntKind.signed, IntKind.bits]; omega)

/-- Block b is a map that reads as M. -/
def IM (w : World) (b : Nat) (M : Int → Option Value) : Prop :=
  ∃ es clock, w.heap[b]? = some (.map es clock) ∧ (∀ e ∈ es.toList, ∃ a, e.key = .int .i64 a ∧ I64 a) ∧
    (∀ (i j : Nat) (e f : MapEntry), es.toList[i]? = some e → es.toList[j]? = some f → e.key = f.key → i = j) ∧
    ∀ k v, M k = some v ↔ ∃ e ∈ es.toList, e.key = .int .i64 k ∧ e.val = v

theorem IM.lt {w : World} {b : Nat} {M : Int → Option Value} (h : IM w b M) : b < w.heap.size := by
  obtain ⟨es, clock, hb, _⟩ := h
  exact (Array.getElem?_eq_some_iff.1 hb).1
theorem IM.kept {w w' : World} {b : Nat} {M : Int → Option Value} (h : IM w b M) (hb : w'.heap[b]? = w.heap[b]?) : IM w' b M := by
  obtain ⟨es, clock, h1, h2⟩ := h
  exact ⟨es, clock, hb.trans h1, h2⟩
theorem IM.drew {w : World} {b : Nat} {M : Int → Option Value} (h : IM w b M) : IM w.drew b M := h
theorem IM.ext {w : World} {b : Nat} {M N : Int → Option Value} (h : IM w b M) (e : ∀ k, N k = M k) : IM w b N := by
  have : N = M := funext e
  rw [this]; exact h
theorem IM.made (w : World) : IM (w.alloc (.map #[] 0)) w.heap.size (fun _ => none) := by
  refine ⟨#[], 0, by show (w.heap.push _)[w.heap.size]? = _; simp, by simp, by simp, by simp⟩

section
variable {w : World} {b : Nat} {M : Int → Option Value}
theorem IM.find (h : IM w b M) {k : Int} (hk : I64 k) : ∃ es clock, w.heap[b]? = some (.map es clock) ∧ (∀ e ∈ es.toList, ∃ a, e.key = .int .i64 a ∧ I64 a) ∧
    (∀ (i j : Nat) (e f : MapEntry), es.toList[i]? = some e → es.toList[j]? = some f → e.key = f.key → i = j) ∧ (∀ k v, M k = some v ↔ ∃ e ∈ es.toList, e.key = .int .i64 k ∧ e.val = v) ∧
    (((Instr.findKey 3 (.int .i64 k) es.toList).run Try.prog w = .ok none w ∧ (∀ e ∈ es.toList, e.key ≠ .int .i64 k) ∧ M k = none) ∨
      ∃ j e, (Instr.findKey 3 (.int .i64 k) es.toList).run Try.prog w = .ok (some (j, e.val)) w ∧ es.toList[j]? = some e ∧ e.key = .int .i64 k ∧ M k = some e.val) := by
  obtain ⟨es, clock, hb, hks, hun, hM⟩ := h
  refine ⟨es, clock, hb, hks, hun, hM, ?_⟩
  rcases keyedI.find w (keyI hk) es.toList (fun e he => by obtain ⟨a, e1, h1⟩ := hks e he; exact ⟨_, by rw [e1]; exact keyI h1⟩) with ⟨h1, h2⟩ | ⟨j, e, h1, h2, h3⟩
  · refine .inl ⟨h1, h2, ?_⟩
    cases hq : M k with
    | none => rfl
    | some v => obtain ⟨e, he, hk', _⟩ := (hM k v).1 hq; exact absurd hk' (h2 e he)
  · exact .inr ⟨j, e, h1, h2, h3, (hM k _).2 ⟨e, List.mem_of_getElem? h2, h3, rfl⟩⟩

theorem IM.look (h : IM w b M) {k : Int} (hk : I64 k) {t e : TypeId} (ht : Try.prog.underlying t = some (.map 3 e)) {z : Value} (hz : (zeroValue e).run Try.prog w = .ok z w) (c : Bool) :
    (Instr.lookup t (.map (some b)) (.int .i64 k) c).run Try.prog w = .ok (if c then .tuple #[(M k).getD z, .bool (M k).isSome] else (M k).getD z) w := by
  obtain ⟨es, clock, hb, _, _, _, ⟨h1, _, h3⟩ | ⟨j, e0, h1, _, _, h3⟩⟩ := h.find hk
  · simp [Instr.lookup, run_underlying ht, MapKept.run_getObj_map hb, keyedI.check w _ (keyI hk), h1, hz, h3, Result.andThen]
  · simp [Instr.lookup, run_underlying ht, MapKept.run_getObj_map hb, keyedI.check w _ (keyI hk), h1, h3, Result.andThen]

/-- A function at one place anew. -/
def upd (M : Int → Option Value) (k : Int) (v : Option Value) : Int → Option Value := fun j => if j = k then v else M j
theorem heap_setB {es : Array MapEntry} {clock : Nat} (hb : w.heap[b]? = some (.map es clock)) (o : Obj) : (setBlock w b o).heap[b]? = some o := heap_setBlock_same hb o

theorem IM.store (h : IM w b M) {k : Int} (hk : I64 k) {t e : TypeId} (ht : Try.prog.underlying t = some (.map 3 e)) (v : Value) :
    ∃ o, (Instr.mapUpdate t (.map (some b)) (.int .i64 k) v).run Try.prog w = .ok () (setBlock w b o) ∧ IM (setBlock w b o) b (upd M k (some v)) := by
  obtain ⟨es, clock, hb, hks, hun, hM, ⟨h1, h2, h3⟩ | ⟨j, e0, h1, h2, h3, h4⟩⟩ := h.find hk
  · refine ⟨.map (es.push ⟨.int .i64 k, v, clock⟩) (clock + 1), ?_, es.push ⟨.int .i64 k, v, clock⟩, clock + 1, heap_setB hb _, ?_, ?_, ?_⟩
    · simp [Instr.mapUpdate, run_underlying ht, MapKept.run_getObj_map hb, keyedI.check w _ (keyI hk), h1, MapKept.run_setObj_map _ hb, Result.andThen, setBlock]
    · intro e he
      simp only [Array.toList_push, List.mem_append, List.mem_singleton] at he
      rcases he with he | rfl
      · exact hks e he
      · exact ⟨k, rfl, hk⟩
    · intro i j e f hi hj hef
      simp only [Array.toList_push, List.getElem?_append] at hi hj
      have key : ∀ (i : Nat) (e : MapEntry), (if i < es.toList.length then es.toList[i]? else [(⟨.int .i64 k, v, clock⟩ : MapEntry)][i - es.toList.length]?) = some e → (es.toList[i]? = some e ∧ e.key ≠ .int .i64 k) ∨ (i = es.toList.length ∧ e.key = .int .i64 k) := by
        intro i e hi
        split at hi
        · exact .inl ⟨hi, h2 e (List.mem_of_getElem? hi)⟩
        · rename_i hlt
          right
          have hlt2 := (List.getElem?_eq_some_iff.1 hi).1
          simp only [List.length_singleton] at hlt2
          have e0 : i - es.toList.length = 0 := by omega
          rw [e0] at hi
          simp only [List.getElem?_cons_zero, Option.some.injEq] at hi
          exact ⟨by omega, by rw [← hi]⟩
      rcases key i e hi with ⟨a, a'⟩ | ⟨a, a'⟩ <;> rcases key j f hj with ⟨c, c'⟩ | ⟨c, c'⟩
      · exact hun i j e f a c hef
      · exact absurd (hef.trans c') a'
      · exact absurd (hef.symm.trans a') c'
      · omega
    · intro x y
      simp only [Array.toList_push, List.mem_append, List.mem_singleton]
      unfold upd
      by_cases hx : x = k
      · subst hx
        rw [if_pos rfl]
        constructor
        · intro e; cases e; exact ⟨_, .inr rfl, rfl, rfl⟩
        · rintro ⟨e, he | rfl, hke, rfl⟩
          · exact absurd hke (h2 e he)
          · rfl
      · rw [if_neg hx, hM]
        constructor
        · rintro ⟨e, he, h1, h2⟩; exact ⟨e, .inl he, h1, h2⟩
        · rintro ⟨e, he | rfl, hke, rfl⟩
          · exact ⟨e, he, hke, rfl⟩
          · simp only [Value.int.injEq, true_and] at hke; exact absurd hke.symm hx
  · have hjl : j < es.toList.length := (List.getElem?_eq_some_iff.1 h2).1
    have hj : es[j]? = some e0 := by simpa using h2
    have hlist : (es.modify j (fun e' => { e' with key := .int .i64 k, val := v })).toList = es.toList.set j { e0 with key := .int .i64 k, val := v } := by rw [Array.toList_modify, modify_eq_set _ _ _ _ h2]
    have hget : ∀ (i : Nat) (e : MapEntry), (es.toList.set j { e0 with key := .int .i64 k, val := v })[i]? = some e → ∃ f, es.toList[i]? = some f ∧ e.key = f.key ∧ (i ≠ j → e = f) := by
      intro i e hi
      rw [List.getElem?_set] at hi
      split at hi
      · rename_i hij
        subst hij
        first | rw [if_pos hjl] at hi | skip
        cases hi
        exact ⟨e0, h2, h3.symm, fun h => absurd rfl h⟩
      · exact ⟨e, hi, rfl, fun _ => rfl⟩
    refine ⟨.map (es.modify j (fun e' => { e' with key := .int .i64 k, val := v })) clock, ?_, _, clock, heap_setB hb _, ?_, ?_, ?_⟩
    · simp [Instr.mapUpdate, run_underlying ht, MapKept.run_getObj_map hb, keyedI.check w _ (keyI hk), h1, hj, h3, keyedI.stays w (keyI hk), MapKept.run_setObj_map _ hb, Result.andThen, setBlock]
    · intro e he
      rw [hlist] at he
      obtain ⟨i, hi⟩ := List.mem_iff_getElem?.1 he
      obtain ⟨f, hf, h5, _⟩ := hget i e hi
      rw [h5]; exact hks f (List.mem_of_getElem? hf)
    · intro i i' e f hi hi' hef
      rw [hlist] at hi hi'
      obtain ⟨g, hg, h5, _⟩ := hget i e hi
      obtain ⟨g', hg', h6, _⟩ := hget i' f hi'
      exact hun i i' g g' hg hg' (by rw [← h5, ← h6, hef])
    · intro x y
      rw [hlist]
      unfold upd
      by_cases hx : x = k
      · subst hx
        rw [if_pos rfl]
        constructor
        · intro e; cases e
          exact ⟨_, List.mem_iff_getElem?.2 ⟨j, List.getElem?_set_self hjl⟩, rfl, rfl⟩
        · rintro ⟨e, he, hke, rfl⟩
          obtain ⟨i, hi⟩ := List.mem_iff_getElem?.1 he
          obtain ⟨f, hf, h5, h6⟩ := hget i e hi
          have hij : i = j := hun i j f e0 hf h2 (by rw [← h5, hke, h3])
          subst hij
          rw [List.getElem?_set_self hjl] at hi
          cases hi
          rfl
      · rw [if_neg hx, hM]
        constructor
        · rintro ⟨e, he, h1', h2'⟩
          obtain ⟨i, hi⟩ := List.mem_iff_getElem?.1 he
          have hij : j ≠ i := by
            rintro rfl
            rw [h2] at hi; cases hi
            rw [h3] at h1'; simp only [Value.int.injEq, true_and] at h1'; exact hx h1'.symm
          exact ⟨e, List.mem_iff_getElem?.2 ⟨i, by rw [List.getElem?_set_ne hij]; exact hi⟩, h1', h2'⟩
        · rintro ⟨e, he, hke, rfl⟩
          obtain ⟨i, hi⟩ := List.mem_iff_getElem?.1 he
          have hij : j ≠ i := by
            rintro rfl
            rw [List.getElem?_set_self hjl] at hi; cases hi
            simp only [Value.int.injEq, true_and] at hke; exact hx hke.symm
          rw [List.getElem?_set_ne hij] at hi
          exact ⟨e, List.mem_of_getElem? hi, hke, rfl⟩

theorem IM.drop (h : IM w b M) {k : Int} (hk : I64 k) {t e : TypeId} (ht : Try.prog.underlying t = some (.map 3 e)) (ty : TypeId) :
    ∃ o, (Builtin.delete_ #[t, 3] ty #[.map (some b), .int .i64 k]).run Try.prog w = .ok (.tuple #[]) (setBlock w b o) ∧ IM (setBlock w b o) b (upd M k none) := by
  obtain ⟨es, clock, hb, hks, hun, hM, ⟨h1, h2, h3⟩ | ⟨j, e0, h1, h2, h3, h4⟩⟩ := h.find hk
  · refine ⟨.map es clock, ?_, es, clock, heap_setB hb _, hks, hun, ?_⟩
    · simp [Builtin.delete_, run_underlying ht, MapKept.run_getObj_map hb, keyedI.check w _ (keyI hk), h1, MapKept.run_setObj_map _ hb, Result.andThen, setBlock]
    · intro x y
      unfold upd
      by_cases hx : x = k
      · subst hx
        rw [if_pos rfl, ← hM, h3]
      · rw [if_neg hx]; exact hM x y
  · have hjl : j < es.toList.length := (List.getElem?_eq_some_iff.1 h2).1
    have hjs : j < es.size := by simpa using hjl
    have hsub : (es.eraseIdxIfInBounds j).toList = es.toList.eraseIdx j := by
      unfold Array.eraseIdxIfInBounds
      rw [dif_pos hjs]
      simp
    have hget : ∀ i, (es.toList.eraseIdx j)[i]? = es.toList[if i < j then i else i + 1]? := by
      intro i
      rw [List.getElem?_eraseIdx]
      split <;> rfl
    refine ⟨.map (es.eraseIdxIfInBounds j) clock, ?_, _, clock, heap_setB hb _, ?_, ?_, ?_⟩
    · simp [Builtin.delete_, run_underlying ht, MapKept.run_getObj_map hb, keyedI.check w _ (keyI hk), h1, MapKept.run_setObj_map _ hb, Result.andThen, setBlock]
    · intro e he
      rw [hsub] at he
      exact hks e ((List.eraseIdx_sublist _ _).subset he)
    · intro i i' e f hi hi' hef
      rw [hsub, hget] at hi hi'
      have := hun _ _ e f hi hi' hef
      split at this <;> split at this <;> omega
    · intro x y
      rw [hsub]
      unfold upd
      by_cases hx : x = k
      · subst hx
        rw [if_pos rfl]
        constructor
        · intro e; cases e
        · rintro ⟨e, he, hke, _⟩
          obtain ⟨i, hne, hi⟩ := List.mem_eraseIdx_iff_getElem?.1 he
          exact absurd (hun i j e e0 hi h2 (by rw [hke, h3])) hne
      · rw [if_neg hx, hM]
        constructor
        · rintro ⟨e, he, h1', h2'⟩
          obtain ⟨i, hi⟩ := List.mem_iff_getElem?.1 he
          have hij : i ≠ j := by
            rintro rfl
            rw [h2] at hi; cases hi
            rw [h3] at h1'; simp only [Value.int.injEq, true_and] at h1'; exact hx h1'.symm
          exact ⟨e, List.mem_eraseIdx_iff_getElem?.2 ⟨i, hij, hi⟩, h1', h2'⟩
        · rintro ⟨e, he, hke, hv⟩
          exact ⟨e, (List.eraseIdx_sublist _ _).subset he, hke, hv⟩

theorem IM.clear (h : IM w b M) {t e : TypeId} (ht : Try.prog.underlying t = some (.map 3 e)) (ty : TypeId) :
    ∃ o, (Builtin.clear_ #[t] ty #[.map (some b)]).run Try.prog w = .ok (.tuple #[]) (setBlock w b o) ∧ IM (setBlock w b o) b (fun _ => none) := by
  obtain ⟨es, clock, hb, _⟩ := h
  refine ⟨.map #[] clock, ?_, #[], clock, heap_setB hb _, by simp, by simp, by simp⟩
  simp [Builtin.clear_, run_underlying ht, MapKept.run_getObj_map hb, MapKept.run_setObj_map _ hb, Result.andThen, setBlock]
end
end Go.Proofs.Ytjedlcfeobhjnaa
