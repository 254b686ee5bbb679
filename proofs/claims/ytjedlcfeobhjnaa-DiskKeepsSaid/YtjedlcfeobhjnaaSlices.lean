/- Slices whose elements take several cells: building, appending, reading by index. Lemmas on the memory of the model; no conditions on the program. -/
import Derived.Test.YtjedlcfeobhjnaaCells
import Derived.Laws.AppendOwn
import Derived.Laws.AppendOwnNone
set_option linter.unusedSimpArgs false
set_option linter.unusedVariables false
namespace Go.Proofs.Ytjedlcfeobhjnaa
open Go.RowKit

theorem foldl_put (off : Nat) : ∀ (l : List Value) (k : Nat) (cells : Array Value), off + k + l.length ≤ cells.size →
    (l.zipIdx k).foldl (fun (cs : Array Value) (x : Value × Nat) => cs.setIfInBounds (off + x.2) x.1) cells = putAt cells (off + k) l.toArray
  | [], k, cells, h => by
    apply Array.ext_getElem?
    intro i
    rw [putAt_get _ _ _ (by simpa using h)]
    simp; intro h1 h2; omega
  | v :: l, k, cells, h => by
    simp only [List.zipIdx_cons, List.foldl_cons]
    rw [foldl_put off l (k + 1) _ (by simp at h ⊢; omega)]
    apply Array.ext_getElem?
    intro i
    simp only [List.length_cons] at h
    rw [putAt_get _ _ _ (by simp; omega), putAt_get _ _ _ (by simp; omega)]
    simp only [List.size_toArray, List.length_cons, List.getElem?_toArray]
    by_cases h1 : i = off + k
    · subst h1
      rw [if_neg (by omega), if_pos (by omega)]
      have : off + k < cells.size := by omega
      simp [this]
    · by_cases h2 : off + k ≤ i ∧ i < off + k + (l.length + 1)
      · rw [if_pos (by omega), if_pos h2]
        rw [show i - (off + k) = (i - (off + (k + 1))) + 1 by omega, List.getElem?_cons_succ]
      · rw [if_neg (by omega), if_neg h2, Array.getElem?_setIfInBounds_ne (by omega)]
theorem fill_put (cells v : Array Value) (off : Nat) (h : off + v.size ≤ cells.size) :
    v.zipIdx.foldl (fun (cs : Array Value) (x : Value × Nat) => cs.setIfInBounds (off + x.2) x.1) cells = putAt cells off v := by
  rw [← Array.foldl_toList, Array.toList_zipIdx, foldl_put off v.toList 0 cells (by simpa using h)]
  simp
theorem putAt_full (c cs : Array Value) (h : cs.size = c.size) : putAt c 0 cs = cs := by
  apply Array.ext_getElem?
  intro i
  rw [putAt_get _ _ _ (by omega)]
  by_cases hi : i < cs.size
  · rw [if_pos (by omega)]; simp
  · rw [if_neg (by omega)]; simp [Array.getElem?_eq_none (show cs.size ≤ i by omega), Array.getElem?_eq_none (show c.size ≤ i by omega)]

section
variable {P : Program}
theorem run_buildSlice_one (w : World) (t e : TypeId) (i : TypeInfo) (z v : Value) (hu : P.underlying t = some (.slice e)) (hi : P.info? e = some i) (hz : i.zero = some z)
    (hs : i.size = v.cells.size) (hzs : z.cells.size = v.cells.size) (h0 : 0 < v.cells.size) (hm : v.cells.size ≤ 16777216) :
    (Instr.buildSlice t 1 #[(0, v)]).run P w = .ok (.slice (some ⟨w.heap.size, 0, none⟩) 1 1) (w.alloc (.cells v.cells e)) := by
  have hb : ((Array.range (1 * i.size)).map (z.cells[· % z.cells.size]!)).size = v.cells.size := by simp [hs]
  have hf : Instr.fill (fun j => some (j * i.size, i.size)) ((Array.range (1 * i.size)).map (z.cells[· % z.cells.size]!)) [(0, v)] = some v.cells := by
    simp only [Instr.fill, Nat.zero_mul, Nat.zero_add]
    rw [if_neg (by simp [hs])]
    congr 1
    have := fill_put ((Array.range (1 * i.size)).map (z.cells[· % z.cells.size]!)) v.cells 0 (by rw [hb]; omega)
    simp only [Nat.zero_add] at this
    rw [putAt_full _ _ (by rw [hb])] at this
    exact this
  have hn : ¬ (1 * i.size > 2 ^ 24) := by omega
  have hn0 : ¬ (1 * i.size = 0) := by omega
  simp only [Instr.buildSlice, Sem.run_bind, run_underlying hu, Result.andThen_ok, sizeOf, typeInfo, run_program, hi, Sem.run_pure]
  simp only [hn, hn0, if_false, Sem.run_bind, zeroValue, typeInfo, run_program, Result.andThen_ok, hi, Sem.run_pure, hz]
  rw [hf]
  simp [newRow, Sem.run_bind]
theorem run_buildSlice_zero (w : World) (t e : TypeId) (i : TypeInfo) (hu : P.underlying t = some (.slice e)) (hi : P.info? e = some i) :
    (Instr.buildSlice t 0 #[]).run P w = .ok (.slice (some ⟨w.heap.size, 0, none⟩) 0 0) (w.alloc (.cells #[] e)) := by
  simp [Instr.buildSlice, run_underlying hu, sizeOf, typeInfo, hi, Instr.fill, newRow, Array.range_zero']
end

/-- What an owned row shows of a slice that has elements. -/
theorem ownsRow_view {w : World} {base e size n : Nat} {v : Value} {xs : List Value} (h : w.ownsRow base e size v n xs) (h0 : 0 < n) :
    ∃ g cap, v = .slice (some ⟨g, 0, none⟩) n cap ∧ base ≤ g ∧ n ≤ cap ∧ cap ≤ maxLen ∧ readAt w g 0 (n * size) = some xs.toArray ∧ canAt w g 0 (n * size) = true := by
  obtain ⟨hl, hn | ⟨g, cap, cur, hv, hb, hg, hnc, hm, hs, ht⟩⟩ := h
  · omega
  · have hle : n * size ≤ cur.size := by rw [hs]; exact Nat.mul_le_mul_right _ hnc
    refine ⟨g, cap, hv, hb, hnc, hm, ?_, ?_⟩
    · simp only [readAt, hg]
      rw [if_pos (by omega)]
      congr 1
      apply Array.ext'
      rw [← ht]
      simp [List.extract_eq_take_drop]
    · simp [canAt, hg]; omega
theorem ownsRow_lt {w : World} {base e size n : Nat} {v : Value} {xs : List Value} (h : w.ownsRow base e size v n xs) : ∀ k, v.ownBlock = some k → k < w.heap.size := fun k hk => (h.lt k hk).2
/-- An owned row stays where blocks below a bound stay. -/
theorem ownsRow_below {w w' : World} {base e size n : Nat} {v : Value} {xs : List Value} (h : w.ownsRow base e size v n xs) (hb : Below w.heap.size w w') : w'.ownsRow base e size v n xs := by
  refine ⟨h.1, ?_⟩
  rcases h.2 with hn | ⟨g, cap, cur, hv, hbg, hg, rest⟩
  · exact .inl hn
  · exact .inr ⟨g, cap, cur, hv, hbg, by rw [hb.block g (Array.getElem?_eq_some_iff.1 hg).1]; exact hg, rest⟩
theorem ownsRow_base {w : World} {base base' e size n : Nat} {v : Value} {xs : List Value} (h : w.ownsRow base e size v n xs) (hb : base' ≤ base) : w.ownsRow base' e size v n xs := by
  refine ⟨h.1, ?_⟩
  rcases h.2 with hn | ⟨g, cap, cur, hv, hbg, hg, rest⟩
  · exact .inl hn
  · exact .inr ⟨g, cap, cur, hv, by omega, hg, rest⟩

/-- A slice that reads as the cells xs of n elements of sz cells. -/
def RdS (w : World) (v : Value) (n sz : Nat) (xs : List Value) : Prop :=
  ∃ ad cap, v = .slice ad n cap ∧ n ≤ cap ∧ cap ≤ maxLen ∧ xs.length = n * sz ∧ (ad = none → n = 0 ∧ cap = 0) ∧ (0 < n → ∃ b o, ad = some ⟨b, o, none⟩ ∧ readAt w b o (n * sz) = some xs.toArray)
theorem RdS.below {w w' : World} {v : Value} {n sz : Nat} {xs : List Value} (h : RdS w v n sz xs) (hb : Below w.heap.size w w') : RdS w' v n sz xs := by
  obtain ⟨ad, cap, h1, h2, h3, h4, h5, h6⟩ := h
  refine ⟨ad, cap, h1, h2, h3, h4, h5, fun h0 => ?_⟩
  obtain ⟨b, o, e, hr⟩ := h6 h0
  exact ⟨b, o, e, by rw [readAt_below hb (readAt_lt hr)]; exact hr⟩
theorem RdS_of_own {w : World} {base e size n : Nat} {v : Value} {xs : List Value} (h : w.ownsRow base e size v n xs) : RdS w v n size xs := by
  by_cases h0 : 0 < n
  · obtain ⟨g, cap, hv, hb, hc, hm, hr, _⟩ := ownsRow_view h h0
    exact ⟨_, cap, hv, hc, hm, h.1, fun h => (by cases h), fun _ => ⟨g, 0, rfl, hr⟩⟩
  · obtain rfl : n = 0 := by omega
    rcases h.2 with ⟨rfl, _⟩ | ⟨g, cap, cur, rfl, _, _, hc, hm, _, _⟩
    · exact ⟨none, 0, rfl, Nat.le_refl _, by simp [maxLen], h.1, fun _ => ⟨rfl, rfl⟩, fun h => absurd h (by omega)⟩
    · exact ⟨_, cap, rfl, hc, hm, h.1, fun h => (by cases h), fun h => absurd h (by omega)⟩
/-- Element i of it. -/
theorem RdS.at {w : World} {v : Value} {n sz : Nat} {xs : List Value} (h : RdS w v n sz xs) (i : Nat) (hi : i < n) :
    ∃ b o cap, v = .slice (some ⟨b, o, none⟩) n cap ∧ n ≤ cap ∧ cap ≤ maxLen ∧ readAt w b (o + i * sz) sz = some (xs.toArray.extract (i * sz) (i * sz + sz)) := by
  obtain ⟨ad, cap, h1, h2, h3, h4, h5, h6⟩ := h
  obtain ⟨b, o, rfl, hr⟩ := h6 (by omega)
  refine ⟨b, o, cap, h1, h2, h3, ?_⟩
  have hle : i * sz + sz ≤ n * sz := by
    have := Nat.mul_le_mul_right sz (show i + 1 ≤ n by omega)
    rw [Nat.add_mul, Nat.one_mul] at this; exact this
  rw [readAt_sub hr (o + i * sz) sz (by omega) (by omega)]
  congr 2 <;> omega

/-- A slice of the call's own, not nil, that may be written. -/
def Own (w : World) (base : Nat) (v : Value) (n sz : Nat) (xs : List Value) : Prop :=
  ∃ g cap, v = .slice (some ⟨g, 0, none⟩) n cap ∧ base ≤ g ∧ n ≤ cap ∧ cap ≤ maxLen ∧ xs.length = n * sz ∧ readAt w g 0 (n * sz) = some xs.toArray ∧ canAt w g 0 (n * sz) = true
theorem Own_of {w : World} {base e size n : Nat} {v : Value} {xs : List Value} (h : w.ownsRow base e size v n xs) (hn : v ≠ .slice none 0 0) : Own w base v n size xs := by
  obtain ⟨hl, ⟨hv, _⟩ | ⟨g, cap, cur, hv, hb, hg, hnc, hm, hs, ht⟩⟩ := h
  · exact absurd hv hn
  · have hle : n * size ≤ cur.size := by rw [hs]; exact Nat.mul_le_mul_right _ hnc
    refine ⟨g, cap, hv, hb, hnc, hm, hl, ?_, ?_⟩
    · simp only [readAt, hg]
      rw [if_pos (by omega)]
      congr 1
      apply Array.ext'
      rw [← ht]
      simp [List.extract_eq_take_drop]
    · simp [canAt, hg]; omega
theorem Own.rd {w : World} {base n sz : Nat} {v : Value} {xs : List Value} (h : Own w base v n sz xs) : RdS w v n sz xs := by
  obtain ⟨g, cap, hv, _, hc, hm, hl, hr, _⟩ := h
  exact ⟨_, cap, hv, hc, hm, hl, fun h => (by cases h), fun _ => ⟨g, 0, rfl, hr⟩⟩
theorem Own.below {w w' : World} {base n sz : Nat} {v : Value} {xs : List Value} (h : Own w base v n sz xs) (hb : Below w.heap.size w w') : Own w' base v n sz xs := by
  obtain ⟨g, cap, hv, h1, hc, hm, hl, hr, hk⟩ := h
  exact ⟨g, cap, hv, h1, hc, hm, hl, by rw [readAt_below hb (readAt_lt hr)]; exact hr, by rw [canAt_below hb (readAt_lt hr)]; exact hk⟩

/-! ### lists of elements -/
def flat {α : Type} (f : α → Array Value) (L : List α) : List Value := L.flatMap fun x => (f x).toList
theorem flat_snoc {α : Type} (f : α → Array Value) (L : List α) (x : α) : flat f (L ++ [x]) = flat f L ++ (f x).toList := by simp [flat]
theorem flat_length {α : Type} (f : α → Array Value) (sz : Nat) (h : ∀ x, (f x).size = sz) (L : List α) : (flat f L).length = L.length * sz := by
  induction L with
  | nil => simp [flat]
  | cons x L ih => simp only [flat, List.flatMap_cons, List.length_append, Array.length_toList, h, List.length_cons, Nat.add_mul, Nat.one_mul] at ih ⊢; omega
theorem flat_get {α : Type} (f : α → Array Value) (sz : Nat) (h : ∀ x, (f x).size = sz) (L : List α) (i : Nat) (hi : i < L.length) : (flat f L).toArray.extract (i * sz) (i * sz + sz) = f L[i] := by
  apply Array.ext'
  simp only [Array.toList_extract, List.extract_eq_take_drop]
  induction L generalizing i with
  | nil => simp at hi
  | cons x L ih =>
    have e : flat f (x :: L) = (f x).toList ++ flat f L := by simp [flat]
    rw [e]
    cases i with
    | zero =>
      simp only [Nat.zero_mul, Nat.zero_add, Nat.sub_zero, List.drop_zero, List.getElem_cons_zero]
      rw [List.take_append_of_le_length (by simp [h])]
      exact List.take_of_length_le (by simp [h])
    | succ i =>
      have := ih i (by simpa using hi)
      rw [List.drop_append, List.drop_of_length_le (by simp [h, Nat.add_mul])]
      simp only [List.nil_append, Array.length_toList, h, List.getElem_cons_succ]
      rw [show (i + 1) * sz - sz = i * sz by rw [Nat.add_mul]; omega, show (i + 1) * sz + sz - (i + 1) * sz = i * sz + sz - i * sz by omega]
      exact this
theorem flat_set {α : Type} (f : α → Array Value) (sz : Nat) (h : ∀ x, (f x).size = sz) (L : List α) (i : Nat) (hi : i < L.length) (y : α) : putAt (flat f L).toArray (i * sz) (f y) = (flat f (L.set i y)).toArray := by
  apply Array.ext'
  have hl := flat_length f sz h
  induction L generalizing i with
  | nil => simp at hi
  | cons x L ih =>
    have e : flat f (x :: L) = (f x).toList ++ flat f L := by simp [flat]
    cases i with
    | zero =>
      have e2 : flat f ((x :: L).set 0 y) = (f y).toList ++ flat f L := by simp [flat]
      rw [e, e2]
      simp only [putAt, Nat.zero_mul, List.take_zero, List.nil_append, Nat.zero_add, h, List.toList_toArray]
      rw [List.drop_append_of_le_length (by simp [h]), List.drop_of_length_le (by simp [h])]
      simp
    | succ i =>
      have e2 : flat f ((x :: L).set (i + 1) y) = (f x).toList ++ flat f (L.set i y) := by simp [flat]
      have := ih i (by simpa using hi)
      simp only [putAt, List.toList_toArray] at this
      rw [e, e2]
      simp only [putAt, List.toList_toArray, h] at this ⊢
      rw [← this, Nat.add_mul, Nat.one_mul, List.take_append, List.drop_append]
      simp only [Array.length_toList, h]
      rw [List.take_of_length_le (by simp [h]), List.drop_of_length_le (by simp [h])]
      simp only [List.nil_append, List.append_assoc]
      congr 3
      · congr 1; omega
      · congr 1; omega
theorem flat_one {α : Type} (f : α → Array Value) (h : ∀ x, ∀ v ∈ f x, v.oneCell' = true) (L : List α) : ∀ v ∈ flat f L, v.oneCell' = true := by
  intro v hv
  simp only [flat, List.mem_flatMap, Array.mem_toList_iff] at hv
  obtain ⟨x, _, hx⟩ := hv
  exact h x v hx
end Go.Proofs.Ytjedlcfeobhjnaa
