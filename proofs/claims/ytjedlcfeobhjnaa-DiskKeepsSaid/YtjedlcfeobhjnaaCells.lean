/- Reading and writing of several cells at once: arrays and structs by value, wherever they lie in a block. Lemmas on the memory of the model; no conditions on the program. -/
import Derived.Test.YtjedlcfeobhjnaaProg
import Derived.WalkKit
import Derived.WalkLawsBesides
import Derived.WalkSpells
import Derived.BigQuiet
import Derived.Deep.QuietTactic
import Derived.Deep.MidRow
import Derived.Laws.CopyRow
import Derived.ChangeKeysEq
import Derived.Lib.Hide
set_option linter.unusedSimpArgs false
set_option linter.unusedVariables false
namespace Go.Proofs.Ytjedlcfeobhjnaa
open Go.RowKit

/-- The n cells of block b from offset o on, if they are there. -/
def readAt (w : World) (b o n : Nat) : Option (Array Value) :=
  match w.heap[b]? with
  | some (.cells c _ _) => if o + n ≤ c.size then some (c.extract o (o + n)) else none
  | _ => none
/-- They are there, and no cell of the block is frozen. -/
def canAt (w : World) (b o n : Nat) : Bool :=
  match w.heap[b]? with
  | some (.cells c _ fr) => decide (o + n ≤ c.size) && decide (fr = (0, 0))
  | _ => false
def putAt (c : Array Value) (o : Nat) (cs : Array Value) : Array Value := (c.toList.take o ++ cs.toList ++ c.toList.drop (o + cs.size)).toArray
/-- The world with the cells cs in block b from offset o on. -/
def setAt (w : World) (b o : Nat) (cs : Array Value) : World :=
  match w.heap[b]? with
  | some (.cells c _ _) => w.setRow b (putAt c o cs)
  | _ => w

theorem putAt_size (c : Array Value) (o : Nat) (cs : Array Value) (h : o + cs.size ≤ c.size) : (putAt c o cs).size = c.size := by
  simp [putAt]; omega
theorem putAt_same (c : Array Value) (o : Nat) (cs : Array Value) (h : o + cs.size ≤ c.size) : (putAt c o cs).extract o (o + cs.size) = cs := by
  apply Array.ext'
  simp only [Array.toList_extract, putAt, List.extract_eq_take_drop]
  have e : min o c.toList.length = o := by simp; omega
  rw [List.append_assoc, List.drop_append_of_le_length (by simp; omega)]
  have e2 : (c.toList.take o).drop o = [] := by simp
  rw [e2, List.nil_append, List.take_append_of_le_length (by simp)]
  simp
  exact List.take_of_length_le (by simp)
theorem putAt_apart (c : Array Value) (o : Nat) (cs : Array Value) (h : o + cs.size ≤ c.size) (o' n : Nat) (ha : o' + n ≤ o ∨ o + cs.size ≤ o') (hn : o' + n ≤ c.size) :
    (putAt c o cs).extract o' (o' + n) = c.extract o' (o' + n) := by
  apply Array.ext
  · simp [putAt_size c o cs h]
  · intro i h1 h2
    simp only [Array.size_extract, putAt_size c o cs h] at h1
    simp only [Array.getElem_extract]
    simp only [putAt, List.getElem_toArray]
    rcases ha with ha | ha
    · rw [List.getElem_append_left (by simp; omega), List.getElem_append_left (by simp; omega)]
      simp
    · rw [List.getElem_append_right (by simp; omega)]
      simp
      congr 1
      have : min o c.size = o := by omega
      omega

theorem putAt_get (c : Array Value) (o : Nat) (cs : Array Value) (h : o + cs.size ≤ c.size) (i : Nat) :
    (putAt c o cs)[i]? = if o ≤ i ∧ i < o + cs.size then cs[i - o]? else c[i]? := by
  simp only [putAt, List.getElem?_toArray, List.append_assoc]
  by_cases h1 : i < o
  · rw [List.getElem?_append_left (by simp; omega), if_neg (by omega), List.getElem?_take_of_lt h1]; simp
  · have e : min o c.size = o := by omega
    rw [List.getElem?_append_right (by simp; omega)]
    simp only [List.length_take, Array.length_toList, e]
    by_cases h2 : i < o + cs.size
    · rw [List.getElem?_append_left (by simp; omega), if_pos (by omega)]; simp
    · rw [List.getElem?_append_right (by simp; omega), if_neg (by omega)]
      simp only [List.getElem?_drop, Array.length_toList]
      rw [Array.getElem?_toList]; congr 1; omega
theorem extract_get (c : Array Value) (o n i : Nat) (h : o + n ≤ c.size) : (c.extract o (o + n))[i]? = if i < n then c[o + i]? else none := by
  rw [Array.getElem?_extract]
  by_cases hi : i < n
  · rw [if_pos (by omega), if_pos hi]
  · rw [if_neg (by omega), if_neg hi]

theorem readAt_range {w : World} {b o n : Nat} {cs : Array Value} (h : readAt w b o n = some cs) : w.rangeAt b o cs.toList ∧ cs.size = n := by
  unfold readAt at h
  split at h
  · rename_i c t fr hb
    split at h
    · rename_i hle
      simp only [Option.some.injEq] at h
      subst h
      exact ⟨World.rangeAt_of_block hb o n, by simp; omega⟩
    · simp at h
  · simp at h
theorem readAt_cell {w : World} {b o n : Nat} {cs : Array Value} (h : readAt w b o n = some cs) (j : Nat) (v : Value) (hj : cs[j]? = some v) : w.cell? ⟨b, o + j, none⟩ = some v :=
  (readAt_range h).1 j v (by simpa using hj)
theorem readAt_lt {w : World} {b o n : Nat} {cs : Array Value} (h : readAt w b o n = some cs) : b < w.heap.size := by
  rcases Nat.lt_or_ge b w.heap.size with h' | h'
  · exact h'
  · simp [readAt, Array.getElem?_eq_none h'] at h
theorem canAt_lt {w : World} {b o n : Nat} (h : canAt w b o n = true) : b < w.heap.size := by
  rcases Nat.lt_or_ge b w.heap.size with h' | h'
  · exact h'
  · simp [canAt, Array.getElem?_eq_none h'] at h
theorem canAt_block {w : World} {b o n : Nat} (h : canAt w b o n = true) : ∃ c t, w.heap[b]? = some (.cells c t (0, 0)) ∧ o + n ≤ c.size := by
  unfold canAt at h
  split at h
  · rename_i c t fr hb
    simp only [Bool.and_eq_true, decide_eq_true_eq] at h
    obtain ⟨h1, rfl⟩ := h
    exact ⟨c, t, hb, h1⟩
  · simp at h
theorem canAt_sub {w : World} {b o n : Nat} (h : canAt w b o n = true) (o' n' : Nat) (hs : o' + n' ≤ o + n) : canAt w b o' n' = true := by
  obtain ⟨c, t, hb, hle⟩ := canAt_block h
  simp [canAt, hb]; omega
theorem canAt_cell {w : World} {b o n : Nat} (h : canAt w b o n = true) (j : Nat) : w.frozen? ⟨b, o + j, none⟩ = false := by
  obtain ⟨c, t, hb, hle⟩ := canAt_block h
  simp [World.frozen?, hb]
theorem readAt_sub {w : World} {b o n : Nat} {cs : Array Value} (h : readAt w b o n = some cs) (o' n' : Nat) (h1 : o ≤ o') (h2 : o' + n' ≤ o + n) : readAt w b o' n' = some (cs.extract (o' - o) (o' - o + n')) := by
  unfold readAt at h ⊢
  split at h
  · rename_i c t fr hb
    split at h
    · rename_i hle
      simp only [Option.some.injEq] at h
      subst h
      rw [if_pos (by omega), Array.extract_extract]
      congr 2 <;> omega
    · simp at h
  · simp at h
theorem readAt_join {w : World} {b o n m : Nat} {cs ds : Array Value} (h : readAt w b o n = some cs) (k : readAt w b (o + n) m = some ds) : readAt w b o (n + m) = some (cs ++ ds) := by
  unfold readAt at h k ⊢
  split at h
  · rename_i c t fr hb
    simp only [hb] at k
    split at h
    · split at k
      · simp only [Option.some.injEq] at h k
        subst h; subst k
        rw [if_pos (by omega), Array.extract_append_extract]
        congr 2 <;> omega
      · simp at k
    · simp at h
  · simp at h

/-! ### behind an alloc, a draw, a store -/
theorem readAt_alloc_at (w : World) (c : Array Value) (t : TypeId) (fr : Nat × Nat) (b o n : Nat) (hb : b = w.heap.size) (h : o + n ≤ c.size) : readAt (w.alloc (.cells c t fr)) b o n = some (c.extract o (o + n)) := by
  subst hb; simp only [readAt, heap_alloc_new]; rw [if_pos h]
theorem readAt_alloc_past (w : World) (ob : Obj) (b o n : Nat) (hb : b < w.heap.size) : readAt (w.alloc ob) b o n = readAt w b o n := by
  simp only [readAt, Below.heap_alloc w ob b hb]
theorem canAt_alloc_at (w : World) (c : Array Value) (t : TypeId) (b o n : Nat) (hb : b = w.heap.size) (h : o + n ≤ c.size) : canAt (w.alloc (.cells c t)) b o n = true := by
  subst hb; simp only [canAt, heap_alloc_new]; simp [h]
theorem canAt_alloc_past (w : World) (ob : Obj) (b o n : Nat) (hb : b < w.heap.size) : canAt (w.alloc ob) b o n = canAt w b o n := by
  simp only [canAt, Below.heap_alloc w ob b hb]
@[simp] theorem readAt_drew (w : World) (b o n : Nat) : readAt w.drew b o n = readAt w b o n := rfl
@[simp] theorem canAt_drew (w : World) (b o n : Nat) : canAt w.drew b o n = canAt w b o n := rfl
theorem readAt_below {w w' : World} {B : Nat} (hb : Below B w w') {b : Nat} (h : b < B) (o n : Nat) : readAt w' b o n = readAt w b o n := by
  simp [readAt, hb.block b h]
theorem canAt_below {w w' : World} {B : Nat} (hb : Below B w w') {b : Nat} (h : b < B) (o n : Nat) : canAt w' b o n = canAt w b o n := by
  simp [canAt, hb.block b h]
@[simp] theorem setAt_size (w : World) (b o : Nat) (cs : Array Value) : (setAt w b o cs).heap.size = w.heap.size := by
  unfold setAt; split <;> simp
theorem setAt_heap {w : World} {b o : Nat} {cs : Array Value} {c : Array Value} {t : TypeId} {fr : Nat × Nat} (h : w.heap[b]? = some (.cells c t fr)) : (setAt w b o cs).heap[b]? = some (.cells (putAt c o cs) t fr) := by
  simp only [setAt, h]; exact setRow_heap w b c _ t fr h
theorem setAt_other (w : World) (b o : Nat) (cs : Array Value) (k : Nat) (h : k ≠ b) : (setAt w b o cs).heap[k]? = w.heap[k]? := by
  unfold setAt; split
  · exact setRow_other w b k _ h
  · rfl
theorem setAt_below {w0 w : World} {B b : Nat} (h : Below B w0 w) (hb : B ≤ b) (o : Nat) (cs : Array Value) : Below B w0 (setAt w b o cs) := by
  refine h.trans ⟨?_, ?_, ?_, by simp, fun k hk => setAt_other w b o cs k (by omega)⟩ <;> (unfold setAt; split <;> rfl)
theorem readAt_setAt_same (w : World) (b o n : Nat) (cs : Array Value) (hn : n = cs.size) (h : canAt w b o n = true) : readAt (setAt w b o cs) b o n = some cs := by
  subst hn
  obtain ⟨c, t, hb, hle⟩ := canAt_block h
  simp [readAt, setAt_heap hb, putAt_size c o cs hle, hle, putAt_same c o cs hle]
theorem readAt_setAt_other (w : World) (b o : Nat) (cs : Array Value) (b' o' n' : Nat) (h : b' ≠ b) : readAt (setAt w b o cs) b' o' n' = readAt w b' o' n' := by
  simp [readAt, setAt_other w b o cs b' h]
theorem canAt_setAt_other (w : World) (b o : Nat) (cs : Array Value) (b' o' n' : Nat) (h : b' ≠ b) : canAt (setAt w b o cs) b' o' n' = canAt w b' o' n' := by
  simp [canAt, setAt_other w b o cs b' h]
theorem canAt_setAt (w : World) (b o : Nat) (cs : Array Value) (b' o' n' : Nat) (h : canAt w b o cs.size = true) : canAt (setAt w b o cs) b' o' n' = canAt w b' o' n' := by
  by_cases e : b' = b
  · subst e
    obtain ⟨c, t, hb, hle⟩ := canAt_block h
    simp [canAt, setAt_heap hb, hb, putAt_size c o cs hle]
  · exact canAt_setAt_other w b o cs b' o' n' e
theorem readAt_setAt_apart (w : World) (b o : Nat) (cs : Array Value) (o' n' : Nat) (h : canAt w b o cs.size = true) (ha : o' + n' ≤ o ∨ o + cs.size ≤ o') : readAt (setAt w b o cs) b o' n' = readAt w b o' n' := by
  obtain ⟨c, t, hb, hle⟩ := canAt_block h
  simp only [readAt, setAt_heap hb, hb, putAt_size c o cs hle]
  split
  · rename_i hn; rw [putAt_apart c o cs hle o' n' ha hn]
  · rfl
/-- A part of what is read is written anew. -/
theorem readAt_setAt_over (w : World) (b o n : Nat) (cs : Array Value) (hr : readAt w b o n = some cs) (hc : canAt w b o n = true) (o' : Nat) (ds : Array Value) (h1 : o ≤ o') (h2 : o' + ds.size ≤ o + n) :
    readAt (setAt w b o' ds) b o n = some (putAt cs (o' - o) ds) := by
  obtain ⟨c, t, hb, hle⟩ := canAt_block hc
  have hsz := (readAt_range hr).2
  simp only [readAt, hb, if_pos hle, Option.some.injEq] at hr
  simp only [readAt, setAt_heap hb, putAt_size c o' ds (by omega), if_pos hle, Option.some.injEq]
  apply Array.ext_getElem?
  intro i
  rw [extract_get _ _ _ _ (by rw [putAt_size c o' ds (by omega)]; exact hle), putAt_get c o' ds (by omega), putAt_get cs (o' - o) ds (by omega)]
  subst hr
  rw [extract_get _ _ _ _ hle]
  by_cases hi : i < n
  · simp only [hi, if_true]
    by_cases h3 : o' ≤ o + i ∧ o + i < o' + ds.size
    · rw [if_pos h3, if_pos (by omega)]; congr 1; omega
    · rw [if_neg h3, if_neg (by omega)]
  · rw [if_neg hi, if_neg (by omega)]
    rw [if_neg hi]
theorem setAt_setAt {w : World} {b o : Nat} (cs ds : Array Value) (h : canAt w b o cs.size = true) (hs : ds.size = cs.size) : setAt (setAt w b o cs) b o ds = setAt w b o ds := by
  obtain ⟨c, t, hb, hle⟩ := canAt_block h
  simp only [setAt, hb, setRow_heap w b c _ t _ hb, setRow_setRow]
  congr 1
  apply Array.ext_getElem?
  intro i
  rw [putAt_get _ _ _ (by rw [putAt_size _ _ _ hle]; omega), putAt_get _ _ _ hle, putAt_get _ _ _ (by omega)]
  by_cases hi : o ≤ i ∧ i < o + ds.size
  · simp [hi]
  · rw [if_neg hi, if_neg hi, if_neg (by omega)]
@[go_sem] theorem setAt_alloc_at (w : World) (c : Array Value) (t : TypeId) (b : Nat) (cs : Array Value) (hb : b = w.heap.size) (hs : cs.size = c.size) : setAt (w.alloc (.cells c t)) b 0 cs = w.alloc (.cells cs t) := by
  subst hb
  have hg : (w.alloc (.cells c t)).heap[w.heap.size]? = some (.cells c t (0, 0)) := heap_alloc_new w _
  simp only [setAt, hg]
  have e : putAt c 0 cs = cs := by
    apply Array.ext_getElem?
    intro i
    rw [putAt_get _ _ _ (by omega)]
    by_cases hi : i < cs.size
    · rw [if_pos (by omega)]; simp
    · rw [if_neg (by omega)]; simp [Array.getElem?_eq_none (show cs.size ≤ i by omega), Array.getElem?_eq_none (show c.size ≤ i by omega)]
  rw [e]
  simp only [World.setRow, World.alloc]
  congr 1
  apply Array.ext
  · simp
  · intro k h1 h2
    simp only [Array.getElem_modify, Array.getElem_push]
    simp only [Array.size_modify, Array.size_push] at h1
    by_cases hk : k < w.heap.size
    · simp [hk, show w.heap.size ≠ k by omega]
    · obtain rfl : k = w.heap.size := by omega
      simp
/-- One cell that is written. -/
theorem setCell_setAt {w : World} {b o : Nat} (h : canAt w b o 1 = true) (v : Value) : w.setCell ⟨b, o, none⟩ v = setAt w b o #[v] := by
  obtain ⟨c, t, hb, hle⟩ := canAt_block h
  rw [setCell_eq_setRow w b o c t (0, 0) v hb]
  simp only [setAt, hb]
  congr 1
  apply Array.ext'
  simp only [putAt, Array.toList_setIfInBounds]
  rw [List.set_eq_take_append_cons_drop, if_pos (by simp; omega)]
  simp

@[go_sem] theorem lt_up2 (n : Nat) : (n < n + 1 + 1) = True := by simp; omega
@[go_sem] theorem lt_up3 (n : Nat) : (n < n + 1 + 1 + 1) = True := by simp; omega
@[go_sem] theorem lt_up4 (n : Nat) : (n < n + 1 + 1 + 1 + 1) = True := by simp; omega
@[go_sem] theorem lt_up5 (n : Nat) : (n < n + 1 + 1 + 1 + 1 + 1) = True := by simp; omega
@[go_sem] theorem lt_up6 (n : Nat) : (n < n + 1 + 1 + 1 + 1 + 1 + 1) = True := by simp; omega

/-! ### the operations -/
section
variable {P : Program}
theorem run_loadAt_at (w : World) (b o n : Nat) (ty : TypeId) (d : TypeDesc) (cs : Array Value) (h : readAt w b o n = some cs)
    (hu : P.underlying ty = some d) (hd : d.isRow = true) (hi : (P.info? ty).map (·.size) = some n) :
    (Instr.loadAt ty (.pointer (some ⟨b, o, none⟩))).run P w = .ok (.agg cs) w := by
  obtain ⟨hr, hn⟩ := readAt_range h
  have := run_loadAt_mid (P := P) w b o ty cs.toList d hr hu hd (by rw [hi]; simp [hn])
  simpa using this
theorem run_loadVar_at (w : World) (b o n : Nat) (ty : TypeId) (d : TypeDesc) (cs : Array Value) (h : readAt w b o n = some cs)
    (hu : P.underlying ty = some d) (hd : d.isRow = true) (hi : (P.info? ty).map (·.size) = some n) :
    (loadVar ty ⟨b, o, none⟩).run P w = .ok (.agg cs) w := by
  obtain ⟨hr, hn⟩ := readAt_range h
  have := run_loadVar_mid (P := P) w b o ty cs.toList d hr hu hd (by rw [hi]; simp [hn])
  simpa using this
theorem run_storeAt_at (w : World) (b o n : Nat) (ty : TypeId) (cs : Array Value) (h : canAt w b o n = true) (hn : cs.size = n)
    (hi : (P.info? ty).map (·.size) = some n) (h1 : ∀ v ∈ cs, v.oneCell' = true) :
    (Instr.storeAt ty (.pointer (some ⟨b, o, none⟩)) (.agg cs)).run P w = .ok () (setAt w b o cs) := by
  obtain ⟨c, t, hb, hle⟩ := canAt_block h
  have := run_storeCells_at P b o t cs.toList 0 c w hb (by simp; omega) (by simpa using h1)
  cases hq : P.info? ty with
  | none => simp [hq] at hi
  | some i =>
    have hs : cs.size = i.size := by simp [hq] at hi; omega
    simp only [Nat.add_zero] at this
    simp only [Instr.storeAt, Instr.sureAddr, Sem.run_bind, Sem.run_pure, Result.andThen_ok]
    simp [storeVar, sizeOf, typeInfo, hq, Value.cells, hs, this, setAt, hb, putAt]
/-- copy: the first cells of src over the first ones of dst. -/
theorem run_copy_at (w : World) (dT sT ty elem : TypeId) (b o dLen dCap b2 o2 sLen sCap n : Nat) (cs : Array Value)
    (hu : P.underlying dT = some (.slice elem)) (hs : (P.info? elem).map (·.size) = some 1)
    (hn : n = Nat.min sLen dLen) (h : canAt w b o n = true) (hr : readAt w b2 o2 n = some cs) (h1 : ∀ v ∈ cs, v.oneCell' = true) :
    (Builtin.copy_ #[dT, sT] ty #[.slice (some ⟨b, o, none⟩) dLen dCap, .slice (some ⟨b2, o2, none⟩) sLen sCap]).run P w = .ok (goInt n) (setAt w b o cs) := by
  obtain ⟨c, t, hb, hle⟩ := canAt_block h
  obtain ⟨hr, hsz⟩ := readAt_range hr
  have := run_copy_row P w dT sT ty elem b o dLen dCap ⟨b2, o2, none⟩ sLen sCap c t cs.toList hu hs hb (by simp [hsz, hn])
    (fun j v hv => by rw [Addr.add_mid]; exact hr j v hv) (by simp; omega) (by simpa using h1)
  rw [this]
  simp [setAt, hb, putAt, hsz]
end

/-! ### arrays of bytes -/
def B8 (x : UInt8) : Value := .int .u8 (x.toNat : Int)
def av {n : Nat} (x : Vector UInt8 n) : Array Value := x.toArray.map B8
@[simp] theorem size_av {n : Nat} (x : Vector UInt8 n) : (av x).size = n := by simp [av]
theorem av_get {n : Nat} (x : Vector UInt8 n) (i : Nat) (h : i < n) : (av x)[i]? = some (.int .u8 (x[i].toNat : Int)) := by
  simp [av, B8, h]
theorem av_one {n : Nat} (x : Vector UInt8 n) : ∀ v ∈ av x, v.oneCell' = true := by
  intro v hv; simp only [av, Array.mem_map] at hv; obtain ⟨a, _, rfl⟩ := hv; rfl
theorem B8_inj {a b : UInt8} (h : B8 a = B8 b) : a = b := by
  simp only [B8, Value.int.injEq, true_and] at h
  exact UInt8.toNat_inj.1 (by omega)
theorem av_inj {n : Nat} {x y : Vector UInt8 n} (h : av x = av y) : x = y := by
  apply Vector.ext
  intro i hi
  have h1 := av_get x i hi
  rw [h, av_get y i hi] at h1
  simp only [Option.some.injEq, Value.int.injEq, true_and] at h1
  exact UInt8.toNat_inj.1 (by omega)
end Go.Proofs.Ytjedlcfeobhjnaa
