/- A disk in memory: its places, what it reads as, what stays when other blocks change. No conditions on the program. -/
import Derived.Test.YtjedlcfeobhjnaaDM
import Derived.Test.YtjedlcfeobhjnaaDMap
import Derived.Test.YtjedlcfeobhjnaaSec9
set_option linter.unusedSimpArgs false
set_option linter.unusedVariables false
namespace Go.Proofs.Ytjedlcfeobhjnaa
open Go.RowKit Go.ChangeMaps

/-- Of the blocks of w, none but those in X has changed. -/
structure Kb (X : Nat → Prop) (w w' : World) : Prop where
  os : w'.os = w.os
  tape : w'.tape = w.tape
  output : w'.output = w.output
  size : w.heap.size ≤ w'.heap.size
  block : ∀ k, k < w.heap.size → ¬ X k → w'.heap[k]? = w.heap[k]?
theorem Kb.refl (X : Nat → Prop) (w : World) : Kb X w w := ⟨rfl, rfl, rfl, Nat.le_refl _, fun _ _ _ => rfl⟩
theorem Kb.trans {X Y : Nat → Prop} {a b c : World} (h : Kb X a b) (k : Kb Y b c) (hY : ∀ i, Y i → X i ∨ a.heap.size ≤ i) : Kb X a c :=
  ⟨k.os.trans h.os, k.tape.trans h.tape, k.output.trans h.output, Nat.le_trans h.size k.size, fun i hi hx => (k.block i (Nat.lt_of_lt_of_le hi h.size) (fun hy => by rcases hY i hy with h1 | h1 <;> first | exact hx h1 | omega)).trans (h.block i hi hx)⟩
theorem Kb.of_below {X : Nat → Prop} {w w' : World} (h : Below w.heap.size w w') : Kb X w w' := ⟨h.os, h.tape, h.output, h.size, fun k hk _ => h.block k hk⟩
theorem Kb.below {X : Nat → Prop} {w w' : World} {base : Nat} (h : Kb X w w') (hX : ∀ b, X b → base ≤ b) (hb : base ≤ w.heap.size) : Below base w w' :=
  ⟨h.os, h.tape, h.output, h.size, fun k hk => h.block k (by omega) (fun hx => by have := hX k hx; omega)⟩

/-- Nothing but block B has changed. -/
structure Ob (B : Nat) (w w' : World) : Prop where
  os : w'.os = w.os
  tape : w'.tape = w.tape
  output : w'.output = w.output
  size : w'.heap.size = w.heap.size
  block : ∀ k, k ≠ B → w'.heap[k]? = w.heap[k]?
theorem Ob.setAt (w : World) (B o : Nat) (cs : Array Value) : Ob B w (setAt w B o cs) := by
  refine ⟨?_, ?_, ?_, by simp, fun k hk => setAt_other w B o cs k hk⟩ <;> (unfold Proofs.Ytjedlcfeobhjnaa.setAt; split <;> rfl)
theorem Ob.setBlock (w : World) (B : Nat) (o : Obj) : Ob B w (setBlock w B o) :=
  ⟨rfl, rfl, rfl, by simp [ChangeMaps.setBlock], fun k hk => by simp [ChangeMaps.setBlock, Array.getElem?_setIfInBounds_ne (Ne.symm hk)]⟩
theorem Ob.kb {B : Nat} {w w' : World} {X : Nat → Prop} (h : Ob B w w') (hB : X B) : Kb X w w' :=
  ⟨h.os, h.tape, h.output, by rw [h.size]; exact Nat.le_refl _, fun k _ hx => h.block k (fun e => hx (e ▸ hB))⟩
theorem Ob.readAt {B : Nat} {w w' : World} (h : Ob B w w') {b : Nat} (hb : b ≠ B) (o n : Nat) : readAt w' b o n = readAt w b o n := by
  simp [Proofs.Ytjedlcfeobhjnaa.readAt, h.block b hb]
theorem Ob.canAt {B : Nat} {w w' : World} (h : Ob B w w') {b : Nat} (hb : b ≠ B) (o n : Nat) : canAt w' b o n = canAt w b o n := by
  simp [Proofs.Ytjedlcfeobhjnaa.canAt, h.block b hb]
theorem Ob.own {B : Nat} {w w' : World} (h : Ob B w w') {base e size n : Nat} {v : Value} {xs : List Value} (ho : w.ownsRow base e size v n xs) (hb : ∀ g, v.ownBlock = some g → g ≠ B) : w'.ownsRow base e size v n xs := by
  refine ⟨ho.1, ?_⟩
  rcases ho.2 with hn | ⟨g, cap, cur, hv, hbg, hg, rest⟩
  · exact .inl hn
  · exact .inr ⟨g, cap, cur, hv, hbg, by rw [h.block g (hb g (by rw [hv]; rfl))]; exact hg, rest⟩
theorem Ob.im {B : Nat} {w w' : World} (h : Ob B w w') {b : Nat} (hb : b ≠ B) {M : Int → Option Value} (hm : IM w b M) : IM w' b M := hm.kept (h.block b hb)
theorem RdS.same {w w' : World} {v : Value} {n sz : Nat} {xs : List Value} (h : RdS w v n sz xs) (hb : ∀ g, v.ownBlock = some g → g < w.heap.size → w'.heap[g]? = w.heap[g]?) : RdS w' v n sz xs := by
  obtain ⟨ad, cap, h1, h2, h3, h4, h5, h6⟩ := h
  refine ⟨ad, cap, h1, h2, h3, h4, h5, fun h0 => ?_⟩
  obtain ⟨b, o, e, hr⟩ := h6 h0
  refine ⟨b, o, e, ?_⟩
  have := hb b (by rw [h1, e]; rfl) (readAt_lt hr)
  rw [← hr]; simp [readAt, this]
theorem own_same {w w' : World} {base e size n : Nat} {v : Value} {xs : List Value} (ho : w.ownsRow base e size v n xs) (hb : ∀ g, v.ownBlock = some g → g < w.heap.size → w'.heap[g]? = w.heap[g]?) : w'.ownsRow base e size v n xs := by
  refine ⟨ho.1, ?_⟩
  rcases ho.2 with hn | ⟨g, cap, cur, hv, hbg, hg, rest⟩
  · exact .inl hn
  · exact .inr ⟨g, cap, cur, hv, hbg, by rw [hb g (by rw [hv]; rfl) (Array.getElem?_eq_some_iff.1 hg).1]; exact hg, rest⟩

/-! ### the places of a disk -/
structure DP where
  B : Nat
  gs : Nat
  gc : Nat
  vo : Value
  bl : Nat
  bf : Nat
  bc : Nat
  cb : List Nat
def DP.five (p : DP) : List Nat := [p.B, p.gs, p.bl, p.bf, p.bc]
def DP.has (p : DP) (b : Nat) : Prop := b ∈ p.five ∨ p.vo.ownBlock = some b ∨ b ∈ p.cb
structure DPok (base : Nat) (p : DP) : Prop where
  d : p.five.Nodup
  o : ∀ g, p.vo.ownBlock = some g → g ∉ p.five
  c : ∀ g, g ∈ p.cb → g ∉ p.five ∧ p.vo.ownBlock ≠ some g
  lo : ∀ b, p.has b → base ≤ b
theorem DPok.ne {base : Nat} {p : DP} (h : DPok base p) : p.B ≠ p.gs ∧ p.B ≠ p.bl ∧ p.B ≠ p.bf ∧ p.B ≠ p.bc ∧ p.gs ≠ p.bl ∧ p.gs ≠ p.bf ∧ p.gs ≠ p.bc ∧ p.bl ≠ p.bf ∧ p.bl ≠ p.bc ∧ p.bf ≠ p.bc := by
  have := h.d
  simp only [DP.five, List.nodup_cons, List.mem_cons, List.not_mem_nil, or_false, not_or, List.nodup_nil, and_true, not_false_eq_true] at this
  obtain ⟨⟨a, b, c, d⟩, ⟨e, f, g⟩, ⟨i, j⟩, k⟩ := this
  exact ⟨a, b, c, d, e, f, g, i, j, k⟩
theorem DPok.o' {base : Nat} {p : DP} (h : DPok base p) {b : Nat} (hb : b ∈ p.five) : ∀ g, p.vo.ownBlock = some g → g ≠ b := fun g hg e => h.o g hg (e ▸ hb)
theorem five_B (p : DP) : p.B ∈ p.five := by simp [DP.five]
theorem five_gs (p : DP) : p.gs ∈ p.five := by simp [DP.five]
theorem five_bl (p : DP) : p.bl ∈ p.five := by simp [DP.five]
theorem five_bf (p : DP) : p.bf ∈ p.five := by simp [DP.five]
theorem five_bc (p : DP) : p.bc ∈ p.five := by simp [DP.five]

def d7 (p : DP) (n : Nat) (down : Bool) (steps : Int) : Array Value :=
  #[.slice (some ⟨p.gs, 0, none⟩) n p.gc, p.vo, .map (some p.bl), .bool down, .int .i64 steps, .map (some p.bf), .map (some p.bc)]
def CutsAt (w : World) (p : DP) (v : Value) (cs : List Int) : Prop := RdS w v cs.length 1 (cs.map (Value.int .i64)) ∧ ∀ g, v.ownBlock = some g → g ∈ p.cb
def CutOk (w : World) (p : DP) (M : Int → Option Value) (l : List Evt) (k : Int) : Prop :=
  (evC l k = none ∧ M k = none) ∨ ∃ cs v, evC l k = some cs ∧ M k = some v ∧ CutsAt w p v cs
def lastM (l : List (Int × Sec)) (k : Int) : Option Value := (lastI l k).map fun (i : Nat) => Value.int .i64 (i : Int)
structure DAt (w : World) (base : Nat) (p : DP) (n : Nat) (D : DM) : Prop where
  ok : DPok base p
  r : readAt w p.B 0 7 = some (d7 p n D.down D.steps)
  k : canAt w p.B 0 7 = true
  sr : readAt w p.gs 0 (n * 64) = some (flat av D.st).toArray
  sk : canAt w p.gs 0 (n * 64) = true
  sc : n ≤ p.gc ∧ p.gc ≤ maxLen
  op : w.ownsRow base 74 65 p.vo D.op.length (flat wp2 D.op)
  la : IM w p.bl (lastM D.op)
  fa : ∃ M, IM w p.bf M ∧ (∀ k, D.steps < k → (M k).isSome = evF D.plan k) ∧ ∀ k v, M k = some v → v = .bool true
  cr : ∃ M, IM w p.bc M ∧ ∀ k, D.steps < k → CutOk w p M D.plan k
  lt : ∀ b, b ∈ p.cb → b < w.heap.size

section
variable {w w' : World} {base n : Nat} {p : DP} {D : DM}
theorem DAt.has_lt (h : DAt w base p n D) (b : Nat) (hb : p.has b) : b < w.heap.size := by
  rcases hb with hb | hb | hb
  · simp only [DP.five, List.mem_cons, List.not_mem_nil, or_false] at hb
    obtain ⟨M, hM, _⟩ := h.fa
    obtain ⟨M', hM', _⟩ := h.cr
    rcases hb with rfl | rfl | rfl | rfl | rfl
    · exact readAt_lt h.r
    · exact readAt_lt h.sr
    · exact h.la.lt
    · exact hM.lt
    · exact hM'.lt
  · exact ownsRow_lt h.op b hb
  · exact h.lt b hb
theorem CutOk.same {M : Int → Option Value} {l : List Evt} {k : Int} (h : CutOk w p M l k) (hb : ∀ b, b ∈ p.cb → b < w.heap.size → w'.heap[b]? = w.heap[b]?) : CutOk w' p M l k := by
  rcases h with h | ⟨cs, v, h1, h2, h3, h4⟩
  · exact .inl h
  · exact .inr ⟨cs, v, h1, h2, h3.same (fun g hg hl => hb g (h4 g hg) hl), h4⟩
theorem DAt.same (h : DAt w base p n D) (hs : w.heap.size ≤ w'.heap.size) (hb : ∀ b, p.has b → w'.heap[b]? = w.heap[b]?) : DAt w' base p n D := by
  obtain ⟨M, hM, hM2⟩ := h.fa
  obtain ⟨M', hM', hM2'⟩ := h.cr
  have h5 : ∀ b, b ∈ p.five → w'.heap[b]? = w.heap[b]? := fun b hb5 => hb b (.inl hb5)
  refine ⟨h.ok, ?_, ?_, ?_, ?_, h.sc, own_same h.op (fun g hg _ => hb g (.inr (.inl hg))), h.la.kept (h5 _ (five_bl p)), ⟨M, hM.kept (h5 _ (five_bf p)), hM2⟩, ⟨M', hM'.kept (h5 _ (five_bc p)), fun k hk => (hM2' k hk).same (fun b hb1 _ => hb b (.inr (.inr hb1)))⟩, fun b hb1 => Nat.lt_of_lt_of_le (h.lt b hb1) hs⟩
  · rw [← h.r]; simp [readAt, h5 _ (five_B p)]
  · rw [← h.k]; simp [canAt, h5 _ (five_B p)]
  · rw [← h.sr]; simp [readAt, h5 _ (five_gs p)]
  · rw [← h.sk]; simp [canAt, h5 _ (five_gs p)]
theorem DAt.below (h : DAt w base p n D) (hb : Below w.heap.size w w') : DAt w' base p n D := h.same hb.size (fun b hb1 => hb.block b (h.has_lt b hb1))
theorem DAt.kb {X : Nat → Prop} (h : DAt w base p n D) (hk : Kb X w w') (hX : ∀ b, p.has b → ¬ X b) : DAt w' base p n D := h.same hk.size (fun b hb1 => hk.block b (h.has_lt b hb1) (hX b hb1))
theorem DAt.drew (h : DAt w base p n D) : DAt w.drew base p n D := h.below (Below.refl _ _).drew
theorem d7_cells {u : World} {dn : Bool} {st : Int} (h : readAt u p.B 0 7 = some (d7 p n dn st)) : u.cell? ⟨p.B, 0, none⟩ = some (.slice (some ⟨p.gs, 0, none⟩) n p.gc) ∧ u.cell? ⟨p.B, 1, none⟩ = some p.vo ∧ u.cell? ⟨p.B, 2, none⟩ = some (.map (some p.bl)) ∧ u.cell? ⟨p.B, 3, none⟩ = some (.bool dn) ∧ u.cell? ⟨p.B, 4, none⟩ = some (.int .i64 st) ∧ u.cell? ⟨p.B, 5, none⟩ = some (.map (some p.bf)) ∧ u.cell? ⟨p.B, 6, none⟩ = some (.map (some p.bc)) := by
  have hc := fun i v hv => readAt_cell h i v hv
  simp only [Nat.zero_add] at hc
  exact ⟨hc 0 _ rfl, hc 1 _ rfl, hc 2 _ rfl, hc 3 _ rfl, hc 4 _ rfl, hc 5 _ rfl, hc 6 _ rfl⟩
/-- The cells of the disk. -/
theorem DAt.cells (h : DAt w base p n D) : w.cell? ⟨p.B, 0, none⟩ = some (.slice (some ⟨p.gs, 0, none⟩) n p.gc) ∧ w.cell? ⟨p.B, 1, none⟩ = some p.vo ∧ w.cell? ⟨p.B, 2, none⟩ = some (.map (some p.bl)) ∧ w.cell? ⟨p.B, 3, none⟩ = some (.bool D.down) ∧ w.cell? ⟨p.B, 4, none⟩ = some (.int .i64 D.steps) ∧ w.cell? ⟨p.B, 5, none⟩ = some (.map (some p.bf)) ∧ w.cell? ⟨p.B, 6, none⟩ = some (.map (some p.bc)) := by
  have hc := fun i v hv => readAt_cell h.r i v hv
  simp only [Nat.zero_add] at hc
  exact ⟨hc 0 _ rfl, hc 1 _ rfl, hc 2 _ rfl, hc 3 _ rfl, hc 4 _ rfl, hc 5 _ rfl, hc 6 _ rfl⟩
theorem DAt.free (h : DAt w base p n D) (i : Nat) : w.frozen? ⟨p.B, i, none⟩ = false := by have := canAt_cell h.k i; rwa [Nat.zero_add] at this
end

/-- What an operation leaves. -/
def DNext (w : World) (base : Nat) (p : DP) (n : Nat) (D' : DM) (w' : World) : Prop :=
  ∃ p', p'.B = p.B ∧ DAt w' base p' n D' ∧ Kb p.has w w' ∧ ∀ b, p'.has b → p.has b ∨ w.heap.size ≤ b
theorem DAt.next {w w' : World} {base n : Nat} {p : DP} {D : DM} (h : DAt w base p n D) (hb : Below w.heap.size w w') : DNext w base p n D w' := ⟨p, rfl, h.below hb, Kb.of_below hb, fun b hb => .inl hb⟩
theorem DNext.trans {w w1 w2 : World} {base n : Nat} {p p1 : DP} {D2 : DM} (hB : p1.B = p.B) (hk : Kb p.has w w1) (hp : ∀ b, p1.has b → p.has b ∨ w.heap.size ≤ b) (h : DNext w1 base p1 n D2 w2) : DNext w base p n D2 w2 := by
  obtain ⟨p', h1, h2, h3, h4⟩ := h
  exact ⟨p', h1.trans hB, h2, hk.trans h3 hp, fun b hb => by
    rcases h4 b hb with h5 | h5
    · exact hp b h5
    · exact .inr (Nat.le_trans hk.size h5)⟩
end Go.Proofs.Ytjedlcfeobhjnaa
