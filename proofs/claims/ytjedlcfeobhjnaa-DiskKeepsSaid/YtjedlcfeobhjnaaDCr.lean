/- Two disks side by side, for the law DiskCrashes: plain law, and what stays in memory. No conditions. -/
import Derived.Test.YtjedlcfeobhjnaaDOps
set_option linter.unusedSimpArgs false
set_option linter.unusedVariables false
namespace Go.Proofs.Ytjedlcfeobhjnaa
open Go.RowKit Go.ChangeMaps

/-- Two disks and a variable of the law. -/
structure Rd (w0 w : World) (p q : DP) (D E : DM) (bx : Nat) (cs : Array Value) : Prop where
  d : DAt w w0.heap.size p 6 D
  e : DAt w w0.heap.size q 6 E
  ne : ∀ b, p.has b → ¬ q.has b
  bel : Below w0.heap.size w0 w
  rd : readAt w bx 0 4 = some cs
  bp : ¬ p.has bx
  bq : ¬ q.has bx
section
variable {w0 w w' : World} {p q : DP} {D E D' : DM} {bx : Nat} {cs : Array Value}
theorem Rd.base (h : Rd w0 w p q D E bx cs) : w0.heap.size ≤ w.heap.size := h.bel.size
theorem Rd.below (h : Rd w0 w p q D E bx cs) (hb : Below w.heap.size w w') : Rd w0 w' p q D E bx cs :=
  ⟨h.d.below hb, h.e.below hb, h.ne, bt h.bel hb, (readAt_below hb (readAt_lt h.rd) 0 4).trans h.rd, h.bp, h.bq⟩
theorem Rd.left (h : Rd w0 w p q D E bx cs) (hn : DNext w w0.heap.size p 6 D' w') : ∃ p', p'.B = p.B ∧ Rd w0 w' p' q D' E bx cs := by
  obtain ⟨p', hB, hA, hK, hh⟩ := hn
  have hlt := readAt_lt h.rd
  refine ⟨p', hB, hA, h.e.kb hK (fun b h1 h2 => h.ne b h2 h1), fun b h1 h2 => ?_, h.bel.trans (hK.below h.d.ok.lo h.base), (readAt_same (hK.block _ hlt h.bp) 0 4).trans h.rd, fun h1 => ?_, h.bq⟩
  · rcases hh b h1 with h3 | h3
    · exact h.ne b h3 h2
    · have := h.e.has_lt b h2; omega
  · rcases hh bx h1 with h3 | h3
    · exact h.bp h3
    · omega
theorem Rd.right (h : Rd w0 w p q D E bx cs) (hn : DNext w w0.heap.size q 6 D' w') : ∃ q', q'.B = q.B ∧ Rd w0 w' p q' D D' bx cs := by
  obtain ⟨p', hB, hA, hK, hh⟩ := hn
  have hlt := readAt_lt h.rd
  refine ⟨p', hB, h.d.kb hK (fun b h1 h2 => h.ne b h1 h2), hA, fun b h1 h2 => ?_, h.bel.trans (hK.below h.e.ok.lo h.base), (readAt_same (hK.block _ hlt h.bq) 0 4).trans h.rd, h.bp, fun h1 => ?_⟩
  · rcases hh b h2 with h3 | h3
    · exact h.ne b h1 h3
    · have := h.d.has_lt b h1; omega
  · rcases hh bx h1 with h3 | h3
    · exact h.bq h3
    · omega
end

theorem same_selfD (va vb : Value) (n : Nat) (A : List Sec) (w : World) (hA : A.length = n) (hn : n ≤ 5000) (ha : RdS w va n 64 (flat av A)) (hb : RdS w vb n 64 (flat av A)) :
    Calls Try.prog 18 #[va, vb] w fun e w' => e = .returned (.bool true) ∧ Below w.heap.size w w' := by
  have := same_eq va vb n A A w hA hA (by omega) ha hb
  simpa using this
/-! ### plain law -/
structure Inv (K : Int) (cs : List Int) (D E : DM) (m : Nat) : Prop where
  st : D.st = E.st
  op : D.op = E.op
  dd : D.down = false
  de : E.down = false
  s : D.steps = E.steps
  pd : D.plan = [⟨K, true, cs⟩]
  pe : E.plan = []
  lt : E.steps < K
  ok : OkD D 6 m
theorem Inv.okE {K : Int} {cs : List Int} {D E : DM} {m : Nat} (h : Inv K cs D E m) : OkD E 6 m :=
  ⟨h.st ▸ h.ok.len, h.op ▸ h.ok.at_, h.op ▸ h.ok.few, h.s ▸ h.ok.s0, h.s ▸ h.ok.s1⟩
theorem evC_one (K k : Int) (cs : List Int) : evC [⟨K, true, cs⟩] k = if K = k then some cs else none := by
  unfold evC; simp
theorem evF_one (K k : Int) (cs : List Int) : evF [⟨K, true, cs⟩] k = false := by simp [evF]
theorem evC_nil (k : Int) : evC [] k = none := rfl
theorem evF_nil (k : Int) : evF [] k = false := rfl
theorem has_of (D : DM) (k : Int) (h : D.st.length = 6) (h0 : 0 ≤ k) (h5 : k ≤ 5) : hasD D k = true := by
  unfold hasD; rw [h, decide_eq_true h0, decide_eq_true (by omega)]; rfl
section
variable {K : Int} {cs : List Int} {D E : DM} {m : Nat}
/-- A step in which nothing is planned. -/
theorem writeD_free (D : DM) (k : Int) (x : Sec) (hd : D.down = false) (hc : evC D.plan (D.steps + 1) = none) (hf : evF D.plan (D.steps + 1) = false) (hh : hasD D k = true) : writeD D k x = (addD (tickD D) k x, 0) := by
  unfold writeD; rw [if_neg (by rw [hd]; decide), hc]; simp only; rw [if_neg (by rw [hf]; decide), if_pos hh]
theorem writeD_crash (D : DM) (k : Int) (x : Sec) (cs : List Int) (hd : D.down = false) (hc : evC D.plan (D.steps + 1) = some cs) : writeD D k x = (crashD (addD (tickD D) k x) cs, 12) := by
  unfold writeD; rw [if_neg (by rw [hd]; decide), hc]
theorem syncD_free (D : DM) (hd : D.down = false) (hc : evC D.plan (D.steps + 1) = none) (hf : evF D.plan (D.steps + 1) = false) : syncD D = (flushD (tickD D), 0) := by
  unfold syncD; rw [if_neg (by rw [hd]; decide), hc]; simp only; rw [if_neg (by rw [hf]; decide)]
theorem syncD_crash (D : DM) (cs : List Int) (hd : D.down = false) (hc : evC D.plan (D.steps + 1) = some cs) : syncD D = (crashD (tickD D) cs, 12) := by
  unfold syncD; rw [if_neg (by rw [hd]; decide), hc]
theorem addD_eq (D E : DM) (k : Int) (x : Sec) (hs : D.st = E.st) (ho : D.op = E.op) : (addD D k x).op = (addD E k x).op := by
  unfold addD hasD; rw [hs]
  split
  · rw [ho]
  · exact ho
theorem Inv.evE (h : Inv K cs D E m) : evC E.plan (E.steps + 1) = none ∧ evF E.plan (E.steps + 1) = false := by rw [h.pe]; exact ⟨rfl, rfl⟩
theorem Inv.writeE (h : Inv K cs D E m) (k : Int) (x : Sec) (h0 : 0 ≤ k) (h5 : k ≤ 5) : writeD E k x = (addD (tickD E) k x, 0) :=
  writeD_free E k x h.de h.evE.1 h.evE.2 (has_of E k h.okE.len h0 h5)
theorem Inv.syncE (h : Inv K cs D E m) : syncD E = (flushD (tickD E), 0) := syncD_free E h.de h.evE.1 h.evE.2
theorem Inv.writeD_no (h : Inv K cs D E m) (k : Int) (x : Sec) (h0 : 0 ≤ k) (h5 : k ≤ 5) (hk : E.steps + 1 ≠ K) : writeD D k x = (addD (tickD D) k x, 0) := by
  refine writeD_free D k x h.dd ?_ ?_ (has_of D k h.ok.len h0 h5)
  · rw [h.pd, evC_one, h.s, if_neg (fun e => hk e.symm)]
  · rw [h.pd, evF_one]
theorem Inv.writeD_yes (h : Inv K cs D E m) (k : Int) (x : Sec) (hk : E.steps + 1 = K) : writeD D k x = (crashD (addD (tickD D) k x) cs, 12) := by
  refine writeD_crash D k x cs h.dd ?_
  rw [h.pd, evC_one, h.s, if_pos hk.symm]
theorem Inv.syncD_no (h : Inv K cs D E m) (hk : E.steps + 1 ≠ K) : syncD D = (flushD (tickD D), 0) := by
  refine syncD_free D h.dd ?_ ?_
  · rw [h.pd, evC_one, h.s, if_neg (fun e => hk e.symm)]
  · rw [h.pd, evF_one]
theorem Inv.syncD_yes (h : Inv K cs D E m) (hk : E.steps + 1 = K) : syncD D = (crashD (tickD D) cs, 12) := by
  refine syncD_crash D cs h.dd ?_
  rw [h.pd, evC_one, h.s, if_pos hk.symm]
theorem Inv.nextW (h : Inv K cs D E m) (k : Int) (x : Sec) (hk : E.steps + 1 ≠ K) : Inv K cs (addD (tickD D) k x) (addD (tickD E) k x) (m + 2) := by
  have h1 := h.lt
  refine ⟨by simp [h.st], addD_eq _ _ k x h.st h.op, by simp [tickD, h.dd], by simp [tickD, h.de], by simp [tickD, h.s], by simp [h.pd], by simp [h.pe], ?_, h.ok.tick.add k x⟩
  simp [tickD]; omega
theorem Inv.nextS (h : Inv K cs D E m) (hk : E.steps + 1 ≠ K) : Inv K cs (flushD (tickD D)) (flushD (tickD E)) (m + 2) := by
  have h1 := h.lt
  refine ⟨by show crashK D.st D.op _ D.op.length = crashK E.st E.op _ E.op.length; rw [h.st, h.op], rfl, h.dd, h.de, by show D.steps + 1 = E.steps + 1; rw [h.s], h.pd, h.pe, ?_, h.ok.tick.flush.more (by omega)⟩
  show E.steps + 1 < K; omega
theorem Inv.crashW (h : Inv K cs D E m) (k : Int) (x : Sec) : (crashD (addD (tickD D) k x) cs).st = (crashD (addD (tickD E) k x) cs).st := by
  show crashK _ _ _ _ = crashK _ _ _ _
  have e := addD_eq (tickD D) (tickD E) k x h.st h.op
  rw [e, addD_st, addD_st]
  show crashK D.st _ _ _ = crashK E.st _ _ _
  rw [h.st]
theorem Inv.crashS (h : Inv K cs D E m) : (crashD (tickD D) cs).st = (crashD E cs).st := by
  show crashK D.st D.op _ D.op.length = crashK E.st E.op _ E.op.length
  rw [h.st, h.op]
theorem inv_start (K : Int) (cs : List Int) (hK : 1 ≤ K) : Inv K cs (planD (newD 6) K true cs) (newD 6) 0 := by
  have e : planD (newD 6) K true cs = { newD 6 with plan := [⟨K, true, cs⟩] } := by
    unfold planD; rw [if_neg (by omega)]
    show DM.mk _ _ _ _ ([] ++ [⟨0 + K, true, cs⟩]) = _
    rw [Int.zero_add]; rfl
  rw [e]
  exact ⟨rfl, rfl, rfl, rfl, rfl, rfl, rfl, by show (0 : Int) < K; omega, ⟨rfl, fun p hp => (by cases hp), Nat.le_refl _, Int.le_refl 0, Int.le_refl 0⟩⟩
end
end Go.Proofs.Ytjedlcfeobhjnaa
