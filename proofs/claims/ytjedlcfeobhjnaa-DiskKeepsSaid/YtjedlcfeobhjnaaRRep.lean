/- The reference's disk in memory: what it reads as, apart from the blocks X; what stays. No conditions on the program. -/
import Derived.Test.YtjedlcfeobhjnaaDisk10
set_option linter.unusedSimpArgs false
set_option linter.unusedVariables false
namespace Go.Proofs.Ytjedlcfeobhjnaa
open Go.RowKit Go.ChangeMaps

theorem bcell {W w1 : World} (hb : Below W.heap.size W w1) : (∀ b o, b < W.heap.size → w1.cell? ⟨b, o, none⟩ = W.cell? ⟨b, o, none⟩) ∧ (∀ b o, b < W.heap.size → w1.frozen? ⟨b, o, none⟩ = W.frozen? ⟨b, o, none⟩) :=
  ⟨fun b o h => hb.cell (p := ⟨b, o, none⟩) h, fun b o h => hb.frozen (p := ⟨b, o, none⟩) h⟩
/-- A slice that reads as xs, outside of X. -/
def RO (w : World) (X : Nat → Prop) (v : Value) (n sz : Nat) (xs : List Value) : Prop := RdS w v n sz xs ∧ (0 < n → ∀ g, v.ownBlock = some g → ¬ X g)
/-- A slice of sectors, not nil, outside of X. -/
def Sl (w : World) (X : Nat → Prop) (v : Value) (n : Nat) (L : List Sec) : Prop :=
  ∃ b o c, v = .slice (some ⟨b, o, none⟩) n c ∧ n ≤ c ∧ c ≤ maxLen ∧ readAt w b o (n * 64) = some (flat av L).toArray ∧ ¬ X b
section
variable {w w' : World} {X X' : Nat → Prop}
theorem RO.lt {v : Value} {n sz : Nat} {xs : List Value} (h : RO w X v n sz xs) (h0 : 0 < n) (g : Nat) (hg : v.ownBlock = some g) : g < w.heap.size := by
  obtain ⟨⟨ad, cap, h1, _, _, _, _, h6⟩, _⟩ := h
  obtain ⟨b, o, e, hr⟩ := h6 h0
  rw [h1, e] at hg
  have : b = g := by simpa [Value.ownBlock] using hg
  subst this
  exact readAt_lt hr
theorem RO.kb {v : Value} {n sz : Nat} {xs : List Value} (h : RO w X v n sz xs) (hk : Kb X w w') (hX : ∀ b, X' b → X b ∨ w.heap.size ≤ b) : RO w' X' v n sz xs := by
  refine ⟨?_, fun h0 g hg hx => ?_⟩
  · by_cases h0 : 0 < n
    · exact h.1.same (fun g hg hl => hk.block g hl (h.2 h0 g hg))
    · obtain ⟨ad, cap, h1, h2, h3, h4, h5, h6⟩ := h.1
      exact ⟨ad, cap, h1, h2, h3, h4, h5, fun h7 => absurd h7 h0⟩
  · have h1 := h.lt h0 g hg
    rcases hX g hx with h2 | h2
    · exact h.2 h0 g hg h2
    · omega
theorem RO.below {v : Value} {n sz : Nat} {xs : List Value} (h : RO w X v n sz xs) (hb : Below w.heap.size w w') : RO w' X v n sz xs := h.kb (Kb.of_below hb) (fun _ h => .inl h)
theorem Sl.kb {v : Value} {n : Nat} {L : List Sec} (h : Sl w X v n L) (hk : Kb X w w') (hX : ∀ b, X' b → X b ∨ w.heap.size ≤ b) : Sl w' X' v n L := by
  obtain ⟨b, o, c, h1, h2, h3, h4, h5⟩ := h
  have hlt := readAt_lt h4
  refine ⟨b, o, c, h1, h2, h3, ?_, fun hx => ?_⟩
  · rw [← h4]; simp [readAt, hk.block b hlt h5]
  · rcases hX b hx with h6 | h6
    · exact h5 h6
    · omega
theorem Sl.below {v : Value} {n : Nat} {L : List Sec} (h : Sl w X v n L) (hb : Below w.heap.size w w') : Sl w' X v n L := h.kb (Kb.of_below hb) (fun _ h => .inl h)
theorem Sl.rd {v : Value} {n : Nat} {L : List Sec} (h : Sl w X v n L) (hl : L.length = n) : RdS w v n 64 (flat av L) := by
  obtain ⟨b, o, c, h1, h2, h3, h4, h5⟩ := h
  exact ⟨_, c, h1, h2, h3, by rw [flat_length av 64 size_av, hl], fun h => (by cases h), fun _ => ⟨b, o, rfl, h4⟩⟩
theorem Sl.of_own {base : Nat} {v : Value} {n : Nat} {L : List Sec} (h : Own w base v n 64 (flat av L)) (hX : ∀ b, X b → b < base) : Sl w X v n L := by
  obtain ⟨g, cap, hv, hb, hc, hm, _, hr, _⟩ := h
  exact ⟨g, 0, cap, hv, hc, hm, hr, fun hx => by have := hX g hx; omega⟩
theorem RO.nil (w : World) (X : Nat → Prop) (sz : Nat) : RO w X (.slice none 0 0) 0 sz [] :=
  ⟨⟨none, 0, rfl, Nat.le_refl _, by simp [maxLen], by simp, fun _ => ⟨rfl, rfl⟩, fun h => absurd h (by simp)⟩, fun h => absurd h (by simp)⟩
theorem RO.of_own {base e size n : Nat} {v : Value} {xs : List Value} (h : w.ownsRow base e size v n xs) (hX : ∀ b, X b → b < base) : RO w X v n size xs :=
  ⟨RdS_of_own h, fun _ g hg hx => by have h1 := hX g hx; have h2 := (h.lt g hg).1; omega⟩
end

theorem Kb.setC {Z : Nat → Prop} {a b : World} (h : Kb Z a b) (p : Addr) (v : Value) (hz : Z p.block) : Kb Z a (b.setCell p v) :=
  h.trans (Y := Z) ⟨rfl, rfl, rfl, by simp [World.setCell], fun k _ hk => Below.heap_setCell _ _ _ _ (fun e => hk (e ▸ hz))⟩ (fun i hi => .inl hi)
/-- X and the local variables of a call. -/
def Loc (X : Nat → Prop) (s k : Nat) (b : Nat) : Prop := X b ∨ (s ≤ b ∧ b < s + k)
theorem Loc.x {X : Nat → Prop} {s k : Nat} {m : Nat} : ∀ b, X b → Loc X s k b ∨ m ≤ b := fun b h => .inl (.inl h)
theorem Loc.lt {X : Nat → Prop} {s k : Nat} (hX : ∀ g, X g → g < s) : ∀ b, Loc X s k b → b < s + k := fun b h => by
  rcases h with h | h
  · have := hX b h; omega
  · omega
/-- The cells of an event. -/
def ev3 (q : Evt × Value) : Array Value := #[.int .i64 q.1.step, .bool q.1.crash, q.2]
@[simp] theorem size_ev3 (q : Evt × Value) : (ev3 q).size = 3 := rfl
def cutI (l : List Int) : List Value := l.map (Value.int .i64)
structure EvOk (w : World) (X : Nat → Prop) (q : Evt × Value) : Prop where
  cuts : RO w X q.2 q.1.cuts.length 1 (cutI q.1.cuts)
  few : q.1.cuts.length ≤ 100000
def PlanR (w : World) (X : Nat → Prop) (v : Value) (l : List Evt) : Prop :=
  ∃ L : List (Evt × Value), L.map Prod.fst = l ∧ RO w X v l.length 3 (flat ev3 L) ∧ ∀ q, q ∈ L → EvOk w X q
/-- The reference's disk. -/
structure RAt (w : World) (X : Nat → Prop) (n : Nat) (D : DM) (a b c : Value) : Prop where
  st : Sl w X a n D.st
  op : RO w X b D.op.length 65 (flat wp2 D.op)
  pl : PlanR w X c D.plan
def rV (D : DM) (a b c : Value) : Array Value := #[a, b, .bool D.down, .int .i64 D.steps, c]
section
variable {w w' : World} {X X' : Nat → Prop} {n : Nat} {D : DM} {a b c : Value}
theorem PlanR.kb {v : Value} {l : List Evt} (h : PlanR w X v l) (hk : Kb X w w') (hX : ∀ b, X' b → X b ∨ w.heap.size ≤ b) : PlanR w' X' v l := by
  obtain ⟨L, h1, h2, h3⟩ := h
  exact ⟨L, h1, h2.kb hk hX, fun q hq => ⟨(h3 q hq).cuts.kb hk hX, (h3 q hq).few⟩⟩
theorem RAt.kb (h : RAt w X n D a b c) (hk : Kb X w w') (hX : ∀ b, X' b → X b ∨ w.heap.size ≤ b) : RAt w' X' n D a b c := ⟨h.st.kb hk hX, h.op.kb hk hX, h.pl.kb hk hX⟩
theorem RAt.below (h : RAt w X n D a b c) (hb : Below w.heap.size w w') : RAt w' X n D a b c := h.kb (Kb.of_below hb) (fun _ h => .inl h)
end

theorem RAt.open_ {w : World} {X : Nat → Prop} {n : Nat} {D : DM} {a b c : Value} (h : RAt w X n D a b c) : ∃ (b1 o1 c1 : Nat) (ad2 ad3 : Option Addr) (c2 c3 : Nat), a = .slice (some ⟨b1, o1, none⟩) n c1 ∧ b = .slice ad2 D.op.length c2 ∧ c = .slice ad3 D.plan.length c3 := by
  obtain ⟨b1, o1, c1, h1, _⟩ := h.st
  obtain ⟨ad2, c2, h2, _⟩ := h.op.1
  obtain ⟨L, _, ⟨⟨ad3, c3, h3, _⟩, _⟩, _⟩ := h.pl
  exact ⟨b1, o1, c1, ad2, ad3, c2, c3, h1, h2, h3⟩
/-- What a function of the reference returns: a disk, and what is left. -/
def RNext (w' : World) (X : Nat → Prop) (n : Nat) (D' : DM) (v : Value) : Prop := ∃ a b c, v = .agg (rV D' a b c) ∧ RAt w' X n D' a b c

set_option maxRecDepth 100000 in
set_option maxHeartbeats 1600000 in
theorem rdcrash_any (w : World) (X : Nat → Prop) (n m : Nat) (D : DM) (a b c vc : Value) (cs : List Int) (hR : RAt w X n D a b c) (hX : ∀ g, X g → g < w.heap.size) (hD : OkD D n m) (hm : m ≤ 100000) (hn : n ≤ 5000) (hc : RdS w vc cs.length 1 (cs.map (Value.int .i64))) :
    Calls Try.prog 41 #[.agg (rV D a b c), vc] w fun e w' => (∃ v, e = .returned v ∧ RNext w' X n (crashD D cs) v) ∧ Below w.heap.size w w' := by
  obtain ⟨bl, ol, cl, ad2, ad3, c2, c3, rfl, rfl, rfl⟩ := hR.open_
  unfold rV
  have HR := Lib.hid hR
  have HX := Lib.hid hX
  have HD := Lib.hid hD
  have Hc := Lib.hid hc
  have hsrc : readAt w bl ol (n * 64) = some (flat av D.st).toArray := by
    obtain ⟨b, o, c, h1, _, _, h2, _⟩ := hR.st
    cases h1; exact h2
  have Hsrc := Lib.hid hsrc
  clear hR hX hD hc hsrc
  go_enter Try.func41, Try.ntmps41
  go_wp2_with fail
  have hb0 : Below w.heap.size w ((w.alloc (.cells #[.slice (some ⟨bl, ol, none⟩) n cl, .slice ad2 D.op.length c2, .bool D.down, .int .i64 D.steps, .slice ad3 D.plan.length c3] 46)).alloc (.cells #[.slice none 0 0, .slice none 0 0, .bool false, .int .i64 0, .slice none 0 0] 46)) := ba _ (ba _ (Below.refl _ _))
  refine (rcrash_sl bl ol cl _ vc n D.op.length cs.length D.st D.op cs _ hn HD.out.len (Nat.le_trans HD.out.few hm) rfl rfl ((readAt_below hb0 (readAt_lt Hsrc.out) _ _).trans Hsrc.out) (HR.out.op.below hb0).1 (Hc.out.below hb0) HD.out.at_).mono ?_
  rintro _ w2 ⟨⟨v, rfl, ho⟩, hb2⟩
  have HO : Hid (Sl w2 (Loc X w.heap.size 2) v n (crashD D cs).st) := Sl.of_own ho (fun g hg => Nat.lt_of_lt_of_le (Loc.lt HX.out g hg) (by simp))
  obtain ⟨g, cap, rfl, _⟩ := ho
  have HB2 := Lib.hid (bt hb0 hb2)
  obtain ⟨hc, hf⟩ := bcell hb2
  have hz : w.heap.size + 1 < w2.heap.size := by have := hb2.size; simp at this; omega
  clear hb0 hb2
  go_wp2
  have l0 : Loc X w.heap.size 2 w.heap.size := .inr ⟨Nat.le_refl _, by omega⟩
  have l1 : Loc X w.heap.size 2 (w.heap.size + 1) := .inr ⟨by omega, by omega⟩
  refine bodyPost_ret (v := .agg (rV (crashD D cs) (.slice (some ⟨g, 0, none⟩) n cap) (.slice none 0 0) (.slice ad3 D.plan.length c3))) (by simp [results, Try.results41, go_sem, hc, hf, rV, hz, crashD]) rfl ⟨⟨_, rfl, _, _, _, rfl, ?_⟩, ?_⟩
  · have hk := (((((((((Kb.refl (Loc X w.heap.size 2) w2).setC ⟨w.heap.size, 0, none⟩ (.slice (some ⟨g, 0, none⟩) n cap) l0).setC ⟨w.heap.size, 1, none⟩ (.slice none 0 0) l0).setC ⟨w.heap.size, 2, none⟩ (.bool true) l0).setC ⟨w.heap.size + 1, 0, none⟩ (.slice (some ⟨g, 0, none⟩) n cap) l1).setC ⟨w.heap.size + 1, 1, none⟩ (.slice none 0 0) l1).setC ⟨w.heap.size + 1, 2, none⟩ (.bool true) l1).setC ⟨w.heap.size + 1, 3, none⟩ (.int .i64 D.steps) l1).setC ⟨w.heap.size + 1, 4, none⟩ (.slice ad3 D.plan.length c3) l1)
    refine ⟨HO.out.kb hk Loc.x, RO.nil _ _ _, ?_⟩
    exact HR.out.pl.kb (w' := _) ((Kb.of_below HB2.out).trans hk (fun i hi => by
      rcases hi with h | h
      · exact .inl h
      · exact .inr h.1)) (fun b h => .inl h)
  · exact ((((((((HB2.out.setCell (p := ⟨w.heap.size, 0, none⟩) (Nat.le_refl _) _).setCell (p := ⟨w.heap.size, 1, none⟩) (Nat.le_refl _) _).setCell (p := ⟨w.heap.size, 2, none⟩) (Nat.le_refl _) _).setCell (p := ⟨w.heap.size + 1, 0, none⟩) (Nat.le_succ _) _).setCell (p := ⟨w.heap.size + 1, 1, none⟩) (Nat.le_succ _) _).setCell (p := ⟨w.heap.size + 1, 2, none⟩) (Nat.le_succ _) _).setCell (p := ⟨w.heap.size + 1, 3, none⟩) (Nat.le_succ _) _).setCell (p := ⟨w.heap.size + 1, 4, none⟩) (Nat.le_succ _) _)
end Go.Proofs.Ytjedlcfeobhjnaa
