/- What Crash of a disk computes. Conditions: the receiver is a disk; the numbers are small. -/
import Derived.Test.YtjedlcfeobhjnaaDisk4
set_option linter.unusedSimpArgs false
set_option linter.unusedVariables false
namespace Go.Proofs.Ytjedlcfeobhjnaa
open Go.RowKit Go.ChangeMaps

section
variable {base n : Nat} {p : DP} {D : DM}
theorem DAt.reS {w u : World} (h : DAt w base p n D) (g cap : Nat) (st' : List Sec) (hs : w.heap.size ≤ u.heap.size)
    (hk : ∀ b, b < w.heap.size → b ≠ p.B → u.heap[b]? = w.heap[b]?)
    (hr : readAt u p.B 0 7 = some (d7 { p with gs := g, gc := cap } n D.down D.steps)) (hc : canAt u p.B 0 7 = true)
    (hg : w.heap.size ≤ g) (hb : base ≤ w.heap.size) (hsr : readAt u g 0 (n * 64) = some (flat av st').toArray) (hsk : canAt u g 0 (n * 64) = true) (hsc : n ≤ cap ∧ cap ≤ maxLen) :
    DAt u base { p with gs := g, gc := cap } n { D with st := st' } := by
  obtain ⟨n1, n2, n3, n4, n5, n6, n7, n8, n9, n10⟩ := h.ok.ne
  obtain ⟨M, hM, hM2, hM3⟩ := h.fa
  obtain ⟨M', hM', hM2'⟩ := h.cr
  have hlt5 : ∀ b, p.has b → b < w.heap.size := h.has_lt
  have hne : ∀ b, p.has b → b ≠ g := fun b hb e => by have := hlt5 b hb; omega
  have e5 : ∀ b, b ∈ DP.five { p with gs := g, gc := cap } → b = g ∨ (b ∈ p.five ∧ b ≠ g) := by
    intro b hb
    simp only [DP.five, List.mem_cons, List.not_mem_nil, or_false] at hb ⊢
    by_cases e : b = g
    · exact .inl e
    · right
      refine ⟨?_, e⟩
      rcases hb with h1 | h1 | h1 | h1 | h1
      · exact .inl h1
      · exact absurd h1 e
      · exact .inr (.inr (.inl h1))
      · exact .inr (.inr (.inr (.inl h1)))
      · exact .inr (.inr (.inr (.inr h1)))
  have hcb : ∀ b, b ∈ p.cb → b < w.heap.size → u.heap[b]? = w.heap[b]? := fun b hb1 hb2 => hk b hb2 (fun e => (h.ok.c b hb1).1 (e ▸ five_B p))
  have gB := hne p.B (.inl (five_B p))
  have gl := hne p.bl (.inl (five_bl p))
  have gf := hne p.bf (.inl (five_bf p))
  have gc := hne p.bc (.inl (five_bc p))
  refine ⟨⟨?_, fun b hb1 h5 => ?_, fun b hb1 => ⟨fun h5 => ?_, (h.ok.c b hb1).2⟩, fun b hb1 => ?_⟩, hr, hc, hsr, hsk, hsc, own_same h.op (fun b hb1 hl => hk b hl (h.ok.o' (five_B p) b hb1)), h.la.kept (hk _ h.la.lt n2.symm), ⟨M, hM.kept (hk _ hM.lt n3.symm), hM2, hM3⟩, ⟨M', hM'.kept (hk _ hM'.lt n4.symm), fun k hk1 => ?_⟩, fun b hb1 => Nat.lt_of_lt_of_le (h.lt b hb1) hs⟩
  · simp only [DP.five, List.nodup_cons, List.mem_cons, List.not_mem_nil, or_false, not_or, List.nodup_nil, and_true, not_false_eq_true]
    exact ⟨⟨gB, n2, n3, n4⟩, ⟨gl.symm, gf.symm, gc.symm⟩, ⟨n8, n9⟩, n10⟩
  · rcases e5 b h5 with e | ⟨e, _⟩
    · exact hne b (.inr (.inl hb1)) e
    · exact h.ok.o b hb1 e
  · rcases e5 b h5 with e | ⟨e, _⟩
    · exact hne b (.inr (.inr hb1)) e
    · exact (h.ok.c b hb1).1 e
  · rcases hb1 with h1 | h1 | h1
    · rcases e5 b h1 with e | ⟨e, _⟩
      · omega
      · exact h.ok.lo b (.inl e)
    · exact h.ok.lo b (.inr (.inl h1))
    · exact h.ok.lo b (.inr (.inr h1))
  · rcases hM2' k hk1 with h1 | ⟨cs, v, h1, h2, h3, h4⟩
    · exact .inl h1
    · exact .inr ⟨cs, v, h1, h2, h3.same (fun g hg hl => hcb g (h4 g hg) hl), h4⟩
theorem reS_has {p : DP} {g cap : Nat} {w : World} (hg : w.heap.size ≤ g) : ∀ b, DP.has { p with gs := g, gc := cap } b → p.has b ∨ w.heap.size ≤ b := fun b hb => by
  rcases hb with h1 | h1 | h1
  · simp only [DP.five, List.mem_cons, List.not_mem_nil, or_false] at h1
    rcases h1 with h1 | h1 | h1 | h1 | h1
    · exact .inl (.inl (h1 ▸ five_B p))
    · exact .inr (h1 ▸ hg)
    · exact .inl (.inl (h1 ▸ five_bl p))
    · exact .inl (.inl (h1 ▸ five_bf p))
    · exact .inl (.inl (h1 ▸ five_bc p))
  · exact .inl (.inr (.inl h1))
  · exact .inl (.inr (.inr h1))

set_option maxRecDepth 100000 in
set_option maxHeartbeats 1600000 in
theorem dcrash_any (w : World) (vc : Value) (cs : List Int) (m : Nat) (h : DAt w base p n D) (hD : OkD D n m) (hm : m ≤ 100000) (hn : n ≤ 5000) (hbase : base ≤ w.heap.size) (hc : RdS w vc cs.length 1 (cs.map (Value.int .i64))) :
    Calls Try.prog 15 #[.pointer (some ⟨p.B, 0, none⟩), vc] w fun e w' => e = .returned (.tuple #[]) ∧ DNext w base p n (crashD D cs) w' := by
  have H := Lib.hid h
  have Hc := Lib.hid hc
  have HD := Lib.hid hD
  have Hbase := Lib.hid hbase
  clear h hc hbase hD
  go_enter Try.func15, Try.ntmps15
  go_wp2_with fail
  refine wp_region_tr (.take 0 (.take 1 (.take 2 (.take 3 (.take 4 (.take 5 (.take 6 (.take 7 (.take 8 (.take 9 (.run 10 (.take 11 (.take 12 (.brk 13 .done)))))))))))))) (fun u => readAt u p.B 0 7 = some (d7 p n D.down D.steps)) (by kernel_rfl) (by kernel_rfl) rfl (by kernel_rfl) H.out.drew.r ?_
  repeat (first | (refine t_off rfl rfl ?_; simp only [List.getElem_toArray, List.getElem_cons_succ, List.getElem_cons_zero, Act.put, Act.eval, List.setIfInBounds_toArray, List.set_cons_zero, List.set_cons_succ, Array.getD_eq_getD_getElem?, List.getElem?_toArray, List.getElem?_cons_succ, List.getElem?_cons_zero, Option.getD_some]) | (refine t_move rfl _ rfl rfl ?_; simp only [List.getElem_toArray, List.getElem_cons_succ, List.getElem_cons_zero, Act.put, Act.eval, List.setIfInBounds_toArray, List.set_cons_zero, List.set_cons_succ, Array.getD_eq_getD_getElem?, List.getElem?_toArray, List.getElem?_cons_succ, List.getElem?_cons_zero, Option.getD_some]) | (refine t_assign rfl _ rfl rfl ?_; simp only [List.getElem_toArray, List.getElem_cons_succ, List.getElem_cons_zero, Act.put, Act.eval, List.setIfInBounds_toArray, List.set_cons_zero, List.set_cons_succ, Array.getD_eq_getD_getElem?, List.getElem?_toArray, List.getElem?_cons_succ, List.getElem?_cons_zero, Option.getD_some]) | (refine t_val rfl rfl ?_; apply Exists.intro; refine ⟨fun w' hC' => ?_, ?_⟩; (obtain ⟨c0, c1, -⟩ := d7_cells hC'; go_simp; (first | done | exact rfl)); simp only [List.getElem_toArray, List.getElem_cons_succ, List.getElem_cons_zero, Act.put, Act.eval, List.setIfInBounds_toArray, List.set_cons_zero, List.set_cons_succ, Array.getD_eq_getD_getElem?, List.getElem?_toArray, List.getElem?_cons_succ, List.getElem?_cons_zero, Option.getD_some]) | (refine p_off rfl rfl ?_; simp only [List.getElem_toArray, List.getElem_cons_succ, List.getElem_cons_zero, Act.put, Act.eval, List.setIfInBounds_toArray, List.set_cons_zero, List.set_cons_succ, Array.getD_eq_getD_getElem?, List.getElem?_toArray, List.getElem?_cons_succ, List.getElem?_cons_zero, Option.getD_some]) | (refine p_val rfl rfl ?_; apply Exists.intro; refine ⟨fun w' => ?_, ?_⟩; (go_simp; (first | done | exact rfl)); simp only [List.getElem_toArray, List.getElem_cons_succ, List.getElem_cons_zero, Act.put, Act.eval, List.setIfInBounds_toArray, List.set_cons_zero, List.set_cons_succ, Array.getD_eq_getD_getElem?, List.getElem?_toArray, List.getElem?_cons_succ, List.getElem?_cons_zero, Option.getD_some]))
  refine r_call rfl rfl ?_; apply Exists.intro; apply Exists.intro; refine ⟨?_, ?_⟩; (go_simp; exact ⟨rfl, rfl⟩)
  refine (crash_sl p.gs 0 p.gc p.vo vc n D.op.length cs.length D.st D.op cs _ hn HD.out.len (Nat.le_trans HD.out.few hm) rfl rfl H.out.drew.sr (RdS_of_own H.out.drew.op) (Hc.out.below (Below.refl _ _).drew) HD.out.at_).mono ?_
  rintro _ w2 ⟨⟨v, rfl, g, cap, rfl, hg, hcap, hmax, _, hrg, hkg⟩, hb2⟩
  have hb2' : Below w.heap.size w w2 := bt (Below.refl _ _).drew hb2
  have hr2 := (readAt_below hb2' (readAt_lt H.out.r) 0 7).trans H.out.r
  have Hr2 := Lib.hid hr2
  have Hk2 := Lib.hid ((canAt_below hb2' (readAt_lt H.out.r) 0 7).trans H.out.k)
  have Hb2 := Lib.hid hb2'
  have Hg : Hid (w.heap.size ≤ g) := hg
  have Hrg := Lib.hid hrg
  have Hkg := Lib.hid hkg
  have Hcap : Hid (n ≤ cap ∧ cap ≤ maxLen) := ⟨hcap, hmax⟩
  clear hb2 hb2' hr2 hg hrg hkg hcap hmax
  refine ⟨_, rfl, _, fun _ h => h, Hr2.out, ?_⟩; simp only [List.getElem_toArray, List.getElem_cons_succ, List.getElem_cons_zero, Act.put, Act.eval, List.setIfInBounds_toArray, List.set_cons_zero, List.set_cons_succ, Array.getD_eq_getD_getElem?, List.getElem?_toArray, List.getElem?_cons_succ, List.getElem?_cons_zero, Option.getD_some]
  repeat (first | (refine t_off rfl rfl ?_; simp only [List.getElem_toArray, List.getElem_cons_succ, List.getElem_cons_zero, Act.put, Act.eval, List.setIfInBounds_toArray, List.set_cons_zero, List.set_cons_succ, Array.getD_eq_getD_getElem?, List.getElem?_toArray, List.getElem?_cons_succ, List.getElem?_cons_zero, Option.getD_some]) | (refine t_move rfl _ rfl rfl ?_; simp only [List.getElem_toArray, List.getElem_cons_succ, List.getElem_cons_zero, Act.put, Act.eval, List.setIfInBounds_toArray, List.set_cons_zero, List.set_cons_succ, Array.getD_eq_getD_getElem?, List.getElem?_toArray, List.getElem?_cons_succ, List.getElem?_cons_zero, Option.getD_some]) | (refine t_assign rfl _ rfl rfl ?_; simp only [List.getElem_toArray, List.getElem_cons_succ, List.getElem_cons_zero, Act.put, Act.eval, List.setIfInBounds_toArray, List.set_cons_zero, List.set_cons_succ, Array.getD_eq_getD_getElem?, List.getElem?_toArray, List.getElem?_cons_succ, List.getElem?_cons_zero, Option.getD_some]) | (refine t_val rfl rfl ?_; apply Exists.intro; refine ⟨fun w' hC' => ?_, ?_⟩; (skip; go_simp; (first | done | exact rfl)); simp only [List.getElem_toArray, List.getElem_cons_succ, List.getElem_cons_zero, Act.put, Act.eval, List.setIfInBounds_toArray, List.set_cons_zero, List.set_cons_succ, Array.getD_eq_getD_getElem?, List.getElem?_toArray, List.getElem?_cons_succ, List.getElem?_cons_zero, Option.getD_some]) | (refine p_off rfl rfl ?_; simp only [List.getElem_toArray, List.getElem_cons_succ, List.getElem_cons_zero, Act.put, Act.eval, List.setIfInBounds_toArray, List.set_cons_zero, List.set_cons_succ, Array.getD_eq_getD_getElem?, List.getElem?_toArray, List.getElem?_cons_succ, List.getElem?_cons_zero, Option.getD_some]) | (refine p_val rfl rfl ?_; apply Exists.intro; refine ⟨fun w' => ?_, ?_⟩; (go_simp; (first | done | exact rfl)); simp only [List.getElem_toArray, List.getElem_cons_succ, List.getElem_cons_zero, Act.put, Act.eval, List.setIfInBounds_toArray, List.set_cons_zero, List.set_cons_succ, Array.getD_eq_getD_getElem?, List.getElem?_toArray, List.getElem?_cons_succ, List.getElem?_cons_zero, Option.getD_some]))
  have f0 : w2.frozen? ⟨p.B, 0, none⟩ = false := by have := canAt_cell Hk2.out 0; rwa [Nat.zero_add] at this
  obtain ⟨c0, -⟩ := d7_cells Hr2.out
  refine b_any rfl rfl (fun K hK => ?_)
  go_simp
  refine hK _ _ (fun _ => True) trivial ?_
  clear hK K f0 c0
  try simp only [List.getElem_toArray, List.getElem_cons_succ, List.getElem_cons_zero, Act.put, Act.eval, List.setIfInBounds_toArray, List.set_cons_zero, List.set_cons_succ, Array.getD_eq_getD_getElem?, List.getElem?_toArray, List.getElem?_cons_succ, List.getElem?_cons_zero, Option.getD_some]
  refine t_done ?_
  have he := setCell_setAt (canAt_sub Hk2.out 0 1 (by omega)) (.slice (some ⟨g, 0, none⟩) n cap)
  have ho := Ob.setAt w2 p.B 0 #[.slice (some ⟨g, 0, none⟩) n cap]
  have hgB : g ≠ p.B := fun e => by have h1 := readAt_lt H.out.r; have h2 := Hg.out; omega
  have HA : Hid (DAt (w2.setCell ⟨p.B, 0, none⟩ (.slice (some ⟨g, 0, none⟩) n cap)) base { p with gs := g, gc := cap } n { D with st := crashK D.st D.op (cutAt cs) D.op.length }) := by
    show DAt _ _ _ _ _
    rw [he]
    refine H.out.reS g cap _ ?_ ?_ ?_ ?_ Hg.out Hbase.out ?_ ?_ Hcap.out
    · rw [ho.size]; exact Hb2.out.size
    · intro b h1 h2; exact (ho.block b h2).trans (Hb2.out.block b h1)
    · rw [readAt_setAt_over w2 p.B 0 7 _ Hr2.out Hk2.out 0 _ (by omega) (by simp)]; rfl
    · rw [canAt_setAt _ _ _ _ _ _ _ (canAt_sub Hk2.out 0 1 (by omega))]; exact Hk2.out
    · rw [ho.readAt hgB]; exact Hrg.out
    · rw [ho.canAt hgB]; exact Hkg.out
  have HK : Hid (Kb p.has w (w2.setCell ⟨p.B, 0, none⟩ (.slice (some ⟨g, 0, none⟩) n cap))) := by
    show Kb _ _ _
    rw [he]; exact (Kb.of_below (X := p.has) Hb2.out).ob ho has_B
  have Hsz3 : Hid (base ≤ (w2.setCell ⟨p.B, 0, none⟩ (.slice (some ⟨g, 0, none⟩) n cap)).heap.size) := Nat.le_trans Hbase.out HK.out.size
  clear he ho hgB Hr2 Hk2 Hb2 Hrg Hkg Hcap
  generalize w2.setCell ⟨p.B, 0, none⟩ (.slice (some ⟨g, 0, none⟩) n cap) = w3 at *
  go_wp2_with fail
  refine (clear_any w3 HA.out Hsz3.out).mono ?_
  rintro _ w4 ⟨rfl, p4, hB4, hA4, hK4, hh4⟩
  have hh4' : ∀ b, p4.has b → p.has b ∨ w.heap.size ≤ b := fun b hb => by
    rcases hh4 b hb with h1 | h1
    · exact reS_has Hg.out b h1
    · exact .inr (Nat.le_trans HK.out.size h1)
  have HK4 : Hid (Kb p.has w w4) := HK.out.trans hK4 (reS_has Hg.out)
  have f3 := hA4.free 3
  have he := setCell_setAt (canAt_sub hA4.k 3 1 (by omega)) (.bool true)
  have hB4' : p4.B = p.B := hB4
  have HN : Hid (DNext w base p n (crashD D cs) (w4.setCell ⟨p4.B, 3, none⟩ (.bool true))) := by
    show DNext _ _ _ _ _ _
    rw [he]
    exact ⟨p4, hB4', hA4.setDown true, HK4.out.trans ((Ob.setAt w4 p4.B 3 _).kb (X := p4.has) has_B) hh4', hh4'⟩
  obtain ⟨-, -, -, c3, -⟩ := hA4.cells
  rw [hB4'] at f3 c3 HN
  clear he hA4 hK4 hh4 hh4' HK4 HK Hsz3 HA Hg hB4 hB4'
  go_wp2
  go_end0
  exact ⟨rfl, HN.out⟩
end
end Go.Proofs.Ytjedlcfeobhjnaa
