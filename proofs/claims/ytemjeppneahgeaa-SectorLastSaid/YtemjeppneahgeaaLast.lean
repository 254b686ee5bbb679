/- What Last of package sector computes: the data of the last write to a sector. Conditions: the slice reads as the writes; they are few. -/
import Derived.Test.YtemjeppneahgeaaBack
set_option linter.unusedSimpArgs false
set_option linter.unusedVariables false
namespace Go.Proofs.Ytemjeppneahgeaa
open Go.RowKit Go.Shelf
attribute [local go_sem] Oper.semAt_some

/-- Block B is these cells. -/
def Blk (W : World) (B : Nat) (cs : Array Value) (t : TypeId) : Prop := W.heap[B]? = some (.cells cs t (0, 0))
theorem Blk.lt {W : World} {B : Nat} {cs : Array Value} {t : TypeId} (h : Blk W B cs t) : B < W.heap.size := (Array.getElem?_eq_some_iff.1 h).1
theorem Blk.new (W : World) (t : TypeId) (cs : Array Value) : Blk (W.alloc (.cells cs t)) W.heap.size cs t := World.alloc_heap_new W _
theorem Blk.kept {W W' : World} {row : Option Nat} {B : Nat} {cs : Array Value} {t : TypeId} (h : Blk W B cs t) (hg : W.grownBy W' row) (hne : some B ≠ row) : Blk W' B cs t := (hg.block B h.lt hne).trans h
theorem Blk.alloc {W : World} {B : Nat} {cs : Array Value} {t : TypeId} (h : Blk W B cs t) (o : Obj) : Blk (W.alloc o) B cs t := h.kept (World.grownBy_alloc W o none) (by simp)
theorem blk_own {β : Type} (B : Nat) (t : TypeId) (f : β → Array Value) : Go.Own (fun s W => Blk W B (f s) t) := fun s X Y row hs hg hrow =>
  hs.kept hg (fun e' => by obtain ⟨o, ho, hc⟩ := hrow B e'.symm; rw [show X.heap[B]? = _ from hs] at ho; cases ho; cases hc)
theorem Blk.read {W : World} {B n : Nat} {cs : Array Value} {t : TypeId} (h : Blk W B cs t) (hn : cs.size = n) : readAt W B 0 n = some cs := by
  subst hn
  simp [readAt, show W.heap[B]? = _ from h]
theorem Blk.can {W : World} {B n : Nat} {cs : Array Value} {t : TypeId} (h : Blk W B cs t) (hn : cs.size = n) : canAt W B 0 n = true := by
  subst hn
  simp [canAt, show W.heap[B]? = _ from h]
theorem Blk.put {W : World} {B : Nat} {cs ds : Array Value} {t : TypeId} (h : Blk W B cs t) (hs : ds.size = cs.size) : Blk (setAt W B 0 ds) B ds t := by
  show _ = _
  rw [setAt_heap h, putAt_full _ _ hs]
theorem Blk.other {W : World} {B B' o : Nat} {cs ds : Array Value} {t : TypeId} (h : Blk W B cs t) (hne : B ≠ B') : Blk (setAt W B' o ds) B cs t := by
  show _ = _
  rw [setAt_other W B' o ds B hne]; exact h
theorem keeps_setAt (W : World) (b o : Nat) (cs : Array Value) : KeepsOthers W (setAt W b o cs) :=
  ⟨by simp, fun k ob hk hc => by
    by_cases e : k = b
    · subst e
      unfold setAt
      split
      · rename_i c t fr hb
        rw [hb] at hk; cases hk; cases hc
      · exact hk
    · rw [setAt_other W b o cs k e]; exact hk⟩

/-- The data of the last write to a sector. -/
def lastM (W : List (Int × Sec)) (a : Int) : Option Sec := W.foldl (fun acc p => if p.1 = a then some p.2 else acc) none
theorem lastM_snoc (W : List (Int × Sec)) (p : Int × Sec) (a : Int) : lastM (W ++ [p]) a = if p.1 = a then some p.2 else lastM W a := by simp [lastM]
theorem snoc_ind {α : Type} {m : List α → Prop} (h0 : m []) (h1 : ∀ l a, m l → m (l ++ [a])) (l : List α) : m l := by
  rw [← List.reverse_reverse l]
  induction l.reverse with
  | nil => exact h0
  | cons a l ih => rw [List.reverse_cons]; exact h1 _ _ ih
theorem lastM_none (W : List (Int × Sec)) (a : Int) (h : ∀ i, i < W.length → (W.getD i (0, zsec)).1 ≠ a) : lastM W a = none := by
  induction W using snoc_ind with
  | h0 => rfl
  | h1 W p ih =>
    rw [lastM_snoc, ih (fun i hi => by have := h i (by simp; omega); rwa [List.getD_eq_getElem?_getD, List.getElem?_append_left hi, ← List.getD_eq_getElem?_getD] at this)]
    have := h W.length (by simp)
    rw [List.getD_eq_getElem?_getD, List.getElem?_concat_length] at this
    rw [if_neg (by simpa using this)]
theorem lastM_some (W : List (Int × Sec)) (a : Int) (j : Nat) (hj : j < W.length) (he : (W.getD j (0, zsec)).1 = a) (h : ∀ i, j < i → i < W.length → (W.getD i (0, zsec)).1 ≠ a) : lastM W a = some (W.getD j (0, zsec)).2 := by
  induction W using snoc_ind with
  | h0 => simp at hj
  | h1 W p ih =>
    rw [lastM_snoc]
    by_cases e : j = W.length
    · subst e
      simp only [List.getD_eq_getElem?_getD, List.getElem?_concat_length, Option.getD_some] at he ⊢
      rw [if_pos he]
    · have hj2 : j < W.length := by simp at hj; omega
      have h1 := h W.length (by omega) (by simp)
      simp only [List.getD_eq_getElem?_getD, List.getElem?_concat_length, Option.getD_some] at h1
      rw [if_neg h1]
      have e2 : (W ++ [p]).getD j (0, zsec) = W.getD j (0, zsec) := by simp only [List.getD_eq_getElem?_getD, List.getElem?_append_left hj2]
      rw [e2] at he ⊢
      refine ih hj2 he (fun i h2 h3 => ?_)
      have := h i h2 (by simp; omega)
      rwa [List.getD_eq_getElem?_getD, List.getElem?_append_left h3, ← List.getD_eq_getElem?_getD] at this

theorem Blk.boxed {W : World} {B : Nat} {v : Value} {t : TypeId} (h : Blk W B #[v] t) : Boxed W B t v := h
theorem Blk.setOther {W : World} {B B' : Nat} {cs : Array Value} {t : TypeId} (h : Blk W B cs t) (hne : B ≠ B') (u : Value) : Blk (W.setCell ⟨B', 0, none⟩ u) B cs t := h.kept (grownBy_setCell' W B' u) (fun e => hne (by cases e; rfl))
theorem results_last (tmps : Array Value) (W : World) (a b : Nat) (z : Sec) (ok : Bool) (hp : tmps.getD 4 undef = .pointer (some ⟨a, 0, none⟩)) (hq : tmps.getD 5 undef = .pointer (some ⟨b, 0, none⟩))
    (h1 : Blk W a (av z) 22) (h2 : Blk W b #[.bool ok] 4) : (results Try.f20 tmps).run Try.prog W = .ok (.tuple #[.agg (av z), .bool ok]) W := by
  have hp' : tmps[4]?.getD undef = .pointer (some ⟨a, 0, none⟩) := by simpa using hp
  have hq' : tmps[5]?.getD undef = .pointer (some ⟨b, 0, none⟩) := by simpa using hq
  have hc := h2.boxed.cell
  simp [results, Try.f20, hp', hq', asAddr, run_loadVar_at W a 0 64 22 _ _ (h1.read (by simp)) Try.underlying22 rfl info_sec]
  simp [go_sem, hc]
theorem upto_mem {α : Type} (f : Nat → α) (k j : Nat) (h : j < k) : f j ∈ upto f k := by simp only [upto, List.mem_map, List.mem_range]; exact ⟨j, h, rfl⟩
theorem last_done (V : List (Int × Sec)) (m : Nat) (a : Int) (hV : V.length = m) (h : ∀ p ∈ upto (bk V) m, p.2.1 ≠ a) : lastM V a = none := by
  refine lastM_none V a (fun i hi => ?_)
  have := h _ (upto_mem (bk V) m (m - 1 - i) (by omega))
  simp only [bk, hV] at this
  rwa [show m - 1 - (m - 1 - i) = i by omega] at this
theorem last_stop (V : List (Int × Sec)) (m k : Nat) (a : Int) (ini : List El) (last : El) (hV : V.length = m) (hk : k ≤ m) (e1 : upto (bk V) k = ini ++ [last]) (e2 : ∀ p ∈ ini, p.2.1 ≠ a) (e3 : last.2.1 = a) : lastM V a = some last.2.2 := by
  obtain ⟨k', rfl⟩ : ∃ k', k = k' + 1 := by
    cases k with
    | zero => simp [upto] at e1
    | succ k' => exact ⟨k', rfl⟩
  rw [upto_succ] at e1
  obtain ⟨rfl, e5⟩ := List.append_inj' e1 rfl
  obtain rfl : bk V k' = last := by simpa using e5
  have := lastM_some V a (m - 1 - k') (by omega) (by simpa [bk, hV] using e3) (fun i h1 h2 => by
    have := e2 _ (upto_mem (bk V) k' (m - 1 - i) (by omega))
    simp only [bk, hV] at this
    rwa [show m - 1 - (m - 1 - i) = i by omega] at this)
  rw [this]
  simp [bk, hV]

set_option maxRecDepth 100000 in
set_option maxHeartbeats 4000000 in
theorem last_in (F : Fence) (n : Nat) (h3 : F.fn 20) (h5 : F.fn 25) (h6 : F.fn 27) (hro : F.round = none) (hn : 4 ≤ n) (ad : Option Addr) (m c : Nat) (V : List (Int × Sec)) (at_ : Int) (w : World)
    (hV : V.length = m) (hm : m ≤ 100000) (hr : RdS w (.slice ad m c) m 65 (flat wp2 V)) (hlow : ∀ a, ad = some a → a.block < w.heap.size) :
    CallsIn F n Try.prog 20 #[.slice ad m c, .int .i64 at_] w fun e W' => e = .returned (.tuple #[.agg (av ((lastM V at_).getD zsec)), .bool (lastM V at_).isSome]) ∧ Below w.heap.size w W' := by
  have h1 : 1 ≤ n := by omega
  have HV := Lib.hid hV
  have Hr := Lib.hid hr
  have Hlow := Lib.hid hlow
  clear hV hr hlow
  refine callsIn_of_wp_marks Try.func20 rfl h3 ?_ hro
  simp only [Try.ntmps20, List.size_toArray, List.length_cons, List.length_nil, Nat.reduceAdd, Nat.reduceSub, Array.replicate_succ, Array.replicate_zero, List.push_toArray, List.append_toArray, List.nil_append, List.cons_append]
  gi_wp2_with (gi_at_call 25; refine (back_in F (n - 1) h5 hro _ _ _ _).mono ?_; rintro e w' ⟨rfl, rfl⟩)
  have b0 := (((Blk.new w 3 #[.int .i64 at_]).alloc (.cells (av zsec) 22)).alloc (.cells #[.bool false] 4)).alloc (.cells #[.slice ad m c] 35)
  have b1 := ((Blk.new (w.alloc (.cells #[.int .i64 at_] 3)) 22 (av zsec)).alloc (.cells #[.bool false] 4)).alloc (.cells #[.slice ad m c] 35)
  have b2 := (Blk.new ((w.alloc (.cells #[.int .i64 at_] 3)).alloc (.cells (av zsec) 22)) 4 #[.bool false]).alloc (.cells #[.slice ad m c] 35)
  have b3 := Blk.new (((w.alloc (.cells #[.int .i64 at_] 3)).alloc (.cells (av zsec) 22)).alloc (.cells #[.bool false] 4)) 35 #[.slice ad m c]
  have hB0 : Below w.heap.size w ((((w.alloc (.cells #[.int .i64 at_] 3)).alloc (.cells (av zsec) 22)).alloc (.cells #[.bool false] 4)).alloc (.cells #[.slice ad m c] 35)) := (((((Below.refl _ w).alloc (Nat.le_refl _) _).alloc (by simp) _).alloc (by simp; omega) _).alloc (by simp; omega) _)
  simp only [World.size_alloc] at b1 b2 b3
  have hsz : ((((w.alloc (.cells #[.int .i64 at_] 3)).alloc (.cells (av zsec) 22)).alloc (.cells #[.bool false] 4)).alloc (.cells #[.slice ad m c] 35)).heap.size = w.heap.size + 4 := by simp
  obtain ⟨W0, hW0⟩ : ∃ W0, (((w.alloc (.cells #[.int .i64 at_] 3)).alloc (.cells (av zsec) 22)).alloc (.cells #[.bool false] 4)).alloc (.cells #[.slice ad m c] 35) = W0 := ⟨_, rfl⟩
  rw [hW0] at b0 b1 b2 b3 hB0 hsz ⊢
  clear hW0
  have c3 : W0.cell? ⟨w.heap.size + 1 + 1 + 1, 0, none⟩ = some (.slice ad m c) := readAt_cell (b3.read (n := 1) rfl) 0 _ rfl
  refine wpIn_rangeFunc_ownH hro h1 (gf := 27) (lb := #[.pointer (some ⟨w.heap.size + 1 + 1 + 1, 0, none⟩)]) rfl h6 (enters_of Try.func27 (by kernel_rfl) rfl)
    (back_stops F (n - 1) h6 hro (by omega) (w.heap.size + 1 + 1 + 1) w.heap.size ad m c V HV.out hm W0 (by omega) (by omega) c3 (Hr.out.below hB0) Hlow.out) kpB_t (kpB_b (by omega)) (Below.refl _ _) (fun _ => rfl)
    (fun pre W => (((Blk W w.heap.size #[.int .i64 at_] 3 ∧ Blk W (w.heap.size + 1) (av zsec) 22) ∧ (Blk W (w.heap.size + 1 + 1) #[.bool false] 4 ∧ Blk W (w.heap.size + 1 + 1 + 1) #[.slice ad m c] 35)) ∧ ∀ p ∈ pre, p.2.1 ≠ at_) ∧ Below w.heap.size w W)
    (fun co pre W => (∃ ini last, (co = .ret ∧ pre = ini ++ [last] ∧ (∀ p ∈ ini, p.2.1 ≠ at_) ∧ last.2.1 = at_) ∧ Blk W (w.heap.size + 1) (av last.2.2) 22 ∧ Blk W (w.heap.size + 1 + 1) #[.bool true] 4) ∧ Below w.heap.size w W)
    (OwnFrom.and (OwnFrom.and (OwnFrom.and (OwnFrom.and (Own.from (blk_own _ _ _) _) (Own.from (blk_own _ _ _) _)) (OwnFrom.and (Own.from (blk_own _ _ _) _) (Own.from (blk_own _ _ _) _))) (ownFrom_pure _ _)) (ownFrom_below (Nat.le_refl _) (by omega)))
    (fun co => OwnFrom.and (fun s A B row hs hg hr => by
      obtain ⟨ini, last, e, k1, k2⟩ := hs
      exact ⟨ini, last, e, blk_own _ _ (fun (_ : Unit) => av last.2.2) () A B row k1 hg (fun r e => (hr r e).2), blk_own _ _ (fun (_ : Unit) => #[.bool true]) () A B row k2 hg (fun r e => (hr r e).2)⟩) (ownFrom_below (Nat.le_refl _) (by omega)))
    ⟨⟨⟨⟨b0, b1⟩, b2, b3⟩, by simp⟩, hB0⟩
    (fun x a' W => ∃ Bx, w.heap.size + 1 + 1 + 1 < Bx ∧ Blk W Bx (wv x.2.1 x.2.2) 42 ∧ a' = { tmps := #[.slice ad m c, .int .i64 at_, undef, .pointer (some ⟨w.heap.size, 0, none⟩), .pointer (some ⟨w.heap.size + 1, 0, none⟩), .pointer (some ⟨w.heap.size + 1 + 1, 0, none⟩), undef, .pointer (some ⟨Bx, 0, none⟩), .slice ad m c, .func (.func 27) #[] #[.pointer (some ⟨w.heap.size + 1 + 1 + 1, 0, none⟩)], .int .i64 (x.1 : Int), .agg (wv x.2.1 x.2.2), undef, undef, undef, undef, undef, undef, undef], defers := [] })
    (fun x a' _ X Y row hs hg hr => by obtain ⟨Bx, h1, h2, h3⟩ := hs; exact ⟨Bx, h1, blk_own Bx 42 (fun (_ : Unit) => wv x.2.1 x.2.2) () X Y row h2 hg (fun r e => (hr r e).2), h3⟩)
    ?assign ?body ?done ?stop
  case assign =>
    rintro l pre ⟨ix, x, dx⟩ W K ⟨⟨⟨⟨k0, k1⟩, k2, k3⟩, hp⟩, hB1⟩ hK
    simp only [enc]
    gi_wp2
    exact hK _ _ ((KeepsOthers.alloc _ _).from _) ⟨(Below.refl _ W).alloc hB1.size _, fun v hv => cell_kept hv (World.grownBy_alloc W _ none) (fun r e => by cases e)⟩ ⟨⟨⟨⟨k0.alloc _, k1.alloc _⟩, k2.alloc _, k3.alloc _⟩, hp⟩, hB1.alloc hB1.size _⟩ ⟨W.heap.size, k3.lt, Blk.new W _ _, rfl⟩
  case body =>
    rintro l pre ⟨ix, x, dx⟩ a' W hl ⟨r, hr⟩ ⟨⟨⟨⟨k0, k1⟩, k2, k3⟩, hp⟩, hB1⟩ ⟨Bx, hBx, bX, rfl⟩ hlt
    simp only at bX ⊢
    have hrx := bX.read (n := 65) (by simp)
    have hcx := readAt_cell hrx 0 _ (wv_at _ _)
    rw [Nat.add_zero] at hcx
    have hdx : readAt W Bx 1 64 = some (av dx) := by rw [readAt_sub hrx 1 64 (by omega) (by omega)]; exact congrArg some (wv_data _ _)
    have ca : W.cell? ⟨w.heap.size, 0, none⟩ = some (.int .i64 at_) := k0.boxed.cell
    have can1 := k1.can (n := 64) (by simp)
    have q1 : Blk (setAt W (w.heap.size + 1) 0 (av dx)) (w.heap.size + 1) (av dx) 22 := k1.put (by simp)
    have q2 : Blk (setAt W (w.heap.size + 1) 0 (av dx)) (w.heap.size + 1 + 1) #[.bool false] 4 := k2.other (by omega)
    have cb := q2.boxed.cell
    have fb := q2.boxed.frozen
    by_cases hx : x = at_
    · subst hx
      gi_wp2
      exact ⟨((keeps_setAt _ _ _ _).trans (KeepsOthers.setCell _ _ _)).from _, ⟨pre, (ix, x, dx), ⟨rfl, rfl, hp, rfl⟩, q1.setOther (by omega) _, q2.boxed.set _⟩, (setAt_below hB1 (by omega) _ _).setCell (p := ⟨w.heap.size + 1 + 1, 0, none⟩) (by simp; omega) _⟩
    · have hxB : (x == at_) = false := by simpa using hx
      have Hx := Lib.hid hx
      clear hx
      gi_wp2
      exact ⟨KeepsFrom.refl _ _, KpB.refl _ _ _, ⟨⟨⟨k0, k1⟩, k2, k3⟩, fun p hp' => (List.mem_append.1 hp').elim (hp p) (fun e => by simp at e; subst e; exact Hx.out)⟩, hB1⟩
  case done =>
    rintro D ys W hD rfl ⟨⟨⟨⟨k0, k1⟩, k2, k3⟩, hp⟩, hB1⟩ hK
    have can1 := k1.can (n := 64) (by simp)
    have q1 : Blk (setAt W (w.heap.size + 1) 0 (av zsec)) (w.heap.size + 1) (av zsec) 22 := k1.put (by simp)
    have q2 : Blk (setAt W (w.heap.size + 1) 0 (av zsec)) (w.heap.size + 1 + 1) #[.bool false] 4 := k2.other (by omega)
    have cb := q2.boxed.cell
    have fb := q2.boxed.frozen
    have hK1 := (keeps_setAt W (w.heap.size + 1) 0 (av zsec)).same D _ hK rfl
    have hK2 := (KeepsOthers.setCell (setAt W (w.heap.size + 1) 0 (av zsec)) ⟨w.heap.size + 1 + 1, 0, none⟩ (.bool false)).same D _ hK1 rfl
    have hl := last_done V m at_ HV.out hp
    have Hl := Lib.hid hl
    clear hl
    gi_wp2
    rw [Hl.out]
    refine ⟨by simp, .inl ⟨_, _, rfl, run_takeDeferred hK2, ?_⟩⟩
    have r1 : Blk _ (w.heap.size + 1) (av zsec) 22 := (q1.setOther (show w.heap.size + 1 ≠ w.heap.size + 1 + 1 by omega) (.bool false)).kept (grownBy_putObj' _ D (.deferred none)) (fun e => by simp at e; omega)
    have r2 : Blk _ (w.heap.size + 1 + 1) #[.bool false] 4 := Blk.kept (q2.boxed.set (.bool false)) (grownBy_putObj' _ D (.deferred none)) (fun e => by simp at e; omega)
    exact ⟨_, results_last _ _ _ _ zsec false rfl rfl r1 r2, rfl, ((setAt_below hB1 (by omega) _ _).setCell (p := ⟨w.heap.size + 1 + 1, 0, none⟩) (by simp; omega) _).trans (belowK_b (w := w) (Nat.le_refl _) _ D _ _ (by omega) hK2 rfl rfl)⟩
  case stop =>
    rintro D co pre W hD ⟨k, hk, rfl⟩ ⟨⟨ini, last, ⟨rfl, e1, e2, e3⟩, k1, k2⟩, hB1⟩ hK
    have hl := last_stop V m k at_ ini last HV.out hk e1 e2 e3
    have Hl := Lib.hid hl
    clear hl
    gi_wp2
    rw [Hl.out]
    refine ⟨by simp, .inl ⟨_, _, rfl, run_takeDeferred hK, ?_⟩⟩
    have r1 : Blk _ (w.heap.size + 1) (av last.2.2) 22 := k1.kept (grownBy_putObj' _ D (.deferred none)) (fun e => by simp at e; omega)
    have r2 : Blk _ (w.heap.size + 1 + 1) #[.bool true] 4 := k2.kept (grownBy_putObj' _ D (.deferred none)) (fun e => by simp at e; omega)
    exact ⟨_, results_last _ _ _ _ last.2.2 true rfl rfl r1 r2, rfl, hB1.trans (belowK_b (w := w) (Nat.le_refl _) W D _ _ (by omega) hK rfl rfl)⟩

theorem last_any (ad : Option Addr) (m c : Nat) (V : List (Int × Sec)) (at_ : Int) (w : World)
    (hV : V.length = m) (hm : m ≤ 100000) (hr : RdS w (.slice ad m c) m 65 (flat wp2 V)) (hlow : ∀ a, ad = some a → a.block < w.heap.size) :
    Calls Try.prog 20 #[.slice ad m c, .int .i64 at_] w fun e W' => e = .returned (.tuple #[.agg (av ((lastM V at_).getD zsec)), .bool (lastM V at_).isSome]) ∧ Below w.heap.size w W' :=
  callsIn_wide.1 (last_in Fence.wide 4 trivial trivial trivial rfl (Nat.le_refl _) ad m c V at_ w hV hm hr hlow)
end Go.Proofs.Ytemjeppneahgeaa
