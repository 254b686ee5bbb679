/- The operations of the laws in memory, and what few computes. Conditions: the slice reads as the operations. -/
import Derived.Test.YtjedlcfeobhjnaaDAw
set_option linter.unusedSimpArgs false
set_option linter.unusedVariables false
namespace Go.Proofs.Ytjedlcfeobhjnaa
open Go.RowKit Go.ChangeMaps

structure OpM where
  kind : Int
  at_ : Int
  byte : UInt8
  cuts : List Int
/-- The cells of an operation. -/
def oc (q : OpM × Value) : Array Value := #[.int .i64 q.1.kind, .int .i64 q.1.at_, .int .u8 (q.1.byte.toNat : Int), q.2]
@[simp] theorem size_oc (q : OpM × Value) : (oc q).size = 4 := rfl
structure OpOk (w : World) (q : OpM × Value) : Prop where
  k : I64 q.1.kind
  a : I64 q.1.at_
  c : RdS w q.2 q.1.cuts.length 1 (q.1.cuts.map (Value.int .i64))
  i : ∀ x, x ∈ q.1.cuts → I64 x
structure OpsR (w : World) (v : Value) (L : List (OpM × Value)) : Prop where
  r : RdS w v L.length 4 (flat oc L)
  o : ∀ q, q ∈ L → OpOk w q
theorem OpsR.below {w w' : World} {v : Value} {L : List (OpM × Value)} (h : OpsR w v L) (hb : Below w.heap.size w w') : OpsR w' v L := ⟨h.r.below hb, fun q hq => ⟨(h.o q hq).k, (h.o q hq).a, (h.o q hq).c.below hb, (h.o q hq).i⟩⟩
/-- The cells of one of them. -/
theorem OpsR.cell {w : World} {v : Value} {L : List (OpM × Value)} (h : OpsR w v L) (k : Nat) (hk : k < L.length) : ∃ b o c ad cap, v = .slice (some ⟨b, o, none⟩) L.length c ∧ L.length ≤ c ∧ c ≤ maxLen ∧ readAt w b (o + k * 4) 4 = some (oc L[k]) ∧ (L[k]).2 = .slice ad (L[k]).1.cuts.length cap := by
  obtain ⟨b, o, c, hv, h1, h2, hr⟩ := h.r.at k hk
  rw [flat_get oc 4 size_oc L k hk] at hr
  obtain ⟨ad, cap, e, _⟩ := (h.o _ (List.getElem_mem hk)).c
  exact ⟨b, o, c, ad, cap, hv, h1, h2, hr, e⟩
def okO (q : OpM) : Bool := !decide (20 < q.cuts.length) && !decide (1048576 < q.at_) && !decide (q.at_ < -1048576)
def fewB (L : List (OpM × Value)) : Bool := L.all (fun q => okO q.1) && decide (L.length ≤ 100)

set_option maxRecDepth 100000 in
set_option maxHeartbeats 1600000 in
theorem few_any (v : Value) (L : List (OpM × Value)) (w : World) (h : OpsR w v L) :
    Calls Try.prog 9 #[v] w fun e w' => e = .returned (.bool (fewB L)) ∧ w = w' := by
  obtain ⟨ad, cap, rfl, hcap, hmax, _⟩ := h.r
  have hlen : L.length ≤ 9223372036854775807 := by unfold maxLen at hmax; omega
  have H := Lib.hid h
  clear h hcap hmax
  go_enter Try.func9, Try.ntmps9
  go_wp2_with fail
  go_loop [3] (fun i => ∃ k : Nat, k ≤ L.length ∧ i = .int .i64 k ∧ ∀ j q, j < k → L[j]? = some q → okO q.1 = true) (fun i => L.length - (intOf i).toNat)
  case atStart => exact ⟨0, Nat.zero_le _, rfl, fun j q hj => absurd hj (by omega)⟩
  case round =>
    obtain ⟨k, hk, rfl, hok⟩ := hrel
    have Hok := Lib.hid hok
    clear hok
    by_cases hlt : k < L.length
    · obtain ⟨q, hq⟩ : ∃ q, L[k]'hlt = q := ⟨_, rfl⟩
      obtain ⟨b, o, c, ad2, cap2, hv, _, _, hr, he⟩ := H.out.cell k hlt
      simp only [Value.slice.injEq, true_and] at hv
      obtain ⟨rfl, rfl⟩ := hv
      rw [hq] at hr he
      have e1 : w.cell? ⟨b, o + k * 4 + 1, none⟩ = some (.int .i64 q.1.at_) := readAt_cell hr 1 _ rfl
      have e3 : w.cell? ⟨b, o + k * 4 + 3, none⟩ = some (.slice ad2 q.1.cuts.length cap2) := by rw [← he]; exact readAt_cell hr 3 _ rfl
      have hk0 : (0 : Int) ≤ (k : Int) := by omega
      have hk1 : (k : Int) < (L.length : Int) := by omega
      have Hq : Hid (L[k]? = some q) := by show _ = _; rw [List.getElem?_eq_getElem hlt, hq]
      have hb : okO q.1 = (!decide (20 < q.1.cuts.length) && !decide (1048576 < q.1.at_) && !decide (q.1.at_ < -1048576)) := rfl
      have Hb := Lib.hid hb
      have hno : okO q.1 = false → fewB L = false := fun h0 => by
        unfold fewB
        have : L.all (fun q => okO q.1) = false := by
          rw [List.all_eq_false]
          exact ⟨q, List.mem_of_getElem? Hq.out, by rw [h0]; decide⟩
        rw [this]; rfl
      have Hno := Lib.hid hno
      clear hr he hq hb hno
      by_cases c1 : 20 < q.1.cuts.length
      · have d1 : decide ((20 : Int) < (q.1.cuts.length : Int)) = true := decide_eq_true (by omega)
        have hf := Hno.out (by rw [Hb.out, decide_eq_true c1]; rfl)
        have Hf := Lib.hid hf
        clear hf
        go_wp2
        go_ret
        exact ⟨by rw [Hf.out]; rfl, rfl⟩
      · have d1 : decide ((20 : Int) < (q.1.cuts.length : Int)) = false := decide_eq_false (by omega)
        by_cases c2 : 1048576 < q.1.at_
        · have d2 : decide ((1048576 : Int) < q.1.at_) = true := by simpa using c2
          have hf := Hno.out (by rw [Hb.out, decide_eq_true c2]; simp)
          have Hf := Lib.hid hf
          clear hf c1
          go_wp2
          go_ret
          exact ⟨by rw [Hf.out]; rfl, rfl⟩
        · have d2 : decide ((1048576 : Int) < q.1.at_) = false := by simpa using c2
          by_cases c3 : q.1.at_ < -1048576
          · have d3 : decide (q.1.at_ < (-1048576 : Int)) = true := by simpa using c3
            have hf := Hno.out (by rw [Hb.out, decide_eq_true c3]; simp)
            have Hf := Lib.hid hf
            clear hf c1 c2
            go_wp2
            go_ret
            exact ⟨by rw [Hf.out]; rfl, rfl⟩
          · have d3 : decide (q.1.at_ < (-1048576 : Int)) = false := by simpa using c3
            have HY : Hid (okO q.1 = true) := by show _ = _; rw [Hb.out, decide_eq_false c1, decide_eq_false c2, decide_eq_false c3]; rfl
            clear c1 c2 c3
            go_wp2
            go_round
            case rel =>
              refine ⟨k + 1, by omega, by go_num, fun j q' hj hq' => ?_⟩
              by_cases e : j = k
              · subst e
                rw [Hq.out] at hq'; cases hq'
                exact HY.out
              · exact Hok.out j q' (by omega) hq'
            case measure => simp [intOf]; omega
    · obtain rfl : k = L.length := by omega
      have hall : L.all (fun q => okO q.1) = true := by
        rw [List.all_eq_true]
        intro q hq
        obtain ⟨j, hj⟩ := List.mem_iff_getElem?.1 hq
        exact Hok.out j q (List.getElem?_eq_some_iff.1 hj).1 hj
      have HF : Hid (fewB L = decide (L.length ≤ 100)) := by unfold Hid fewB; rw [hall]; rfl
      clear hall
      go_wp2
      all_goals
        go_ret
        exact ⟨by rw [HF.out]; first | rfl | (simp; omega), rfl⟩
end Go.Proofs.Ytjedlcfeobhjnaa
