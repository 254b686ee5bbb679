/- What Parse of package frame computes. No conditions. (Printed by genfr4.py.) -/
import Derived.Test.YtlonmghkdobhdaaFr3
import Derived.WalkMore
import Derived.ScopeJumps
set_option linter.unusedSimpArgs false
set_option linter.unusedVariables false
namespace Go.Proofs.Ytlonmghkdobhdaa
open Go.RowKit

def ParseYes (x : Sec) (base : Nat) (e : Ending) (w' : World) : Prop := ∃ v, e = .returned (.tuple #[.int .u32 (tagOf x : Nat), v, .bool true]) ∧ ByOwn w' base v (payOf x)
def ParseYesN (x : Sec) (base : Nat) (e : Ending) (w' : World) : Prop := ∃ v, e = .returned (.tuple #[.int .u32 (tagOf x : Nat), v, .bool true]) ∧ ByOwn w' base v (payOf x) ∧ NotNil v
def ParseOutN (x : Sec) (base : Nat) (e : Ending) (w' : World) : Prop := if okF x = true then ParseYesN x base e w' else e = .returned (.tuple #[.int .u32 0, .slice none 0 0, .bool false])
theorem ParseOutN.yes {x : Sec} {base : Nat} {e : Ending} {w' : World} (h : ParseOutN x base e w') (hk : okF x = true) : ParseYesN x base e w' := by unfold ParseOutN at h; rwa [if_pos hk] at h
theorem ParseOutN.no {x : Sec} {base : Nat} {e : Ending} {w' : World} (h : ParseOutN x base e w') (hk : okF x = false) : e = .returned (.tuple #[.int .u32 0, .slice none 0 0, .bool false]) := by unfold ParseOutN at h; rwa [if_neg (by rw [hk]; simp)] at h
def ParseOut (x : Sec) (base : Nat) (e : Ending) (w' : World) : Prop := if okF x = true then ParseYes x base e w' else e = .returned (.tuple #[.int .u32 0, .slice none 0 0, .bool false])
theorem ParseOut.yes {x : Sec} {base : Nat} {e : Ending} {w' : World} (h : ParseOut x base e w') (hk : okF x = true) : ParseYes x base e w' := by unfold ParseOut at h; rwa [if_pos hk] at h
theorem ParseOut.no {x : Sec} {base : Nat} {e : Ending} {w' : World} (h : ParseOut x base e w') (hk : okF x = false) : e = .returned (.tuple #[.int .u32 0, .slice none 0 0, .bool false]) := by unfold ParseOut at h; rwa [if_neg (by rw [hk]; simp)] at h

theorem ByOwn.only {w w' : World} {base B : Nat} {v : Value} {l : List UInt8} (h : ByOwn w base v l) (ho : OnlyB B w w') (hB : B < base) : ByOwn w' base v l := by
  refine ⟨h.1, ?_⟩
  rcases h.2 with hn | ⟨g, cap, cur, hv, hbg, hg, rest⟩
  · exact .inl hn
  · exact .inr ⟨g, cap, cur, hv, hbg, by rw [ho.block g (by omega)]; exact hg, rest⟩
theorem Rdr.only {w w' : World} {B : Nat} {l : List UInt8} (h : Rdr w B l) : B < w.heap.size := h.lt
theorem two_A (w6 : World) (bx : Nat) (x : Sec) (h : readAt w6 bx 0 64 = some (av x)) : Ps (w6.alloc (.cells #[.slice (some ⟨bx, 0, none⟩) 56 64, .slice (some ⟨bx, 60, none⟩) 4 4] 23)) (some ⟨w6.heap.size, 0, none⟩) 2 2 [(sl x).take 56, (sl x).drop 60] := by
  have hb := ba (.cells #[.slice (some ⟨bx, 0, none⟩) 56 64, .slice (some ⟨bx, 60, none⟩) 4 4] 23) (Below.refl w6.heap.size w6)
  have h1 := (sec_bs h 0 56 64 (by omega) (by omega) (by omega)).below hb
  have h2 := (sec_bs h 60 4 4 (by omega) (by omega) (by omega)).below hb
  rw [List.drop_zero] at h1
  rw [List.take_of_length_le (l := (sl x).drop 60) (by simp)] at h2
  exact Ps.two (by simp [go_sem]) h1 h2
theorem two_B (w5 w6 : World) (bx B : Nat) (x : Sec) (ho : OnlyB B (w5.alloc (.cells #[.slice (some ⟨bx, 0, none⟩) 56 64, .slice (some ⟨bx, 60, none⟩) 4 4] 23)).drew w6) (hB : B < w5.heap.size) (hbx : bx ≠ B) (h : readAt w5 bx 0 64 = some (av x)) : Ps w6 (some ⟨w5.heap.size, 0, none⟩) 2 2 [(sl x).take 56, (sl x).drop 60] := by
  have hb := (ba (.cells #[.slice (some ⟨bx, 0, none⟩) 56 64, .slice (some ⟨bx, 60, none⟩) 4 4] 23) (Below.refl w5.heap.size w5)).drew
  have h1 := (sec_bs h 0 56 64 (by omega) (by omega) (by omega)).below hb
  have h2 := (sec_bs h 60 4 4 (by omega) (by omega) (by omega)).below hb
  rw [List.drop_zero] at h1
  rw [List.take_of_length_le (l := (sl x).drop 60) (by simp)] at h2
  have h3 := ho.bs (by omega) h1
  have h4 := ho.bs (by omega) h2
  refine Ps.two ?_ h3 h4
  rw [ho.readAt _ _ _ (by omega)]
  simp [go_sem]

theorem bnot_t {b : Bool} (h : true = !b) : b = false := by cases b; rfl; cases h
theorem bnot_f {b : Bool} (h : false = !b) : b = true := by cases b; cases h; rfl
theorem cons_of {α : Type} {l : List α} {n : Nat} (h : l.length = n + 1) : ∃ a m, l = a :: m ∧ m.length = n := by
  cases l with
  | nil => simp at h
  | cons a m => exact ⟨a, m, rfl, by simpa using h⟩
theorem nb_lt16 (l : List UInt8) (h : l.length ≤ 2) : nb l < 65536 := by
  have h1 := nb_lt l
  have h2 : (256 : Nat) ^ l.length ≤ 256 ^ 2 := Nat.pow_le_pow_right (by omega) h
  have h3 : (256 : Nat) ^ 2 = 65536 := by decide
  omega
theorem nb_lt32 (l : List UInt8) (h : l.length ≤ 4) : nb l < 4294967296 := by
  have h1 := nb_lt l
  have h2 : (256 : Nat) ^ l.length ≤ 256 ^ 4 := Nat.pow_le_pow_right (by omega) h
  have h3 : (256 : Nat) ^ 4 = 4294967296 := by decide
  omega

set_option maxRecDepth 100000 in
set_option maxHeartbeats 6400000 in
theorem fparse_nn (x : Sec) (w : World) :
    Calls Try.prog 10 #[.agg (av x)] w fun e w' => ParseOutN x w.heap.size e w' ∧ Below w.heap.size w w' := by
  obtain ⟨w0, hw0⟩ : ∃ w0, w.alloc (.cells (av x) 25) = w0 := ⟨_, rfl⟩
  have hr0 : readAt w0 w.heap.size 0 64 = some (av x) := by rw [← hw0]; simp [go_sem]
  have hB0 : Below w.heap.size w w0 := by rw [← hw0]; exact ba _ (Below.refl _ _)
  have hsz0 : w0.heap.size = w.heap.size + 1 := by rw [← hw0]; simp
  have Hr0 := Lib.hid hr0
  have HB0 := Lib.hid hB0
  have Hsz0 := Lib.hid hsz0
  have hlt0 : w.heap.size < w0.heap.size := by omega
  have hs0 := sec_bs hr0 0 64 64 (by omega) (by omega) (by omega)
  rw [List.drop_zero, List.take_of_length_le (by simp)] at hs0
  have Hs0 := Lib.hid hs0
  clear hr0 hB0 hsz0 hs0
  go_enter Try.func10, Try.ntmps10
  go_wp2
  refine wp_scope_jumps 0 (fun a' w' => okF x = false ∧ Below w.heap.size w w' ∧ ∃ t : Array Value, a' = { tmps := t, defers := [] } ∧ t.size = 44) (fun _ _ => 0) rfl ?_ ?_
  · go_wp2_with fail
    refine (new_any _ 64 64 (sl x) _ Hs0.out (by omega)).mono ?_
    rintro _ w1 ⟨⟨B, hB, rfl, hrd⟩, hb1⟩
    have HB := Lib.hid hB
    have Hrd1 := Lib.hid hrd
    have Hb1 := Lib.hid hb1
    clear hrd hb1 hw0 hB
    go_wp2_with fail
    refine (Number_ok B (sl x) 2 _ Hrd1.out (by omega) (by omega) (by simp)).mono ?_
    have hlen : nb ((sl x).take 2) = lenOf x := rfl
    rw [hlen]
    rintro _ w2 ⟨rfl, hrd, ho⟩
    have hn16 : lenOf x < 65536 := nb_lt16 _ (by simp)
    have Hrd2 := Lib.hid hrd
    have Hb2 := Lib.hid (ho.below Hb1.out HB.out)
    obtain ⟨n, hn⟩ : ∃ n, lenOf x = n := ⟨_, rfl⟩
    rw [hn] at hn16 ⊢
    have HN := Lib.hid hn
    clear hlen hrd ho Hrd1 Hb1 hn Hs0
    by_cases h54 : 54 < n
    · have d0 : decide ((54 : Int) < (n : Int)) = true := by simp; omega
      have hno : okF x = false := by unfold okF; rw [HN.out, decide_eq_false (by omega)]; rfl
      have Hno := Lib.hid hno
      have hfin := Lib.hid (HB0.out.trans (Hb2.out.mono HB0.out.size))
      clear hno
      go_wp2
      go_step3
      exact ⟨rfl, Hno.out, hfin.out, _, rfl, rfl⟩
    · have d0 : decide ((54 : Int) < (n : Int)) = false := by simp; omega
      have hle : n ≤ 54 := by omega
      clear h54
      go_wp2_with fail
      refine (take_ok B _ n _ Hrd2.out (by simp; omega) (by omega)).mono ?_
      rintro _ w3 ⟨⟨v, rfl, hne, hown⟩, hrd, w3a, ho, hb3⟩
      have Hnn := Lib.hid hne
      have hlt2 := Hrd2.out.lt
      have Hpay : Hid (ByOwn w3 w2.heap.size v (payOf x)) := by
        show ByOwn _ _ _ _
        have : payOf x = ((sl x).drop 2).take n := by unfold payOf; rw [HN.out]
        rw [this]; exact hown
      have Hrd3 := Lib.hid hrd
      have Hb3 := Lib.hid ((ho.below Hb2.out HB.out).trans (hb3.mono (ho.below Hb2.out HB.out).size))
      have hsz3 : w2.heap.size ≤ w3.heap.size := by have := ho.size; have := hb3.size; omega
      clear hne hown hrd ho hb3 Hb2 Hrd2
      go_wp2_with fail
      rw [show (54 : Int) - (n : Int) = ((54 - n : Nat) : Int) by omega]
      refine (take_ok B _ (54 - n) _ Hrd3.out (by simp; omega) (by omega)).mono ?_
      rintro _ w4 ⟨⟨v2, rfl, hne, hown⟩, hrd, w4a, ho, hb4⟩
      have Hpay4 := Lib.hid ((Hpay.out.only ho hlt2).below hb4)
      have Hb4 := Lib.hid ((ho.below Hb3.out HB.out).trans (hb4.mono (ho.below Hb3.out HB.out).size))
      have hpad : (((sl x).drop 2).drop n).take (54 - n) = padOf x := by unfold padOf; rw [HN.out, List.drop_drop]
      have h56 : (((sl x).drop 2).drop n).drop (54 - n) = (sl x).drop 56 := by rw [List.drop_drop, List.drop_drop]; congr 1; omega
      rw [hpad] at hown
      rw [h56] at hrd
      have hsz4 : w2.heap.size ≤ w4.heap.size := by have := ho.size; have := hb4.size; omega
      have Hrd4 := Lib.hid hrd
      obtain ⟨pa, pc, rfl, hpb⟩ := hown.bs
      have Hpb := Lib.hid hpb
      have Hpl := Lib.hid hpb.1
      have hpm : (padOf x).length ≤ 100 := by unfold padOf; simp; omega
      clear hne hown hrd ho hb4 Hb3 Hrd3 Hpay hpad h56 hpb hsz3
      obtain ⟨P, hP⟩ : ∃ P, padOf x = P := ⟨_, rfl⟩
      rw [hP] at Hpb Hpl hpm ⊢
      have HP := Lib.hid hP
      clear hP
      generalize hM : P.length = M at *
      have HM := Lib.hid hM
      clear hM
      go_wp2_with fail
      go_loop [9, 25] (fun _ i => ∃ k : Nat, k ≤ M ∧ i = .int .i64 k ∧ Hid (∀ j, j < k → P.getD j 0 = 0)) (fun _ i => M - (intOf i).toNat)
      case atStart => exact ⟨0, by omega, rfl, fun j hj => absurd hj (by omega)⟩
      case round =>
        obtain ⟨k, hk, rfl, hz⟩ := hrel
        by_cases hlt : k < M
        · obtain ⟨b, o, rfl, hcell⟩ := Hpb.out.at k hlt
          by_cases hc : P.getD k 0 = 0
          · have hz2 : Hid (∀ j, j < k + 1 → P.getD j 0 = 0) := fun j hj => by
              rcases Nat.lt_or_eq_of_le (Nat.lt_succ_iff.1 hj) with h | h
              · exact hz.out j h
              · rw [h]; exact hc
            have hd : (((P.getD k 0).toNat : Int) != 0) = false := by rw [hc]; rfl
            clear hc
            generalize ((P.getD k 0).toNat : Int) = y at *
            go_wp2
            go_round
            case rel => exact ⟨k + 1, by omega, by go_num, hz2.out⟩
            case measure => simp [intOf]; omega
          · have hd : (((P.getD k 0).toNat : Int) != 0) = true := by
              rw [bne_iff_ne]; intro e; exact hc (UInt8.toNat_inj.1 (by have : (0 : UInt8).toNat = 0 := rfl; omega))
            have hno : okF x = false := by
              unfold okF
              rw [HP.out]
              have : ¬ ∀ c ∈ P, c = 0 := fun h => hc (h _ (by rw [List.getD_eq_getElem?_getD, List.getElem?_eq_getElem (by rw [HM.out]; exact hlt)]; exact List.getElem_mem _))
              rw [decide_eq_false this]; simp
            have Hno := Lib.hid hno
            have hfin := Lib.hid (HB0.out.trans (Hb4.out.mono HB0.out.size))
            clear hno hc
            generalize ((P.getD k 0).toNat : Int) = y at *
            go_wp2
            go_step3
            exact ⟨rfl, Hno.out, hfin.out, _, rfl, rfl⟩
        · obtain rfl : k = M := by omega
          have hS : sumOf x = csum ((sl x).take 56 ++ (sl x).drop 60) := rfl
          have hfl : ([(sl x).take 56, (sl x).drop 60] : List (List UInt8)).flatten = (sl x).take 56 ++ (sl x).drop 60 := by simp
          have hsto : nb (((sl x).drop 56).take 4) = stoOf x := rfl
          have hsto32 : stoOf x < 4294967296 := nb_lt32 _ (by simp)
          have hsum32 : sumOf x < 4294967296 := csum_lt _
          have hokx : okF x = decide (stoOf x = sumOf x) := by
            unfold okF
            have hall : ∀ c ∈ padOf x, c = 0 := by
              rw [HP.out]
              intro c hc
              obtain ⟨j, hj, rfl⟩ := List.getElem_of_mem hc
              have := hz.out j (by rw [← HM.out]; exact hj)
              rw [List.getD_eq_getElem?_getD, List.getElem?_eq_getElem hj] at this
              exact this
            rw [HN.out, decide_eq_true hle, decide_eq_true hall]; simp
          have hd60 : ((sl x).drop 56).drop 4 = (sl x).drop 60 := by rw [List.drop_drop]
          have htag : nb (((sl x).drop 60).take 4) = tagOf x := by rw [List.take_of_length_le (by simp)]; rfl
          have htag32 : tagOf x < 4294967296 := nb_lt32 _ (by simp)
          obtain ⟨S, hSS⟩ : ∃ S, sumOf x = S := ⟨_, rfl⟩
          obtain ⟨D, hDD⟩ : ∃ D, stoOf x = D := ⟨_, rfl⟩
          obtain ⟨G, hGG⟩ : ∃ G, tagOf x = G := ⟨_, rfl⟩
          rw [hSS] at hS hsum32 hokx
          rw [hDD] at hsto hsto32 hokx
          rw [hGG] at htag htag32
          have HS := Lib.hid hS
          have Hfl := Lib.hid hfl
          have Hsto := Lib.hid hsto
          have Hokx := Lib.hid hokx
          have Hd60 := Lib.hid hd60
          have Htag := Lib.hid htag
          have HGG := Lib.hid hGG
          have hwr : IntKind.u64.wrap (S : Int) = (S : Int) := by rw [IntKind.wrap_u64]; omega
          have hltB := Hrd4.out.lt
          have hr4 : readAt w4 w.heap.size 0 64 = some (av x) := by rw [readAt_below Hb4.out hlt0]; exact Hr0.out
          have Hr4 := Lib.hid hr4
          have hBb : w.heap.size ≠ B := by have := HB.out; omega
          have HRd : Hid (∀ W, Below w4.heap.size w4 W → Rdr W B ((sl x).drop 56)) := fun W hW => Hrd4.out.below hW
          have HRx : Hid (∀ W, Below w4.heap.size w4 W → readAt W w.heap.size 0 64 = some (av x)) := fun W hW => by rw [readAt_below hW (readAt_lt Hr4.out)]; exact Hr4.out
          clear hS hfl hsto hokx hd60 htag hSS hDD hGG hr4 Hr0 Hpb hz HM Hpl hpm HP
          have hne : ((D : Int) != (S : Int)) = true ∨ ((D : Int) != (S : Int)) = false := by cases ((D : Int) != (S : Int)) <;> simp
          have HDS : Hid (((D : Int) != (S : Int)) = !decide (D = S)) := by
            show _ = _
            by_cases h : D = S
            · subst h; simp
            · rw [decide_eq_false h]; rw [bne_iff_ne.2 (by omega)]; rfl
          go_wp2_with fail
          rcases hne with hne | hne
          all_goals
            go_region_with (first
              | (go_at_call 29; refine (Number_ok B ((sl x).drop 56) 4 _ (HRd.out _ (by first | exact (Below.refl _ _).drew | exact (ba _ (Below.refl _ _)).drew)) (by omega) (by omega) (by simp)).mono ?_; rw [Hsto.out]; rintro _ w6 ⟨rfl, hrd6, ho6⟩; have HO : Hid (∃ W1, Below w4.heap.size w4 W1 ∧ OnlyB B W1 w6) := ⟨_, by first | exact (Below.refl _ _).drew | exact (ba _ (Below.refl _ _)).drew, ho6⟩; have Hrd6 := Lib.hid hrd6; have Ho6 := Lib.hid ho6; clear hrd6 ho6)
              | (go_at_call 27; refine (sum_any _ 2 2 [(sl x).take 56, (sl x).drop 60] _ (by first | exact two_A _ _ x ((Ho6.out.readAt _ _ _ hBb).trans (HRx.out _ (Below.refl _ _).drew)) | exact two_B _ _ _ B x Ho6.out hltB hBb Hr4.out)).mono ?_; rw [Hfl.out, ← HS.out]; rintro _ w7 ⟨rfl, hb7⟩; have Hb7 : Hid (Below w6.heap.size w6 w7) := (by first | exact hb7 | exact bt (ba _ (Below.refl _ _)) hb7); clear hb7))
          all_goals
            obtain ⟨W1, hW1, hO⟩ := HO.out
            have hbA := Hb4.out.trans (hW1.mono Hb4.out.size)
            have hbB := hO.below hbA HB.out
            have HbC := Lib.hid (hbB.trans (Hb7.out.mono hbB.size))
            have hpB := (((Hpay4.out.below hW1).only hO hlt2).below Hb7.out)
            have HpC := Lib.hid hpB
            have HrC := Lib.hid (Hrd6.out.below Hb7.out)
            clear hW1 hO hbA hbB hpB HO Ho6 Hrd6
          · have hq : decide (D = S) = false := by have h := HDS.out; rw [hne] at h; exact bnot_t h
            have Hno : Hid (okF x = false) := by show _ = _; rw [Hokx.out]; exact hq
            have hfin := Lib.hid (HB0.out.trans (HbC.out.mono HB0.out.size))
            clear hq hne
            go_wp2
            go_step3
            exact ⟨rfl, Hno.out, hfin.out, _, rfl, rfl⟩
          · have hq : decide (D = S) = false := by have h := HDS.out; rw [hne] at h; exact bnot_t h
            have Hno : Hid (okF x = false) := by show _ = _; rw [Hokx.out]; exact hq
            have hfin := Lib.hid (HB0.out.trans (HbC.out.mono HB0.out.size))
            clear hq hne
            go_wp2
            go_step3
            exact ⟨rfl, Hno.out, hfin.out, _, rfl, rfl⟩
          · have hq : decide (D = S) = true := by have h := HDS.out; rw [hne] at h; exact bnot_f h
            have Hyes : Hid (okF x = true) := by show _ = _; rw [Hokx.out]; exact hq
            have hrdl := HrC.out
            rw [Hd60.out] at hrdl
            have HrD := Lib.hid hrdl
            clear hq hne hrdl
            go_wp2_with fail
            refine (Number_ok B _ 4 _ HrD.out (by omega) (by omega) (by simp)).mono ?_
            rw [Htag.out]
            rintro _ w8 ⟨rfl, _, ho8⟩
            have hfin := Lib.hid (HB0.out.trans ((ho8.below HbC.out HB.out).mono HB0.out.size))
            have hle2 : w.heap.size ≤ w2.heap.size := by have := HB.out; omega
            have hpf := Lib.hid (ownsRow_base (HpC.out.only ho8 hlt2) hle2)
            clear ho8
            go_wp2
            simp only [Exit.jump]
            go_ret3
            refine ⟨?_, hfin.out⟩
            unfold ParseOutN
            rw [if_pos Hyes.out]
            exact ⟨_, by rw [HGG.out]; rfl, hpf.out, Hnn.out⟩
          · have hq : decide (D = S) = true := by have h := HDS.out; rw [hne] at h; exact bnot_f h
            have Hyes : Hid (okF x = true) := by show _ = _; rw [Hokx.out]; exact hq
            have hrdl := HrC.out
            rw [Hd60.out] at hrdl
            have HrD := Lib.hid hrdl
            clear hq hne hrdl
            go_wp2_with fail
            refine (Number_ok B _ 4 _ HrD.out (by omega) (by omega) (by simp)).mono ?_
            rw [Htag.out]
            rintro _ w8 ⟨rfl, _, ho8⟩
            have hfin := Lib.hid (HB0.out.trans ((ho8.below HbC.out HB.out).mono HB0.out.size))
            have hle2 : w.heap.size ≤ w2.heap.size := by have := HB.out; omega
            have hpf := Lib.hid (ownsRow_base (HpC.out.only ho8 hlt2) hle2)
            clear ho8
            go_wp2
            simp only [Exit.jump]
            go_ret3
            refine ⟨?_, hfin.out⟩
            unfold ParseOutN
            rw [if_pos Hyes.out]
            exact ⟨_, by rw [HGG.out]; rfl, hpf.out, Hnn.out⟩
  · rintro a' w' ⟨hno, hb, t, rfl, ht⟩
    obtain ⟨l⟩ := t
    have hl : l.length = 44 := ht
    clear ht
    obtain ⟨u0, l0, rfl, hl0⟩ := cons_of hl
    obtain ⟨u1, l1, rfl, hl1⟩ := cons_of hl0
    obtain ⟨u2, l2, rfl, hl2⟩ := cons_of hl1
    obtain ⟨u3, l3, rfl, hl3⟩ := cons_of hl2
    obtain ⟨u4, l4, rfl, hl4⟩ := cons_of hl3
    obtain ⟨u5, l5, rfl, hl5⟩ := cons_of hl4
    obtain ⟨u6, l6, rfl, hl6⟩ := cons_of hl5
    obtain ⟨u7, l7, rfl, hl7⟩ := cons_of hl6
    obtain ⟨u8, l8, rfl, hl8⟩ := cons_of hl7
    obtain ⟨u9, l9, rfl, hl9⟩ := cons_of hl8
    obtain ⟨u10, l10, rfl, hl10⟩ := cons_of hl9
    obtain ⟨u11, l11, rfl, hl11⟩ := cons_of hl10
    obtain ⟨u12, l12, rfl, hl12⟩ := cons_of hl11
    obtain ⟨u13, l13, rfl, hl13⟩ := cons_of hl12
    obtain ⟨u14, l14, rfl, hl14⟩ := cons_of hl13
    obtain ⟨u15, l15, rfl, hl15⟩ := cons_of hl14
    obtain ⟨u16, l16, rfl, hl16⟩ := cons_of hl15
    obtain ⟨u17, l17, rfl, hl17⟩ := cons_of hl16
    obtain ⟨u18, l18, rfl, hl18⟩ := cons_of hl17
    obtain ⟨u19, l19, rfl, hl19⟩ := cons_of hl18
    obtain ⟨u20, l20, rfl, hl20⟩ := cons_of hl19
    obtain ⟨u21, l21, rfl, hl21⟩ := cons_of hl20
    obtain ⟨u22, l22, rfl, hl22⟩ := cons_of hl21
    obtain ⟨u23, l23, rfl, hl23⟩ := cons_of hl22
    obtain ⟨u24, l24, rfl, hl24⟩ := cons_of hl23
    obtain ⟨u25, l25, rfl, hl25⟩ := cons_of hl24
    obtain ⟨u26, l26, rfl, hl26⟩ := cons_of hl25
    obtain ⟨u27, l27, rfl, hl27⟩ := cons_of hl26
    obtain ⟨u28, l28, rfl, hl28⟩ := cons_of hl27
    obtain ⟨u29, l29, rfl, hl29⟩ := cons_of hl28
    obtain ⟨u30, l30, rfl, hl30⟩ := cons_of hl29
    obtain ⟨u31, l31, rfl, hl31⟩ := cons_of hl30
    obtain ⟨u32, l32, rfl, hl32⟩ := cons_of hl31
    obtain ⟨u33, l33, rfl, hl33⟩ := cons_of hl32
    obtain ⟨u34, l34, rfl, hl34⟩ := cons_of hl33
    obtain ⟨u35, l35, rfl, hl35⟩ := cons_of hl34
    obtain ⟨u36, l36, rfl, hl36⟩ := cons_of hl35
    obtain ⟨u37, l37, rfl, hl37⟩ := cons_of hl36
    obtain ⟨u38, l38, rfl, hl38⟩ := cons_of hl37
    obtain ⟨u39, l39, rfl, hl39⟩ := cons_of hl38
    obtain ⟨u40, l40, rfl, hl40⟩ := cons_of hl39
    obtain ⟨u41, l41, rfl, hl41⟩ := cons_of hl40
    obtain ⟨u42, l42, rfl, hl42⟩ := cons_of hl41
    obtain ⟨u43, l43, rfl, hl43⟩ := cons_of hl42
    obtain rfl : l43 = [] := List.eq_nil_of_length_eq_zero hl43
    have Hno := Lib.hid hno
    clear hno hw0
    go_wp2
    simp only [Exit.jump]
    go_ret3
    refine ⟨?_, hb⟩
    unfold ParseOutN
    rw [if_neg (by rw [Hno.out]; simp)]
    rfl
theorem fparse_any (x : Sec) (w : World) :
    Calls Try.prog 10 #[.agg (av x)] w fun e w' => ParseOut x w.heap.size e w' ∧ Below w.heap.size w w' := by
  refine (fparse_nn x w).mono ?_
  rintro e w' ⟨h, hb⟩
  refine ⟨?_, hb⟩
  unfold ParseOut
  by_cases hk : okF x = true
  · rw [if_pos hk]
    obtain ⟨v, h1, h2, _⟩ := h.yes hk
    exact ⟨v, h1, h2⟩
  · rw [if_neg hk]
    exact h.no (by simpa using hk)
end Go.Proofs.Ytlonmghkdobhdaa
