/- The law's play: a disk does what the reference's does. Conditions: the numbers are small. -/
import Derived.Test.YtjedlcfeobhjnaaPlay1
import Derived.Test.YtjedlcfeobhjnaaPlay2
set_option linter.unusedSimpArgs false
set_option linter.unusedVariables false
namespace Go.Proofs.Ytjedlcfeobhjnaa
open Go.RowKit Go.ChangeMaps

theorem play_any2 (Z : Nat → Prop) (w0 w : World) (p : DP) (n m : Nat) (D R : DM) (a b c : Value) (q : OpM × Value) (hB : Both2 Z w0 w p n D R a b c) (hD : OkD D n m) (hRk : OkD R n m) (hm : m + 2 ≤ 100000) (hn : n ≤ 5000) (hpl : R.plan.length ≤ 100000)
    (hq : OpOk w0 q) (hok : okO q.1 = true) :
    Calls Try.prog 22 #[.pointer (some ⟨p.B, 0, none⟩), .agg (rV R a b c), .agg (oc q)] w (PNext2 Z w0 w p n (playD D q.1) (playD R q.1) (D = R)) := by
  obtain ⟨⟨kind, at_, byte, cuts⟩, cv⟩ := q
  obtain ⟨hk, ha, hc, hi⟩ := hq
  simp only [okO, Bool.and_eq_true, Bool.not_eq_true', decide_eq_false_iff_not] at hok
  have hc0 := hc
  obtain ⟨ado, co, e, _⟩ := hc0
  simp only at e hc hok hk ha hi
  subst e
  unfold oc
  simp only
  have hcl : cuts.length ≤ 20 := by omega
  have hat : at_ ≤ 1048576 := by omega
  by_cases h0 : kind = 0
  · subst h0; exact play0 Z w0 w p n m D R a b c at_ byte cuts ado co hB hD hRk hm hn hpl hat hc hcl
  by_cases h1 : kind = 1
  · subst h1; exact play1 Z w0 w p n m D R a b c at_ byte cuts ado co hB hD hRk hm hn hpl hat hc hcl
  by_cases h2 : kind = 2
  · subst h2; exact play2 Z w0 w p n m D R a b c at_ byte cuts ado co hB hD hRk hm hn hpl hat hc hcl
  by_cases h3 : kind = 3
  · subst h3; exact play3 Z w0 w p n m D R a b c at_ byte cuts ado co hB hD hRk hm hn hpl hat hc hcl
  by_cases h4 : kind = 4
  · subst h4; exact play4 Z w0 w p n m D R a b c at_ byte cuts ado co hB hD hRk hm hn hpl hat hc hcl
  by_cases h5 : kind = 5
  · subst h5; exact play5 Z w0 w p n m D R a b c at_ byte cuts ado co hB hD hRk hm hn hpl hat hc hcl
  · have e : ∀ D : DM, playD D { kind := kind, at_ := at_, byte := byte, cuts := cuts } = startD D := fun D => by
      unfold playD
      rw [if_neg h0, if_neg h1, if_neg h2, if_neg h3, if_neg h4, if_neg h5]
    rw [e, e]
    exact play6 Z w0 w p n m D R a b c kind at_ byte cuts ado co hB hD hRk hm hn hpl hat hc hcl (by simpa using h0) (by simpa using h1) (by simpa using h2) (by simpa using h3) (by simpa using h4) (by simpa using h5)
theorem play_any (Z : Nat → Prop) (w0 w : World) (p : DP) (n m : Nat) (D : DM) (a b c : Value) (q : OpM × Value) (hB : Both Z w0 w p n D a b c) (hD : OkD D n m) (hm : m + 2 ≤ 100000) (hn : n ≤ 5000) (hpl : D.plan.length ≤ 100000)
    (hq : OpOk w0 q) (hok : okO q.1 = true) :
    Calls Try.prog 22 #[.pointer (some ⟨p.B, 0, none⟩), .agg (rV D a b c), .agg (oc q)] w (PNext Z w0 w p n (playD D q.1)) := by
  refine (play_any2 Z w0 w p n m D D a b c q hB hD hD hm hn hpl hq hok).mono fun e w' h => ?_
  have h2 : PNext2 Z w0 w p n (playD D q.1) (playD D q.1) True e w' := by
    obtain ⟨t, p', a, b, c, he, hs, hr⟩ := h
    exact ⟨t, p', a, b, c, he, fun _ => hs rfl, hr⟩
  exact h2.eq
end Go.Proofs.Ytjedlcfeobhjnaa
