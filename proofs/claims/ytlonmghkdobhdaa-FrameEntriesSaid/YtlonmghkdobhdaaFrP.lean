/- Records of package frame in plain lists: what a record is, what a changed or torn one is. No program. No conditions. -/
import Derived.Test.YtlonmghkdobhdaaWire4
import Derived.Test.YtlonmghkdobhdaaSecM
set_option linter.unusedSimpArgs false
set_option linter.unusedVariables false
namespace Go.Proofs.Ytlonmghkdobhdaa

theorem be_snoc (k x : Nat) : be (k + 1) x = be k (x / 256) ++ [UInt8.ofNat x] := by
  apply List.ext_getElem
  · simp
  · intro i h1 h2
    simp at h1
    by_cases hi : i < k
    · rw [List.getElem_append_left (by simpa using hi)]
      simp only [be, List.getElem_map, List.getElem_range]
      congr 1
      rw [Nat.div_div_eq_div_mul, ← Nat.pow_succ']
      congr 2; omega
    · obtain rfl : i = k := by omega
      rw [List.getElem_append_right (by simp)]
      simp [be]
theorem nb_be (k x : Nat) (h : x < 256 ^ k) : nb (be k x) = x := by
  induction k generalizing x with
  | zero => simp at h; subst h; rfl
  | succ k ih =>
    rw [be_snoc, nb_snoc, ih (x / 256) (by rw [Nat.div_lt_iff_lt_mul (by omega), ← Nat.pow_succ]; exact h), UInt8.toNat_ofNat']
    omega
theorem be_nb (l : List UInt8) : be l.length (nb l) = l := by
  suffices h : ∀ (n : Nat) (l : List UInt8), l.length = n → be n (nb l) = l from h _ l rfl
  intro n
  induction n with
  | zero => intro l h; rw [List.eq_nil_of_length_eq_zero h]; rfl
  | succ n ih =>
    intro l h
    obtain ⟨m, c, rfl⟩ : ∃ m c, l = m ++ [c] := by
      have hne : l ≠ [] := by intro e; subst e; simp at h
      exact ⟨l.dropLast, l.getLast hne, (List.dropLast_concat_getLast hne).symm⟩
    have hm : m.length = n := by simpa using h
    rw [be_snoc, nb_snoc]
    have hc := c.toNat_lt
    rw [show (nb m * 256 + c.toNat) / 256 = nb m by omega, ih m hm]
    congr 2
    apply UInt8.toNat_inj.1
    rw [UInt8.toNat_ofNat']
    omega
theorem nb_inj {l m : List UInt8} (h : l.length = m.length) (e : nb l = nb m) : l = m := by rw [← be_nb l, ← be_nb m, h, e]

theorem drop_len {α : Type} {a b : List α} {n : Nat} (h : a.length = n) : (a ++ b).drop n = b := by subst h; exact List.drop_left
theorem take_len {α : Type} {a b : List α} {n : Nat} (h : a.length = n) : (a ++ b).take n = a := by subst h; exact List.take_left

/-! ### sectors as lists -/
def sl (x : Sec) : List UInt8 := x.toList
@[simp] theorem sl_length (x : Sec) : (sl x).length = 64 := by simp [sl]
theorem av_sl (x : Sec) : av x = bv (sl x) := by
  apply Array.ext'
  simp [av, bv, sl]
  rfl
theorem sl_secOf (l : List UInt8) (h : l.length = 64) : sl (secOf l) = l := by
  apply List.ext_getElem
  · simp [h]
  · intro i h1 h2
    simp [sl, secOf, List.getD, h2]
theorem sl_inj {x y : Sec} (h : sl x = sl y) : x = y := by
  have : x.toArray = y.toArray := by
    apply Array.ext'; exact h
  exact Vector.toArray_inj.1 this
theorem secOf_sl (x : Sec) : secOf (sl x) = x := sl_inj (sl_secOf _ (sl_length x))

def lenOf (x : Sec) : Nat := nb ((sl x).take 2)
def tagOf (x : Sec) : Nat := nb ((sl x).drop 60)
def stoOf (x : Sec) : Nat := nb (((sl x).drop 56).take 4)
def sumOf (x : Sec) : Nat := csum ((sl x).take 56 ++ (sl x).drop 60)
def payOf (x : Sec) : List UInt8 := ((sl x).drop 2).take (lenOf x)
def padOf (x : Sec) : List UInt8 := ((sl x).drop (2 + lenOf x)).take (54 - lenOf x)
def okF (x : Sec) : Bool := decide (lenOf x ≤ 54) && (decide (∀ c ∈ padOf x, c = 0) && decide (stoOf x = sumOf x))

def bodyL (p : List UInt8) : List UInt8 := be 2 p.length ++ (p ++ List.replicate (54 - p.length) 0)
theorem bodyL_length (p : List UInt8) (h : p.length ≤ 54) : (bodyL p).length = 56 := by simp [bodyL]; omega
def recL (g : Nat) (p : List UInt8) : List UInt8 := bodyL p ++ (be 4 (csum (bodyL p ++ be 4 g)) ++ be 4 g)
theorem recL_length (g : Nat) (p : List UInt8) (h : p.length ≤ 54) : (recL g p).length = 64 := by simp [recL, bodyL_length p h]
def recS (g : Nat) (p : List UInt8) : Sec := secOf (recL g p)
theorem sl_recS (g : Nat) (p : List UInt8) (h : p.length ≤ 54) : sl (recS g p) = recL g p := sl_secOf _ (recL_length g p h)

section
variable {g : Nat} {p : List UInt8} (h : p.length ≤ 54)
include h
theorem rec_take56 : (sl (recS g p)).take 56 = bodyL p := by
  rw [sl_recS g p h, recL, List.take_append_of_le_length (by rw [bodyL_length p h]; exact Nat.le_refl _)]
  exact List.take_of_length_le (by rw [bodyL_length p h]; exact Nat.le_refl _)
theorem rec_drop56 : (sl (recS g p)).drop 56 = be 4 (csum (bodyL p ++ be 4 g)) ++ be 4 g := by
  rw [sl_recS g p h, recL]
  have := bodyL_length p h
  rw [← this, List.drop_left]
theorem rec_drop60 : (sl (recS g p)).drop 60 = be 4 g := by
  have := congrArg (List.drop 4) (rec_drop56 (g := g) h)
  rw [List.drop_drop] at this
  rw [show 60 = 56 + 4 by rfl, this]
  exact drop_len (be_length _ _)
theorem rec_sto : ((sl (recS g p)).drop 56).take 4 = be 4 (csum (bodyL p ++ be 4 g)) := by
  rw [rec_drop56 h]
  have e : (be 4 (csum (bodyL p ++ be 4 g))).length = 4 := be_length _ _
  rw [List.take_append_of_le_length (by rw [e]; exact Nat.le_refl _)]
  exact List.take_of_length_le (by rw [e]; exact Nat.le_refl _)
theorem rec_take2 : (sl (recS g p)).take 2 = be 2 p.length := by
  have := congrArg (List.take 2) (rec_take56 (g := g) h)
  rw [List.take_take] at this
  rw [show min 2 56 = 2 by rfl] at this
  rw [this, bodyL, List.take_append_of_le_length (by simp)]
  exact List.take_of_length_le (by simp)
theorem rec_len : lenOf (recS g p) = p.length := by
  unfold lenOf; rw [rec_take2 h, nb_be]; omega
theorem rec_tag (hg : g < 4294967296) : tagOf (recS g p) = g := by
  unfold tagOf; rw [rec_drop60 h, nb_be]; omega
theorem rec_pay : payOf (recS g p) = p := by
  unfold payOf; rw [rec_len h, sl_recS g p h, recL, bodyL]
  rw [show be 2 p.length ++ (p ++ List.replicate (54 - p.length) 0) ++ (be 4 (csum (be 2 p.length ++ (p ++ List.replicate (54 - p.length) 0) ++ be 4 g)) ++ be 4 g) = be 2 p.length ++ (p ++ (List.replicate (54 - p.length) 0 ++ (be 4 (csum (be 2 p.length ++ (p ++ List.replicate (54 - p.length) 0) ++ be 4 g)) ++ be 4 g))) by simp [List.append_assoc]]
  rw [drop_len (be_length 2 p.length), List.take_left]
theorem rec_pad : ∀ c ∈ padOf (recS g p), c = 0 := by
  have e : padOf (recS g p) = List.replicate (54 - p.length) 0 := by
    unfold padOf; rw [rec_len h, sl_recS g p h, recL, bodyL]
    rw [show be 2 p.length ++ (p ++ List.replicate (54 - p.length) 0) ++ (be 4 (csum (be 2 p.length ++ (p ++ List.replicate (54 - p.length) 0) ++ be 4 g)) ++ be 4 g) = (be 2 p.length ++ p) ++ (List.replicate (54 - p.length) 0 ++ (be 4 (csum (be 2 p.length ++ (p ++ List.replicate (54 - p.length) 0) ++ be 4 g)) ++ be 4 g)) by simp [List.append_assoc]]
    rw [drop_len (a := be 2 p.length ++ p) (by simp), List.take_append_of_le_length (by simp)]
    exact List.take_of_length_le (by simp)
  rw [e]
  intro c hc
  exact (List.mem_replicate.1 hc).2
theorem rec_ok : okF (recS g p) = true := by
  unfold okF
  rw [rec_len h, decide_eq_true h, decide_eq_true (rec_pad h), decide_eq_true]
  · rfl
  · unfold stoOf sumOf
    rw [rec_sto h, rec_take56 h, rec_drop60 h, nb_be4 _ (csum_lt _)]
end

/-! ### one byte is changed -/
theorem csum_set (l : List UInt8) (i : Nat) (hi : i < l.length) (d : UInt8) (hd : d ≠ 0) : csum (l.set i (l.getD i 0 ^^^ d)) ≠ csum l := by
  intro e
  unfold csum at e
  have h1 : upd 4294967295 (l.set i (l.getD i 0 ^^^ d)) < 4294967296 := upd_lt (by omega)
  have h2 : upd 4294967295 l < 4294967296 := upd_lt (by omega)
  have e1 : upd 4294967295 (l.set i (l.getD i 0 ^^^ d)) = upd 4294967295 l := by omega
  rw [upd_set _ _ _ hi] at e1
  have e2 : stepN (8 * (l.length - i)) d.toNat = 0 := by
    have := congrArg (fun n => upd 4294967295 l ^^^ n) e1
    simp only [← Nat.xor_assoc, Nat.xor_self, Nat.zero_xor] at this
    exact this
  have := stepN_ker (by have := d.toNat_lt; omega) e2
  exact hd (UInt8.toNat_inj.1 (by rw [this]; rfl))
theorem xor_ne (a d : UInt8) (hd : d ≠ 0) : a ^^^ d ≠ a := by
  intro e
  have := congrArg (fun x => a ^^^ x) e
  simp only [← UInt8.xor_assoc, UInt8.xor_self, UInt8.zero_xor] at this
  exact hd this
theorem change_not (x y : Sec) (i : Nat) (hi : i < 64) (d : UInt8) (hd : d ≠ 0) (hx : stoOf x = sumOf x) (hy : sl y = (sl x).set i ((sl x).getD i 0 ^^^ d)) : okF y = false := by
  have hne : stoOf y ≠ sumOf y := by
    unfold stoOf sumOf at *
    rw [hy]
    have hl : (sl x).length = 64 := sl_length x
    generalize sl x = l at *
    clear hy
    by_cases h1 : i < 56
    · rw [List.drop_set_of_lt h1, List.drop_set_of_lt (by omega), hx]
      intro e
      have hlen : i < (l.take 56 ++ l.drop 60).length := by simp; omega
      have hil : i < (l.take 56).length := by simp; omega
      rw [List.take_set, ← List.set_append_left _ _ hil] at e
      have hg : l.getD i 0 = (l.take 56 ++ l.drop 60).getD i 0 := by
        simp [List.getD, List.getElem?_append_left hil, List.getElem?_take, h1]
      rw [hg] at e
      exact csum_set _ i hlen d hd e.symm
    · by_cases h2 : i < 60
      · rw [List.drop_set_of_lt (i := i) (j := 60) (by omega), List.take_set_of_le (by omega), ← hx]
        intro e
        have h4 : ((l.drop 56).take 4).length = 4 := by simp; omega
        have h5 : (((l.set i (l.getD i 0 ^^^ d)).drop 56).take 4).length = 4 := by simp; omega
        have e2 := nb_inj (h5.trans h4.symm) e
        have e3 := congrArg (fun m => m.getD (i - 56) 0) e2
        simp only [List.getD, List.getElem?_take, List.getElem?_drop, show i - 56 < 4 by omega, if_true, show 56 + (i - 56) = i by omega] at e3
        rw [List.getElem?_set_self (by omega), List.getElem?_eq_getElem (by omega)] at e3
        simp only [Option.getD_some] at e3
        exact xor_ne _ d hd e3
      · rw [List.take_set_of_le (by omega), List.drop_set, if_neg (by omega), List.drop_set, if_neg h2, List.take_set_of_le (by omega), hx]
        intro e
        have hl56 : (l.take 56).length = 56 := by simp; omega
        have hlen : i - 4 < (l.take 56 ++ l.drop 60).length := by simp; omega
        have hset : l.take 56 ++ (l.drop 60).set (i - 60) (l.getD i 0 ^^^ d) = (l.take 56 ++ l.drop 60).set (i - 4) (l.getD i 0 ^^^ d) := by
          rw [List.set_append_right _ _ (by omega), hl56]
          congr 2
        have hg : l.getD i 0 = (l.take 56 ++ l.drop 60).getD (i - 4) 0 := by
          simp only [List.getD]
          rw [List.getElem?_append_right (by omega), hl56, List.getElem?_drop]
          congr 2; omega
        rw [hset, hg] at e
        exact csum_set _ (i - 4) hlen d hd e.symm
  unfold okF
  rw [decide_eq_false hne]
  simp

/-- A record whose last bytes come from a sector with another tag. -/
theorem tear_not (x old y : Sec) (k : Nat) (hk : k ≤ 64) (hy : sl y = (sl x).take k ++ (sl old).drop k) (ht : tagOf old ≠ tagOf x) (hne : y ≠ x) : k < 64 ∧ tagOf y ≠ tagOf x := by
  have hx := sl_length x
  have ho := sl_length old
  have h64 : k ≠ 64 := by
    intro e
    subst e
    apply hne
    apply sl_inj
    rw [hy, List.drop_of_length_le (by omega), List.append_nil, List.take_of_length_le (by omega)]
  refine ⟨by omega, fun e => ?_⟩
  by_cases h60 : k ≤ 60
  · apply ht
    rw [← e]
    unfold tagOf
    have hd : ((sl x).take k ++ (sl old).drop k).drop k = (sl old).drop k := drop_len (by simp; omega)
    have h1 : ((sl x).take k ++ (sl old).drop k).drop 60 = (((sl x).take k ++ (sl old).drop k).drop k).drop (60 - k) := by rw [List.drop_drop]; congr 1; omega
    rw [hy, h1, hd, List.drop_drop]
    congr 2; omega
  · apply hne
    apply sl_inj
    have e1 : (sl y).drop 60 = (sl x).drop 60 := nb_inj (by simp) e
    have e2 : (sl y).take 60 = (sl x).take 60 := by
      rw [hy, List.take_append_of_le_length (by simp; omega), List.take_take]
      congr 1; omega
    rw [← List.take_append_drop 60 (sl y), e1, e2, List.take_append_drop]
end Go.Proofs.Ytlonmghkdobhdaa
