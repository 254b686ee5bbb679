/- What Header and ParseHeader of package frame and of its reference, and bytes.Equal compute. Conditions: the number fits 32 bits; slices read as bytes. -/
import Derived.Test.YtlonmghkdobhdaaFr5
import Derived.Test.YtlonmghkdobhdaaFr6
import Derived.Laws.BytesArg
import Derived.ShutString
set_option linter.unusedSimpArgs false
set_option linter.unusedVariables false
namespace Go.Proofs.Ytlonmghkdobhdaa
open Go.RowKit

def strL (l : List UInt8) : ByteArray := ⟨l.toArray⟩
theorem strL_foldl (ns : List UInt8) : (ns.map fun c => (c.toNat : Int)).foldl (fun (r : ByteArray) (n : Int) => r.push (UInt8.ofNat n.toNat)) ByteArray.empty = strL ns := by
  rw [foldl_push_bytes]
  unfold strL
  congr 1
  apply Array.ext'
  rw [Array.toList_append]
  have e : (ByteArray.empty.data.toList : List UInt8) = [] := rfl
  rw [e, List.nil_append, List.map_map]
  have : ((fun (n : Int) => UInt8.ofNat n.toNat) ∘ fun (c : UInt8) => (c.toNat : Int)) = id := by
    funext c; simp
  rw [this, List.map_id]
theorem conv_bs {w : World} {ad : Option Addr} {n c : Nat} {l : List UInt8} (h : Bs w ad n c l) : (convert 23 9 (.slice ad n c)).run Try.prog w = .ok (.string (strL l)) w := by
  rcases h.src with ⟨rfl, rfl, rfl, rfl⟩ | ⟨a, rfl, hs⟩
  · rw [run_convert_bytes_nil w 23 5 Try.underlying23 Try.underlying5 0 0 _ Try.underlying9]; rfl
  · rw [run_convert_bytes_string w 23 9 5 _ n c Try.underlying23 Try.underlying5 Try.underlying9]
    have e : l.map B8 = (l.map fun c => (c.toNat : Int)).map (Value.int .u8) := by rw [List.map_map]; rfl
    have hl := run_loadCells_list (P := Try.prog) w a (l.map B8) hs
    rw [List.length_map, h.1, e] at hl
    rw [run_bytesToString w a n c _ hl, strL_foldl]
theorem strL_toList (l : List UInt8) : (strL l).toList = l := ByteArray.toList_mk l
theorem strL_eq (a b : List UInt8) : ((strL a).toList == (strL b).toList) = decide (a = b) := by
  rw [strL_toList, strL_toList]
  by_cases h : a = b
  · subst h; simp
  · rw [decide_eq_false h]; simpa using h
attribute [irreducible] strL

theorem equal_any (ad bd : Option Addr) (n m c c2 : Nat) (a b : List UInt8) (w : World) (ha : Bs w ad n c a) (hb : Bs w bd m c2 b) :
    Calls Try.prog 34 #[.slice ad n c, .slice bd m c2] w fun e w' => e = .returned (.bool (decide (a = b))) ∧ w = w' := by
  have k1 := conv_bs ha
  have k2 := conv_bs hb
  have he := strL_eq a b
  clear ha hb
  go_enter Try.func34, Try.ntmps34
  go_wp2
  go_ret
  exact ⟨rfl, rfl⟩

def toll : List UInt8 := [84, 79, 76, 76]
def okH (x : Sec) : Bool := okF x && decide (payOf x = toll)
def headTag (x : Sec) : Nat := if okH x then tagOf x else 0
theorem lit_toll (w : World) (fr : Nat × Nat) : readAt (w.alloc (.cells #[.int .u8 84, .int .u8 79, .int .u8 76, .int .u8 76] 5 fr)) w.heap.size 0 4 = some (bv toll) := by
  rw [readAt_alloc_at _ _ _ _ _ _ _ rfl (by simp)]; rfl

set_option maxHeartbeats 800000 in
theorem header_any (g : Nat) (w : World) (hg : g < 4294967296) :
    Calls Try.prog 21 #[.int .u32 g] w fun e w' => e = .returned (.agg (av (recS g toll))) ∧ Below w.heap.size w w' := by
  have hbA := ba (.cells #[.int .u8 84, .int .u8 79, .int .u8 76, .int .u8 76] 5 (4, 5)) (ba (.cells (av zsec) 25) (Below.refl w.heap.size w))
  have HbA := Lib.hid hbA
  have hl := Lib.hid (Bs.lit (l := toll) 4 rfl (by omega) (lit_toll (w.alloc (.cells (av zsec) 25)) (4, 5)))
  have hsz : (w.alloc (.cells (av zsec) 25)).heap.size = w.heap.size + 1 := by simp
  have hc : canAt ((w.alloc (.cells (av zsec) 25)).alloc (.cells #[.int .u8 84, .int .u8 79, .int .u8 76, .int .u8 76] 5 (4, 5))) w.heap.size 0 64 = true := by simp [go_sem]
  have Hc := Lib.hid hc
  have hl2 := hl.out
  rw [hsz] at hl2
  have Hl2 := Lib.hid hl2
  clear hbA hl hsz hc hl2
  go_enter Try.func21, Try.ntmps21
  go_wp2_with fail
  refine (fmake_yes g _ 4 4 toll _ hg Hl2.out (by omega)).mono ?_
  rintro _ w1 ⟨rfl, hb1⟩
  have Hb1 := Lib.hid (ba (.cells (av (recS g toll)) 25) (HbA.out.trans (hb1.mono HbA.out.size)))
  have hc1 : canAt w1 w.heap.size 0 64 = true := by rw [canAt_below hb1 (canAt_lt Hc.out)]; exact Hc.out
  have hlt1 := canAt_lt hc1
  have Hc1 : Hid (canAt (w1.alloc (.cells (av (recS g toll)) 25)) w.heap.size 0 64 = true) := by show _ = _; rw [canAt_alloc_past _ _ _ _ _ hlt1]; exact hc1
  have hc1' := Lib.hid hc1
  clear hb1 hc1 Hl2
  have hcw := Hc1.out
  go_wp2
  refine bodyPost_ret (results_sec rfl _ _ (w.heap.size) 0 (av (recS g toll)) rfl ?_) rfl ⟨rfl, setAt_below Hb1.out (Nat.le_refl _) _ _⟩
  exact readAt_setAt_same _ _ _ _ _ (by simp) Hc1.out
end Go.Proofs.Ytlonmghkdobhdaa
