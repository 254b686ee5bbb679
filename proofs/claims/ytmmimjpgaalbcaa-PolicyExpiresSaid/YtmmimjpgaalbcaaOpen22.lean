/- How tickets and authenticators that are read as data are opened. No conditions. -/
import Derived.Test.YtmmimjpgaalbcaaOpenG
import Derived.Test.YtmmimjpgaalbcaaPol3
set_option linter.unusedSimpArgs false
set_option linter.unusedVariables false
namespace Go.Proofs.Ytmmimjpgaalbcaa
open Go.RowKit Go.ChangeShapes Go.WideShapes Go.ChangeAt Go.Deep

section
variable {H : Type} {enc : TypeId × Value → H} {w : World} {base b0 : Nat} {r : Reach} {spare : Nat → Bool} {held : Bool} {v : Value} {d : DataW H} {p : List MemPlace}

theorem cells_str : Try.prog.cellsOf 9 = 1 := by kernel_rfl
theorem cells_strs : Try.prog.cellsOf 22 = 1 := by kernel_rfl
theorem cells_i64 : Try.prog.cellsOf 2 = 1 := by kernel_rfl
theorem cells_u32 : Try.prog.cellsOf 31 = 1 := by kernel_rfl
theorem cells_u8' : Try.prog.cellsOf 5 = 1 := by kernel_rfl
theorem cells_nm : Try.prog.cellsOf 24 = 2 := by kernel_rfl
theorem cells_ky : Try.prog.cellsOf 25 = 16 := by kernel_rfl
theorem cells_tk : Try.prog.cellsOf 27 = 20 := by kernel_rfl
theorem cells_au : Try.prog.cellsOf 33 = 5 := by kernel_rfl

theorem open_strs {fuel : Nat} {cs : List Value} {x : DataW H × List MemPlace} (h : DataW.trod enc Try.prog w base spare held fuel 22 cs = some x) :
    ∃ ad n c A, cs = [.slice ad n c] ∧ StrsAt w ad n c A := by
  have hc : ∃ ad n c, cs = [.slice ad n c] := by
    rcases DataW.trod_slice Try.underlying22 h with ⟨h0, _⟩ | ⟨a, len, cap, _, _, _, _, h0, _⟩
    · exact ⟨_, _, _, h0⟩
    · exact ⟨_, _, _, h0⟩
  obtain ⟨ad, n, c, rfl⟩ := hc
  obtain ⟨R, h1, h2, h3⟩ := open_flat (fun s : ByteArray => #[Value.string s]) 1 (fun _ => rfl) (by omega) Try.underlying22 cells_str (fun _ => True) (fun k cs y hy => by
    obtain ⟨s, rfl, _⟩ := DataW.trod_string Try.underlying9 hy
    exact ⟨s, rfl, trivial⟩) h
  refine ⟨ad, n, c, R, rfl, h1, ?_⟩
  have e : flat (fun s : ByteArray => #[Value.string s]) R = R.map Value.string := by
    clear h1 h2 h3 h
    induction R with
    | nil => rfl
    | cons s R ih => simp only [flat, List.flatMap_cons, List.map_cons] at ih ⊢; rw [ih]; rfl
  rw [e] at h2
  exact h2

theorem open_nm {fuel : Nat} {cs : List Value} {x : DataW H × List MemPlace} (h : DataW.trod enc Try.prog w base spare held fuel 24 cs = some x) :
    ∃ s ad n c A, cs = [.string s, .slice ad n c] ∧ StrsAt w ad n c A := by
  obtain ⟨y0, y1, m, _, hl, h0, h1⟩ := trod_struct2 Try.underlying24 h
  rw [cells_nm] at hl
  match cs, hl with
  | [c0, c1], _ =>
    simp only [cells_str, cells_strs, List.drop_zero, List.drop_succ_cons, List.take_succ_cons, List.take_zero] at h0 h1
    obtain ⟨s, e0, _⟩ := DataW.trod_string Try.underlying9 h0
    obtain ⟨ad, n, c, A, e1, h2⟩ := open_strs h1
    simp at e0 e1
    subst e0 e1
    exact ⟨s, ad, n, c, A, rfl, h2⟩

theorem open_ky {fuel : Nat} {cs : List Value} {x : DataW H × List MemPlace} (h : DataW.trod enc Try.prog w base spare held fuel 25 cs = some x) : ∃ k : Key, cs = (av k).toList := by
  obtain ⟨xs, m, _, _, hsz, hl, hx⟩ := DataW.trod_array Try.underlying25 h
  rw [cells_ky] at hsz
  obtain ⟨k, hk⟩ := bytes_of_ints (cs := cs.toArray) (n := 16) (by simpa using hsz) (fun i hi => by
    have h1 := hx i hi
    rw [cells_u8', Nat.mul_one] at h1
    have hi2 : i < xs.length := by omega
    rw [List.getElem?_eq_getElem hi2] at h1
    have hi3 : i < cs.length := by omega
    have e : ((cs.drop i).take 1) = [cs[i]] := by rw [List.drop_eq_getElem_cons hi3]; rfl
    rw [e] at h1
    obtain ⟨z, hz, _, wz⟩ := DataW.trod_int Try.underlying5 h1
    have hz1 : cs[i] = .int .u8 z := by simpa using hz
    exact ⟨z, by simp [hi3, hz1], bounds_u8 wz⟩)
  exact ⟨k, by rw [← hk]⟩

theorem open_tk (hv : Value.okWide Try.prog w r b0 27 v) (h : DataW.Trod enc Try.prog w base spare held 27 v d p) :
    ∃ r ad n c A s e k, v = .agg (tv r ad n c s e k) ∧ StrsAt w ad n c A ∧ Is64 s ∧ Is64 e := by
  unfold Value.okWide at hv
  rw [Try.underlying27] at hv
  obtain ⟨cs, rfl, hsz, _⟩ := hv
  rw [cells_tk] at hsz
  obtain ⟨fuel, hf⟩ := h
  obtain ⟨y0, y1, y2, y3, m, _, hl, h0, h1, h2, h3⟩ := Joins.trod_struct4 Try.underlying27 hf
  simp only [Value.cells, cells_nm, cells_i64, cells_ky] at h0 h1 h2 h3
  obtain ⟨s, ad, n, c, A, e0, hA⟩ := open_nm h0
  obtain ⟨z1, e1, _, w1⟩ := DataW.trod_int Try.underlying2 h1
  obtain ⟨z2, e2, _, w2⟩ := DataW.trod_int Try.underlying2 h2
  obtain ⟨k, e3⟩ := open_ky h3
  refine ⟨s, ad, n, c, A, z1, z2, k, ?_, hA, bounds_i64 w1, bounds_i64 w2⟩
  congr 1
  apply Array.ext'
  have key : cs.toList = cs.toList.take 2 ++ ((cs.toList.drop 2).take 1 ++ ((cs.toList.drop 3).take 1 ++ (cs.toList.drop 4).take 16)) := by
    apply List.ext_getElem?
    intro i
    have hl : cs.toList.length = 20 := by simpa using hsz
    generalize cs.toList = l at *
    match l, hl with
    | [a0, a1, a2, a3, a4, a5, a6, a7, a8, a9, a10, a11, a12, a13, a14, a15, a16, a17, a18, a19], _ => rfl
  rw [key]
  simp only [List.drop_zero] at e0
  rw [e0, e1, e2, e3]
  unfold tv
  simp

theorem open_au (hv : Value.okWide Try.prog w r b0 33 v) (h : DataW.Trod enc Try.prog w base spare held 33 v d p) :
    ∃ q ad n c A t m s, v = .agg #[.string q, .slice ad n c, .int .i64 t, .int .u32 m, .int .u32 s] ∧ StrsAt w ad n c A ∧ Is64 t := by
  unfold Value.okWide at hv
  rw [Try.underlying33] at hv
  obtain ⟨cs, rfl, hsz, _⟩ := hv
  rw [cells_au] at hsz
  obtain ⟨fuel, hf⟩ := h
  obtain ⟨y0, y1, y2, y3, m, _, hl, h0, h1, h2, h3⟩ := Joins.trod_struct4 Try.underlying33 hf
  simp only [Value.cells, cells_nm, cells_i64, cells_u32] at h0 h1 h2 h3
  obtain ⟨s, ad, n, c, A, e0, hA⟩ := open_nm h0
  obtain ⟨z1, e1, _, w1⟩ := DataW.trod_int Try.underlying2 h1
  obtain ⟨z2, e2, _, w2⟩ := DataW.trod_int Try.underlying31 h2
  obtain ⟨z3, e3, _, w3⟩ := DataW.trod_int Try.underlying31 h3
  refine ⟨s, ad, n, c, A, z1, z2, z3, ?_, hA, bounds_i64 w1⟩
  congr 1
  apply Array.ext'
  have hl : cs.toList.length = 5 := by simpa using hsz
  generalize cs.toList = l at *
  match l, hl with
  | [a0, a1, a2, a3, a4], _ =>
    simp at e0 e1 e2 e3
    obtain ⟨rfl, rfl⟩ := e0
    subst e1 e2 e3
    rfl
end
end Go.Proofs.Ytmmimjpgaalbcaa
