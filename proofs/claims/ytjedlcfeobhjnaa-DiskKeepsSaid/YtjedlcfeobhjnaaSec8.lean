/- What Clone, torn, Crash, All of package sector compute. Conditions: the writes are to sectors that there are; numbers of sectors and writes are small. -/
import Derived.Test.YtjedlcfeobhjnaaSec7
set_option linter.unusedSimpArgs false
set_option linter.unusedVariables false
namespace Go.Proofs.Ytjedlcfeobhjnaa
open Go.RowKit

set_option maxRecDepth 100000 in
set_option maxHeartbeats 400000 in
set_option maxRecDepth 100000 in
theorem clone_any (bl ol n cl : Nat) (L : List Sec) (w : World) (hn : n ≤ 5000) (hL : L.length = n) (hl : readAt w bl ol (n * 64) = some (flat av L).toArray) :
    Calls Try.prog 35 #[.slice (some ⟨bl, ol, none⟩) n cl] w fun e w' => (∃ v, e = .returned v ∧ Own w' w.heap.size v n 64 (flat av L)) ∧ Below w.heap.size w w' := by
  obtain ⟨i0, hi, hz, hs, hby⟩ := info_parts view_sec
  have HL := Lib.hid hL
  have Hsrc := Lib.hid hl
  have hlt := readAt_lt hl
  clear hL hl
  have heq := fun w => Lib.run_eql_slice_nil (P := Try.prog) w 40 35 (some ⟨bl, ol, none⟩) n cl 0 0 Try.underlying40
  go_enter Try.func35, Try.ntmps35
  have hown0 : (w.alloc (.cells #[] 35)).ownsRow w.heap.size 35 64 (.slice (some ⟨w.heap.size, 0, none⟩) 0 0) 0 [] :=
    World.ownsRow_made (size := 64) w #[] 0 (Nat.le_refl _) (by simp [maxLen]) (by simp)
  go_wp2_with (at_builtin; refine wpList_append_own _ rfl _ _ 40 rfl w.heap.size 35 i0 _ 64 64 Try.underlying40 hi hz hs hby (size_av zsec) (by decide) _ 0 _ rfl hown0 ⟨bl, ol, none⟩ n cl (flat av L) rfl ?c1 ?c2 ?c3 ?c4 ?c5 ?c6 ?_)
  case c1 => rw [flat_length av 64 size_av, HL.out]
  case c2 =>
    intro j u hu
    have h1 := (readAt_range Hsrc.out).1 j u (by simpa using hu)
    rw [Addr.add_lit, World.cell?_alloc_past _ _ _ hlt]; exact h1
  case c3 => exact flat_one av av_one L
  case c4 => simp only [maxLen]; omega
  case c5 => omega
  case c6 => simp
  intro v0 w1 hown1 hgr hnil
  have hb1 : Below w.heap.size w w1 := (ba _ (Below.refl _ _)).grown hgr (by simp) (fun b hbk => by simp [Value.ownBlock] at hbk; omega)
  have hO := Own_of hown1 hnil
  go_wp2
  go_ret
  exact ⟨⟨_, rfl, hO⟩, hb1⟩
end Go.Proofs.Ytjedlcfeobhjnaa
