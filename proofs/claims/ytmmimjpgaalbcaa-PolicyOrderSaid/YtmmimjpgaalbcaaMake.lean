/- The name that Make of the reference makes of 4; awake. No conditions. -/
import Derived.Test.YtmmimjpgaalbcaaRef2
import Derived.Deep.RegionHeldLaw
import Derived.Deep.RegionLaw
import Derived.Deep.AppendLies
set_option linter.unusedSimpArgs false
set_option linter.unusedVariables false
namespace Go.Proofs.Ytmmimjpgaalbcaa
open Go.RowKit

def alice : ByteArray := ⟨#[97, 108, 105, 99, 101]⟩
def host : ByteArray := ⟨#[104, 111, 115, 116]⟩

theorem view_str : (Try.prog.info? 9).map (fun i => (i.zero, i.size, i.bytes)) = some (some (.string ⟨#[]⟩), 1, 16) := by kernel_rfl

set_option maxHeartbeats 1600000 in
theorem make_any (w : World) :
    Calls Try.prog 16 #[.int .i64 4] w fun x w' => (∃ ad c, x = .returned (.agg #[.string alice, .slice ad 1 c]) ∧ StrsAt w' ad 1 c [host]) ∧ Below w.heap.size w w' := by
  go_enter Try.func16, Try.ntmps16
  go_wp2_with fail
  refine wp_loop_rounds 2 ?_
  rw [rounds_succ]
  go_wp2_with fail
  obtain ⟨w0, hw0⟩ : ∃ w0, ((w.alloc (.cells #[.string ⟨#[]⟩, .slice none 0 0] 24)).alloc (.cells #[.string ⟨#[104, 111, 115, 116]⟩, .string ⟨#[97, 47, 98]⟩, .string ⟨#[120]⟩, .string ⟨#[64]⟩, .string ⟨#[97, 108, 105, 99, 101]⟩, .string ⟨#[102, 116, 112]⟩, .string ⟨#[92]⟩, .string ⟨#[119, 119, 119, 46, 101, 120, 97, 109, 112, 108, 101]⟩] 9)).alloc (.cells #[.string ⟨#[97, 108, 105, 99, 101]⟩, .slice none 0 0] 24) = w0 := ⟨_, rfl⟩
  have hsz : w0.heap.size = w.heap.size + 3 := by rw [← hw0]; simp
  have hb0 : Below w.heap.size w w0 := by rw [← hw0]; exact ba _ (ba _ (ba _ (Below.refl _ _)))
  have k1 : w0.cell? ⟨w.heap.size + 1 + 1, 1, none⟩ = some (.slice none 0 0) := by rw [← hw0]; simp [go_sem]
  have k0 : w0.cell? ⟨w.heap.size + 1 + 1, 0, none⟩ = some (.string ⟨#[97, 108, 105, 99, 101]⟩) := by rw [← hw0]; simp [go_sem]
  have kf : w0.frozen? ⟨w.heap.size + 1 + 1, 1, none⟩ = false := by rw [← hw0]; simp [go_sem]
  have kh : w0.cell? ⟨w.heap.size + 1, 0, none⟩ = some (.string ⟨#[104, 111, 115, 116]⟩) := by rw [← hw0]; simp [go_sem]
  have z0 : w0.cell? ⟨w.heap.size, 0, none⟩ = some (.string ⟨#[]⟩) := by rw [← hw0]; simp [go_sem]
  have z1 : w0.cell? ⟨w.heap.size, 1, none⟩ = some (.slice none 0 0) := by rw [← hw0]; simp [go_sem]
  have zf : w0.frozen? ⟨w.heap.size, 0, none⟩ = false ∧ w0.frozen? ⟨w.heap.size, 1, none⟩ = false := by rw [← hw0]; simp [go_sem]
  rw [hw0]
  clear hw0
  have l1 : w.heap.size + 1 + 1 < w0.heap.size := by omega
  have l2 : w.heap.size + 1 < w0.heap.size := by omega
  have Hsz := Lib.hid hsz
  clear hsz
  obtain ⟨i0, hi, hz0, hz1, hz2⟩ := info_parts view_str
  have hown : w0.ownsRow w0.heap.size 9 1 (.slice none 0 0) 0 [] := World.ownsRow_nil _ _ _ _
  have hg0 := World.grownBy_alloc w0 (.cells #[.string ⟨#[104, 111, 115, 116]⟩] 9) none
  have a1 : (w0.alloc (.cells #[.string ⟨#[104, 111, 115, 116]⟩] 9)).drew.cell? ⟨w.heap.size + 1 + 1, 1, none⟩ = some (.slice none 0 0) := by rw [← k1]; exact hg0.cell_far ⟨w.heap.size + 1 + 1, 1, none⟩ l1 (by simp)
  have a2 : (w0.alloc (.cells #[.string ⟨#[104, 111, 115, 116]⟩] 9)).drew.cell? ⟨w.heap.size + 1, 0, none⟩ = some (.string ⟨#[104, 111, 115, 116]⟩) := by rw [← kh]; exact hg0.cell_far ⟨w.heap.size + 1, 0, none⟩ l2 (by simp)
  have a3 : (w0.alloc (.cells #[.string ⟨#[104, 111, 115, 116]⟩] 9)).drew.frozen? ⟨w.heap.size + 1 + 1, 1, none⟩ = false := by rw [← kf]; exact hg0.frozen_far ⟨w.heap.size + 1 + 1, 1, none⟩ l1 (by simp)
  have e0 : IntKind.i64.wrap 0 = 0 := by decide
  have e8 : IntKind.i64.wrap 8 = 8 := by decide
  go_region_law
    ((refine step_append_lies _ (by rfl) _ _ _ (by rfl) w0.heap.size 9 i0 _ 1 16 Try.underlying22 hi hz0 hz1 hz2 rfl (by omega) (.slice none 0 0) 0 [] (by rfl) ((hown.alloc _).drew)
        ⟨w0.heap.size, 0, none⟩ 1 1 [.string ⟨#[104, 111, 115, 116]⟩] (by rfl) (by rfl) (World.news_of_block (cs := #[.string ⟨#[104, 111, 115, 116]⟩]) (t := 9) (fr := (0, 0)) (heap_alloc_new w0 _)) (by simp [Value.oneCell'])
        (by decide) (by decide) (by decide) (by simp) (w0.heap.size + 1) (by simp) ?_; intro gg cap w1 hown1 hgrow hat hlt; have b1 := (hgrow.cell_far ⟨w.heap.size + 1 + 1, 1, none⟩ (by simp; have := Hsz.out; omega) (by simp [Value.ownBlock])).trans a1; have b3 := (hgrow.frozen_far ⟨w.heap.size + 1 + 1, 1, none⟩ (by simp; have := Hsz.out; omega) (by simp [Value.ownBlock])).trans a3))
  all_goals
    obtain rfl : gg = w0.heap.size + 1 := by rcases hat with h | h; (simp [Value.ownBlock] at h); exact h
    have far : ∀ (a : Addr), a.block < w0.heap.size → w1.cell? a = w0.cell? a := fun a ha => (hgrow.cell_far a (by simp; omega) (by simp [Value.ownBlock])).trans (hg0.cell_far a ha (by simp))
    have farf : ∀ (a : Addr), a.block < w0.heap.size → w1.frozen? a = w0.frozen? a := fun a ha => (hgrow.frozen_far a (by simp; omega) (by simp [Value.ownBlock])).trans (hg0.frozen_far a ha (by simp))
    have l0 : w.heap.size < w0.heap.size := by omega
    have m0 := (far ⟨w.heap.size + 1 + 1, 0, none⟩ l1).trans k0
    have y0 := (far ⟨w.heap.size, 0, none⟩ l0).trans z0
    have y1 := (far ⟨w.heap.size, 1, none⟩ l0).trans z1
    have q0 := (farf ⟨w.heap.size, 0, none⟩ l0).trans zf.1
    have q1 := (farf ⟨w.heap.size, 1, none⟩ l0).trans zf.2
    have hbw : Below w0.heap.size w0 w1 := (ba _ (Below.refl _ w0)).drew.grown hgrow (by simp) (fun b hbk => by simp [Value.ownBlock] at hbk)
    have Hfar := Lib.hid far
    have Hown1 := Lib.hid hown1
    have Hbw := Lib.hid hbw
    clear far farf hgrow hg0 a1 a2 a3 k1 k0 kf kh z0 z1 zf hown hat hi hz0 hz1 hz2 hown1 hbw
    go_wp2_with fail
    rw [rounds_succ]
    go_wp2_with fail
  all_goals
    have hrd := RdS_of_own Hown1.out
    obtain ⟨W3, hW3⟩ : ∃ W3, ((w1.setCell ⟨w.heap.size + 1 + 1, 1, none⟩ (.slice (some ⟨w0.heap.size + 1, 0, none⟩) 1 cap)).setCell ⟨w.heap.size, 0, none⟩ (.string ⟨#[97, 108, 105, 99, 101]⟩)).setCell ⟨w.heap.size, 1, none⟩ (.slice (some ⟨w0.heap.size + 1, 0, none⟩) 1 cap) = W3 := ⟨_, rfl⟩
    have c0 : W3.cell? ⟨w.heap.size, 0, none⟩ = some (.string alice) := by rw [← hW3]; simp [go_sem, y0, y1, alice]
    have c1 : W3.cell? ⟨w.heap.size, 1, none⟩ = some (.slice (some ⟨w0.heap.size + 1, 0, none⟩) 1 cap) := by rw [← hW3]; simp [go_sem, y0, y1]
    have hh : W3.heap[w0.heap.size + 1]? = w1.heap[w0.heap.size + 1]? := by
      rw [← hW3, Below.heap_setCell _ _ _ _ (by simp; omega), Below.heap_setCell _ _ _ _ (by simp; omega), Below.heap_setCell _ _ _ _ (by simp; omega)]
    have hB1 : Below w.heap.size w w1 := hb0.trans (Hbw.out.mono hb0.size)
    have hB3 : Below w.heap.size w W3 := by
      rw [← hW3]
      exact ((hB1.setCell (p := ⟨w.heap.size + 1 + 1, 1, none⟩) (by simp; omega) _).setCell (p := ⟨w.heap.size, 0, none⟩) (by simp) _).setCell (p := ⟨w.heap.size, 1, none⟩) (by simp) _
    rw [hW3]
    refine bodyPost_ret (v := .agg #[.string alice, .slice (some ⟨w0.heap.size + 1, 0, none⟩) 1 cap]) ?_ rfl ⟨⟨_, _, rfl, rfl, ?_⟩, hB3⟩
    · simp [results, Try.f16, go_sem, c0, c1]
    · obtain ⟨ad', cap', h1, h2, h3, h4, h5, h6⟩ := hrd
      refine ⟨ad', cap', h1, h2, h3, h4, h5, fun h0 => ?_⟩
      obtain ⟨b, o, e, hr⟩ := h6 (by simp)
      simp only [Value.slice.injEq, true_and] at h1
      have h7 := h1.1
      rw [e] at h7
      simp only [Option.some.injEq, Addr.mk.injEq, and_true] at h7
      obtain ⟨rfl, rfl⟩ := h7
      refine ⟨_, _, e, ?_⟩
      unfold readAt at hr ⊢
      rw [hh]; exact hr
end Go.Proofs.Ytmmimjpgaalbcaa
