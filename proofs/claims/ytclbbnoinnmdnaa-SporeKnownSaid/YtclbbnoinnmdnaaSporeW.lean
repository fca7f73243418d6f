/- The guard's chapter example answers true. -/
import Derived.Test.YtclbbnoinnmdnaaSpore
import Derived.Test.YtclbbnoinnmdnaaBring
namespace Go.Proofs.Ytclbbnoinnmdnaa
set_option linter.all false
open Go.RowKit

set_option maxHeartbeats 1000000 in
theorem spore_works (w : World) : Calls Try.prog 24 #[] w (Holds w) := by
  have a1 : askE 0 3 = 0 := by decide
  have a2 : relE 5 0 3 = 8 := by decide
  have a3 : askE 8 7 = 140 := by decide
  have a4 : relE 5 8 7 = 8 := by decide
  have a5 : askE 8 8 = 0 := by decide
  have a6 : relE 5 8 8 = 13 := by decide
  have a7 : askE 13 (-1) = 2 := by decide
  have a8 : relE 5 13 (-1) = 13 := by decide
  have a9 : askE 13 1099511627777 = 10 := by decide
  have a10 : relE 5 13 1099511627777 = 13 := by decide
  have a11 : chgE 0 = 2 := by decide
  have a12 : chgS 5 0 = 5 := by decide
  have a13 : chgE 64 = 0 := by decide
  have a14 : chgS 5 64 = 64 := by decide
  have hU := Upd.refl (fun k => w.heap.size ≤ k) w
  go_enter Try.func24, Try.ntmps24
  go_wp2_with (first
    | (go_at_call 13; refine (new_ok _ _ (by omega)).mono ?_; rintro r w1 ⟨rfl, rfl⟩; have hb := Blk.new w 42 #[.int .i64 5, .int .i64 0]; replace hU := hU.alloc (.cells #[.int .i64 5, .int .i64 0] 42))
    | (go_at_call 16; refine (release_any _ _ _ _ _ hb (by omega)).mono ?_; rintro r w2 ⟨rfl, hb2, hu⟩; simp only [a1, a2, a3, a4, a5, a6, a7, a8, a9, a10] at hb2; replace hU := hU.transM hu (by omega); clear hu; replace hb := hb2; clear hb2)
    | (go_at_call 20; refine (change_any _ _ _ _ _ hb (by omega)).mono ?_; rintro r w2 ⟨rfl, hb2, hu⟩; simp only [a11, a12, a13, a14] at hb2; replace hU := hU.transM hu (by omega); clear hu; replace hb := hb2; clear hb2)
    | (go_at_call 18; refine (may_any _ _ _ _ _ hb (by omega)).mono ?_; rintro r w2 ⟨rfl, rfl⟩)
    | (go_at_call 22; refine (next_any _ _ _ _ hb (by omega)).mono ?_; rintro r w2 ⟨rfl, rfl⟩))
  go_ret
  exact ⟨rfl, hU.below (Nat.le_refl _) (fun k h => h)⟩
end Go.Proofs.Ytclbbnoinnmdnaa
