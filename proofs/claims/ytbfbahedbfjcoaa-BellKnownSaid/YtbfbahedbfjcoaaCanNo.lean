/- Cancel where there may be no such bell. -/
import Derived.Test.YtbfbahedbfjcoaaBellNext
import Derived.Deep.RegionLaw
namespace Go.Proofs.Ytbfbahedbfjcoaa
set_option linter.all false
open Go.RowKit
attribute [local go_sem ↓] Go.wp_at_zero Go.wp_at_succ

set_option maxRecDepth 100000 in
set_option maxHeartbeats 2000000 in
theorem cancel_no {w : World} {F : Nat → Prop} {gb : Nat} {L : BL} (hj : BlJ w F gb L) (kind id : Int) (hm : ¬ MayB kind id) :
    Calls Try.prog 11 #[.pointer (some ⟨gb, 0, none⟩), .int .i64 kind, .int .i64 id] w fun r w' => r = .returned (.bool false) ∧ Below w.heap.size w w' := by
  have HJ := Lib.hid hj
  have HD := Lib.hid (decide_eq_false hm)
  clear hj hm
  go_enter Try.func11, Try.ntmps11
  go_wp2_with fail
  first | go_region_law (first
    | (go_simp; go_at_call 24; refine (bnone_any HJ.out.drew).mono ?_; rintro r x1 ⟨rfl, rfl⟩)
    | (go_simp; go_at_call 25; refine (may_any kind id _).mono ?_; rintro r x2 ⟨rfl, hb⟩; rw [HD.out])) | fail "no"
  all_goals
    have HX := Lib.hid hb
    clear hb
    go_wp2_with fail
    go_ret
    exact ⟨rfl, (Below.refl w.heap.size w).drew.trans HX.out⟩
end Go.Proofs.Ytbfbahedbfjcoaa
