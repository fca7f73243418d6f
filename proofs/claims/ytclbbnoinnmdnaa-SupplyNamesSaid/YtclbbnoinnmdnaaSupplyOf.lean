/- SupplyOf and SupplyWait: the walks of the two laws. -/
import Derived.Test.YtclbbnoinnmdnaaSupplyW
namespace Go.Proofs.Ytclbbnoinnmdnaa
set_option linter.all false
open Go.RowKit

set_option maxHeartbeats 1000000 in
theorem supplyOf_core (w : World) (a0 : Int) (h0 : -9223372036854775808 ≤ a0 ∧ a0 ≤ 9223372036854775807) (a1 : Int) (h1 : -9223372036854775808 ≤ a1 ∧ a1 ≤ 9223372036854775807) (a2 : Int) (h2 : -9223372036854775808 ≤ a2 ∧ a2 ≤ 9223372036854775807) :
    Calls Try.prog 7 #[.int .i64 a0, .int .i64 a1, .int .i64 a2] w (Holds w) := by
  by_cases h : OkS a0 a1 ∧ 0 ≤ a2 ∧ a2 ≤ 1048576
  · have H := Lib.hid h
    clear h
    go_enter Try.func7, Try.ntmps7
    go_wp2_with (first
      | (go_at_call 25; refine (Of_ok _ _ _ _ H.out.1 H.out.2).mono ?_; rintro r w1 ⟨rfl, hx⟩; have HX := Lib.hid hx; clear hx)
      | (go_at_call 26; refine (rOf_ok _ _ _ _ H.out.1 H.out.2).mono ?_; rintro r w2 ⟨rfl, rfl⟩)
      | (go_at_call 27; refine (supply_works _).mono ?_; rintro r w3 ⟨rfl, hx⟩; have HX3 := Lib.hid hx; clear hx))
    go_ret
    exact ⟨rfl, HX.out.trans (HX3.out.mono HX.out.size)⟩
  · have H := Lib.hid h
    clear h
    go_enter Try.func7, Try.ntmps7
    go_wp2_with (first
      | (go_at_call 25; refine (Of_no _ _ _ _ H.out).mono ?_; rintro r w1 ⟨rfl, hx⟩; have HX := Lib.hid hx; clear hx)
      | (go_at_call 26; refine (rOf_no _ _ _ _ H.out).mono ?_; rintro r w2 ⟨rfl, rfl⟩)
      | (go_at_call 27; refine (supply_works _).mono ?_; rintro r w3 ⟨rfl, hx⟩; have HX3 := Lib.hid hx; clear hx))
    go_ret
    exact ⟨rfl, HX.out.trans (HX3.out.mono HX.out.size)⟩

set_option maxHeartbeats 1000000 in
theorem supplyWait_core (w : World) (a0 : Int) (h0 : -9223372036854775808 ≤ a0 ∧ a0 ≤ 9223372036854775807) (a1 : Int) (h1 : -9223372036854775808 ≤ a1 ∧ a1 ≤ 9223372036854775807) (a2 : Int) (h2 : -9223372036854775808 ≤ a2 ∧ a2 ≤ 9223372036854775807) :
    Calls Try.prog 8 #[.int .i64 a0, .int .i64 a1, .int .i64 a2] w (Holds w) := by
  by_cases h : OkS a0 a1 ∧ 0 ≤ a2 ∧ a2 ≤ 4096
  · have H := Lib.hid h
    clear h
    go_enter Try.func8, Try.ntmps8
    go_wp2_with (first
      | (go_at_call 28; refine (Wait_ok _ _ _ _ H.out.1 H.out.2).mono ?_; rintro r w1 ⟨rfl, hx⟩; have HX := Lib.hid hx; clear hx)
      | (go_at_call 29; refine (rWait_ok _ _ _ _ H.out.1 H.out.2).mono ?_; rintro r w2 ⟨rfl, rfl⟩)
      | (go_at_call 27; refine (supply_works _).mono ?_; rintro r w3 ⟨rfl, hx⟩; have HX3 := Lib.hid hx; clear hx))
    go_ret
    exact ⟨rfl, HX.out.trans (HX3.out.mono HX.out.size)⟩
  · have H := Lib.hid h
    clear h
    go_enter Try.func8, Try.ntmps8
    go_wp2_with (first
      | (go_at_call 28; refine (Wait_no _ _ _ _ H.out).mono ?_; rintro r w1 ⟨rfl, hx⟩; have HX := Lib.hid hx; clear hx)
      | (go_at_call 29; refine (rWait_no _ _ _ _ H.out).mono ?_; rintro r w2 ⟨rfl, rfl⟩)
      | (go_at_call 27; refine (supply_works _).mono ?_; rintro r w3 ⟨rfl, hx⟩; have HX3 := Lib.hid hx; clear hx))
    go_ret
    exact ⟨rfl, HX.out.trans (HX3.out.mono HX.out.size)⟩
end Go.Proofs.Ytclbbnoinnmdnaa
