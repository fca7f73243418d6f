/- Contracts of package rank: the small ones. -/
import Derived.Test.YtbfbahedbfjcoaaProg
import Derived.Test.YtbfbahedbfjcoaaOwn
import Derived.Deep.QuietTactic
import Derived.BigQuiet
import Derived.BigRegion
import Derived.StillTailTactics
namespace Go.Proofs.Ytbfbahedbfjcoaa
set_option linter.all false
open Go.RowKit

/-- Is an id with its key ahead of another one? -/
def AheadP (i1 k1 i2 k2 : Int) : Prop := k1 < k2 ∨ (k1 = k2 ∧ i1 < i2)
instance (i1 k1 i2 k2 : Int) : Decidable (AheadP i1 k1 i2 k2) := by unfold AheadP; infer_instance

set_option maxHeartbeats 1000000 in
theorem ahead_one (i1 k1 i2 k2 : Int) (w : World) :
    Calls Try.prog 47 #[.agg #[.int .i64 i1, .int .i64 k1], .agg #[.int .i64 i2, .int .i64 k2]] w fun r w' => r = .returned (.bool (decide (AheadP i1 k1 i2 k2))) ∧ Below w.heap.size w w' := by
  by_cases h : AheadP i1 k1 i2 k2
  · rw [decide_eq_true h]
    have H := Lib.hid h
    clear h
    go_enter Try.func47, Try.ntmps47
    go_wp2_with fail
    all_goals go_ret
    all_goals
      have := H.out
      unfold AheadP at this
      exact ⟨ret_bool (by simp <;> omega), ((Below.refl _ _).alloc (Nat.le_refl _) _).alloc (by simp) _⟩
  · rw [decide_eq_false h]
    have H := Lib.hid h
    clear h
    go_enter Try.func47, Try.ntmps47
    go_wp2_with fail
    all_goals go_ret
    all_goals
      have := H.out
      unfold AheadP at this
      exact ⟨ret_bool (by simp <;> omega), ((Below.refl _ _).alloc (Nat.le_refl _) _).alloc (by simp) _⟩

/-- A rank points to its heap. -/
def RkAt (w : World) (g h : Nat) : Prop := Blk w g 65 #[.pointer (some ⟨h, 0, none⟩)]

theorem rknone_any {w : World} {g h : Nat} (hr : RkAt w g h) : Calls Try.prog 41 #[.pointer (some ⟨g, 0, none⟩)] w fun r w' => r = .returned (.bool false) ∧ w = w' := by
  have c0 := hr.cell 0
  simp at c0
  clear hr
  go_enter Try.func41, Try.ntmps41
  go_wp2_with fail
  go_ret
  exact ⟨rfl, rfl⟩
set_option maxHeartbeats 1000000 in
theorem asked_any {w : World} {g h : Nat} (id : Int) (hr : RkAt w g h) : Calls Try.prog 39 #[.pointer (some ⟨g, 0, none⟩), .int .i64 id] w fun r w' => r = .returned (.int .i64 (if 0 ≤ id ∧ id < 64 then 0 else 9)) ∧ w = w' := by
  have H := Lib.hid hr
  clear hr
  by_cases hi : 0 ≤ id ∧ id < 64
  · rw [if_pos hi]
    obtain ⟨h1, h2⟩ := hi
    go_enter Try.func39, Try.ntmps39
    go_wp2_with (go_at_call 41; refine (rknone_any H.out).mono ?_; rintro r w1 ⟨rfl, rfl⟩)
    go_ret
    exact ⟨rfl, rfl⟩
  · rw [if_neg hi]
    by_cases h1 : id < 0
    · clear hi
      go_enter Try.func39, Try.ntmps39
      go_wp2_with (go_at_call 41; refine (rknone_any H.out).mono ?_; rintro r w1 ⟨rfl, rfl⟩)
      go_ret
      exact ⟨rfl, rfl⟩
    · have h2 : 64 ≤ id := by omega
      clear hi
      go_enter Try.func39, Try.ntmps39
      go_wp2_with (go_at_call 41; refine (rknone_any H.out).mono ?_; rintro r w1 ⟨rfl, rfl⟩)
      go_ret
      exact ⟨rfl, rfl⟩
end Go.Proofs.Ytbfbahedbfjcoaa
