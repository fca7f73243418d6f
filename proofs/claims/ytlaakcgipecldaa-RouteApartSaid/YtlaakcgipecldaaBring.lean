/- The contract of Bring: i brought to be from 0 to below n, for n above 0. -/
import Derived.Test.YtlaakcgipecldaaProg
import Derived.Test.YtlaakcgipecldaaBase
import Derived.Deep.QuietTactic
import Derived.BigQuiet
namespace Go.Proofs.Ytlaakcgipecldaa
set_option linter.all false
open Go.RowKit

theorem bring_cases {i n : Int} (hn : 0 < n) : (i.tmod n < 0 → i % n = i.tmod n + n) ∧ (0 ≤ i.tmod n → i % n = i.tmod n) := by
  have h1 := Int.emod_nonneg i (b := n) (by omega)
  have h2 := Int.emod_lt_of_pos i hn
  rw [Int.tmod_eq_emod]
  split <;> constructor <;> omega

set_option maxHeartbeats 400000 in
theorem bring_any (i n : Int) (w : World) (hi : -9223372036854775808 ≤ i ∧ i ≤ 9223372036854775807) (hn : 0 < n ∧ n ≤ 9223372036854775807) :
    Calls Try.prog 10 #[.int .i64 i, .int .i64 n] w fun e w' => e = .returned (.int .i64 (i % n)) ∧ (0 ≤ i % n ∧ i % n < n) ∧ w = w' := by
  have hr := And.intro (Int.emod_nonneg i (b := n) (by omega)) (Int.emod_lt_of_pos i hn.1)
  have HR := Lib.hid hr
  clear hr
  have h1 : i.tmod n < n := by have := Int.tmod_lt_of_pos i hn.1; omega
  have h2 : -n < i.tmod n := Int.lt_tmod_of_pos i hn.1
  have h3 : (n == 0) = false := by simp; omega
  go_enter Try.func10, Try.ntmps10
  go_wp2
  all_goals go_ret
  · exact ⟨ret_int ((bring_cases hn.1).1 (by assumption)).symm, HR.out, rfl⟩
  · exact ⟨ret_int ((bring_cases hn.1).2 (by assumption)).symm, HR.out, rfl⟩
theorem bring_q {w : World} {m : Nat} (i n : Int) (hi : -9223372036854775808 ≤ i ∧ i ≤ 9223372036854775807) (hn : 0 < n ∧ n ≤ 9223372036854775807) :
    Calls Try.prog 10 #[.int .i64 i, .int .i64 n] (w.drewN m) fun e w'' => e = .returned (.int .i64 (i % n)) ∧ ∃ k, w'' = w.drewN k :=
  (bring_any i n _ hi hn).mono fun _ _ ⟨he, _, hw⟩ => ⟨he, m, hw.symm⟩
end Go.Proofs.Ytlaakcgipecldaa
