/- Contracts of package ticks at two numbers that are ticks: tick, Gcd. -/
import Derived.Test.YtogdpkeojccpcaaProg
import Derived.Test.YtogdpkeojccpcaaBase
import Derived.RegionTactic
namespace Go.Proofs.Ytogdpkeojccpcaa
set_option linter.all false
open Go.RowKit

set_option maxHeartbeats 1000000 in
theorem tick2 (g : Nat) (a b : Int) (w : World) (ha : 0 ≤ a ∧ a ≤ 1099511627776) (hb : 0 ≤ b ∧ b ≤ 1099511627776) (h0 : w.cell? ⟨g, 0, none⟩ = some (.int .i64 a)) (h1 : w.cell? ⟨g, 1, none⟩ = some (.int .i64 b)) :
    Calls Try.prog 75 #[.slice (some ⟨g, 0, none⟩) 2 2] w fun r w' => r = .returned (.bool true) ∧ w = w' := by
  obtain ⟨a1, a2⟩ := ha
  obtain ⟨b1, b2⟩ := hb
  go_enter Try.func75, Try.ntmps75
  go_wp2_with fail
  refine wp_loop_rounds 3 ?_
  rw [rounds_succ]
  go_wp2_with fail
  rw [rounds_succ]
  go_wp2_with fail
  rw [rounds_succ]
  go_wp2_with fail
  go_ret
  exact ⟨rfl, rfl⟩

theorem gcd_step {a b : Int} (ha : 0 ≤ a) (hb : 0 < b) : Int.gcd b (a % b) = Int.gcd a b := by
  obtain ⟨A, rfl⟩ := Int.eq_ofNat_of_zero_le ha
  obtain ⟨B, rfl⟩ := Int.eq_ofNat_of_zero_le (Int.le_of_lt hb)
  rw [← Int.natCast_emod, Int.gcd_natCast_natCast, Int.gcd_natCast_natCast, Nat.gcd_comm A B, Nat.gcd_rec B A, Nat.gcd_comm]
theorem gcd_zero {a : Int} (ha : 0 ≤ a) : (Int.gcd a 0 : Int) = a := by
  rw [Int.gcd_zero_right]; omega

set_option maxHeartbeats 1000000 in
theorem gcd_any (a b : Int) (w : World) (ha : 0 ≤ a ∧ a ≤ 1099511627776) (hb : 0 ≤ b ∧ b ≤ 1099511627776) :
    Calls Try.prog 72 #[.int .i64 a, .int .i64 b] w fun r w' => r = .returned (.tuple #[.int .i64 (Int.gcd a b), .int .i64 0]) ∧ Below w.heap.size w w' := by
  obtain ⟨a1, a2⟩ := ha
  obtain ⟨b1, b2⟩ := hb
  obtain ⟨G, hG⟩ : ∃ G, Int.gcd a b = G := ⟨_, rfl⟩
  rw [hG]
  have HG := Lib.hid hG
  clear hG
  go_enter Try.func72, Try.ntmps72
  go_wp2_with (go_at_call 75; refine (tick2 _ a b _ (by omega) (by omega) (by simp) (by simp)).mono ?_; rintro r w' ⟨rfl, rfl⟩)
  go_loopw [0, 1] (fun sa sb wr => ∃ x y : Int, 0 ≤ x ∧ x ≤ 1099511627776 ∧ 0 ≤ y ∧ y ≤ 1099511627776 ∧ sa = .int .i64 x ∧ sb = .int .i64 y ∧ Hid (Int.gcd x y = G ∧ Below w.heap.size w wr)) (fun _ sb _ => (intOf sb).toNat)
  case atStart => exact ⟨a, b, a1, a2, b1, b2, rfl, rfl, ⟨HG.out, (Below.refl _ _).alloc (Nat.le_refl _) _⟩⟩
  case round =>
    obtain ⟨x, y, hx0, hx1, hy0, hy1, rfl, rfl, hw⟩ := hrel
    by_cases hy : y = 0
    · subst hy
      have hz := gcd_zero hx0
      rw [hw.out.1] at hz
      have HZ := Lib.hid hz
      clear hz
      go_wp2
      go_ret2
      exact ⟨ret_tup HZ.out.symm, hw.out.2⟩
    · have hz : (y == 0) = false := by simpa using hy
      have hp : 0 < y := by omega
      have m0 := Int.emod_nonneg x (b := y) (by omega)
      have m1 := Int.emod_lt_of_pos x hp
      have hne : (y != 0) = true := by simpa using hy
      have GS := Lib.hid (gcd_step hx0 hp)
      go_wp2_with fail
      go_region
      all_goals
        go_wp2
        refine ⟨⟨y, x % y, by omega, by omega, by omega, by omega, rfl, by first | rfl | go_num, ⟨GS.out.trans hw.out.1, hw.out.2.drew⟩⟩, by simp [intOf]; omega⟩
end Go.Proofs.Ytogdpkeojccpcaa
