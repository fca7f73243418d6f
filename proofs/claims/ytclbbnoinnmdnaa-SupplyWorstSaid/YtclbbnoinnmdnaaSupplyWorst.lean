/- SupplyWorst: the walk of the law: in the worst ticks the server runs just as often as the supply says. -/
import Derived.Test.YtclbbnoinnmdnaaSupplyMade
namespace Go.Proofs.Ytclbbnoinnmdnaa
set_option linter.all false
open Go.RowKit

theorem gives_inc {p b j : Int} (h : OkS p b) (hj : 0 ≤ j) : givesI p b (j + 1) = givesI p b j + if p ≤ b + j ∧ p - b ≤ (b + j) % p then 1 else 0 := by
  have h' := h
  obtain ⟨h1, h2, h3, h4⟩ := h'
  by_cases hc : j < p - b
  · rw [gives_low hc, if_neg (by omega)]
    by_cases hd : j + 1 < p - b
    · rw [gives_low hd]; rfl
    · rw [show j + 1 = p - b + (0 * p + 0) from by omega, gives_at h (by omega) (by omega)]
      omega
  · obtain ⟨q, r, hq, hr0, hr1, rfl, _⟩ := split_at h (by omega : p - b ≤ j)
    rw [gives_at h hq ⟨hr0, hr1⟩]
    have hm : (b + (p - b + (q * p + r))) % p = r := by
      rw [show b + (p - b + (q * p + r)) = (q + 1) * p + r from by rw [Int.add_mul]; omega]
      exact mod_at ⟨hr0, hr1⟩
    rw [hm]
    have hqp := Int.mul_nonneg hq (show 0 ≤ p by omega)
    by_cases hr : r + 1 < p
    · rw [show p - b + (q * p + r) + 1 = p - b + (q * p + (r + 1)) from by omega, gives_at h hq (by omega)]
      split <;> omega
    · rw [show p - b + (q * p + r) + 1 = p - b + ((q + 1) * p + 0) from by rw [Int.add_mul]; omega, gives_at h (by omega) (by omega), Int.add_mul]
      split <;> omega

set_option maxRecDepth 100000 in
set_option maxHeartbeats 2000000 in
theorem supplyWorst_core (w : World) (a0_0 : Int) (h0_0 : -9223372036854775808 ≤ a0_0 ∧ a0_0 ≤ 9223372036854775807) (a0_1 : Int) (h0_1 : -9223372036854775808 ≤ a0_1 ∧ a0_1 ≤ 9223372036854775807) (a1 : Int) (h1 : -9223372036854775808 ≤ a1 ∧ a1 ≤ 9223372036854775807) :
    Calls Try.prog 10 #[.agg #[.int .i64 a0_0, .int .i64 a0_1], .int .i64 a1] w (Holds w) := by
  have hok := made_ok a0_0 a0_1
  obtain ⟨p, hp⟩ : ∃ p, madeP a0_0 = p := ⟨_, rfl⟩
  obtain ⟨b, hb⟩ : ∃ b, madeB a0_0 a0_1 = b := ⟨_, rfl⟩
  have hmade := made_any a0_0 a0_1
  rw [hp, hb] at hok hmade
  have MADE := Lib.hid hmade
  clear hp hb hmade
  have OK := Lib.hid hok
  obtain ⟨k1, k2, k3, k4⟩ := hok
  have t0 := Int.emod_nonneg a1 (b := 300) (by decide)
  have t1 := Int.emod_lt_of_pos a1 (b := 300) (by decide)
  have hz : (p == 0) = false := by simp; omega
  go_enter Try.func10, Try.ntmps10
  go_wp2_with (first
    | (go_at_call 30; refine (MADE.out _ (by assumption) (by assumption)).mono ?_; rintro r x1 ⟨rfl, hx⟩; have hb1 := (Blk.new w 47 #[.int .i64 a0_0, .int .i64 a0_1]).below hx (by simp); obtain ⟨c0, c1, f0, f1⟩ := two_facts hb1; have HS := Lib.hid (two_set hb1 (.int .i64 p) (.int .i64 b)); have HU := Lib.hid ((((Below.refl w.heap.size w).alloc (Nat.le_refl _) (.cells #[.int .i64 a0_0, .int .i64 a0_1] 47)).trans (hx.mono (by simp))).setCell (p := ⟨w.heap.size, 0, none⟩) (Nat.le_refl _) (.int .i64 p) |>.setCell (p := ⟨w.heap.size, 1, none⟩) (Nat.le_refl _) (.int .i64 b)); clear hx hb1)
    | (go_at_call 15; refine (bring_any _ _ _ (by assumption) (by omega)).mono ?_; rintro r x1 ⟨rfl, -, rfl⟩))
  have hc2 := two_facts HS.out
  clear c0 c1 f0 f1
  go_loopw [5, 6] (fun sn si wr => ∃ j : Int, 0 ≤ j ∧ j ≤ a1 % 300 ∧ si = .int .i64 (b + j) ∧ sn = .int .i64 (givesI p b j) ∧ Hid (Blk wr w.heap.size 47 #[.int .i64 p, .int .i64 b] ∧ Below w.heap.size w wr)) (fun _ si _ => (364 - intOf si).toNat)
  case atStart => exact ⟨0, by omega, by omega, by go_num, by rw [(by have := gives_bd OK.out (Int.le_refl 0); omega : givesI p b 0 = 0)], ⟨HS.out, HU.out⟩⟩
  case round =>
    obtain ⟨j, hj0, hj1, rfl, rfl, hw⟩ := hrel
    have bd := gives_bd OK.out hj0
    obtain ⟨c0, c1, _, _⟩ := two_facts hw.out.1
    clear hc2
    by_cases hlt : j < a1 % 300
    · have hinc := gives_inc OK.out hj0
      have m0 := Int.emod_nonneg (b + j) (b := p) (by omega)
      have m1 := Int.emod_lt_of_pos (b + j) (b := p) (by omega)
      have hw64 : IntKind.i64.wrap (p - b) = p - b := IntWalk.i64_in _ (by omega)
      by_cases hg1 : p ≤ b + j
      · by_cases hg2 : p - b ≤ (b + j) % p
        · have INC := Lib.hid (show givesI p b (j + 1) = givesI p b j + 1 by rw [hinc, if_pos ⟨hg1, hg2⟩])
          clear hinc
          go_wp2_with fail
          go_quiet (fail)
          go_wp2
          exact ⟨⟨j + 1, by omega, by omega, by go_num, by rw [INC.out], ⟨hw.out.1.drewN _, hw.out.2.trans ⟨rfl, rfl, rfl, Nat.le_refl _, fun _ _ => rfl⟩⟩⟩, by simp [intOf]; omega⟩
        · have INC := Lib.hid (show givesI p b (j + 1) = givesI p b j by rw [hinc, if_neg (by omega)]; omega)
          have hd2 : decide (p - b ≤ (b + j) % p) = false := by simpa using hg2
          clear hinc
          go_wp2_with fail
          go_quiet (fail)
          go_wp2
          exact ⟨⟨j + 1, by omega, by omega, by go_num, by rw [INC.out], ⟨hw.out.1.drewN _, hw.out.2.trans ⟨rfl, rfl, rfl, Nat.le_refl _, fun _ _ => rfl⟩⟩⟩, by simp [intOf]; omega⟩
      · have INC := Lib.hid (show givesI p b (j + 1) = givesI p b j by rw [hinc, if_neg (by omega)]; omega)
        have hd1 : decide (p ≤ b + j) = false := by simpa using hg1
        clear hinc
        go_wp2_with fail
        go_quiet (fail)
        go_wp2
        exact ⟨⟨j + 1, by omega, by omega, by go_num, by rw [INC.out], ⟨hw.out.1.drewN _, hw.out.2.trans ⟨rfl, rfl, rfl, Nat.le_refl _, fun _ _ => rfl⟩⟩⟩, by simp [intOf]; omega⟩
    · have hj : j = a1 % 300 := by omega
      subst hj
      have HU2 := Lib.hid hw.out.2
      go_wp2_with (first
        | (go_at_call 25; refine (Of_ok p b _ _ OK.out (by omega)).mono ?_; rintro r x2 ⟨rfl, hx⟩; replace HU2 := Lib.hid (HU2.out.trans (hx.mono HU2.out.size)); clear hx)
        | (go_at_call 27; refine (supply_works _).mono ?_; rintro r x3 ⟨rfl, hx⟩; replace HU2 := Lib.hid (HU2.out.trans (hx.mono HU2.out.size)); clear hx))
      go_ret
      exact ⟨rfl, HU2.out⟩
end Go.Proofs.Ytclbbnoinnmdnaa
