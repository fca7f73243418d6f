/- SupplySteps: the walk of the law. -/
import Derived.Test.YtclbbnoinnmdnaaSupplyMade
namespace Go.Proofs.Ytclbbnoinnmdnaa
set_option linter.all false
open Go.RowKit

set_option maxRecDepth 100000 in
set_option maxHeartbeats 2000000 in
theorem supplySteps_core (w : World) (a0_0 : Int) (h0_0 : -9223372036854775808 ≤ a0_0 ∧ a0_0 ≤ 9223372036854775807) (a0_1 : Int) (h0_1 : -9223372036854775808 ≤ a0_1 ∧ a0_1 ≤ 9223372036854775807) (a1 : Int) (h1 : -9223372036854775808 ≤ a1 ∧ a1 ≤ 9223372036854775807) (a2 : Int) (h2 : -9223372036854775808 ≤ a2 ∧ a2 ≤ 9223372036854775807) :
    Calls Try.prog 11 #[.agg #[.int .i64 a0_0, .int .i64 a0_1], .int .i64 a1, .int .i64 a2] w (Holds w) := by
  have hok := made_ok a0_0 a0_1
  obtain ⟨p, hp⟩ : ∃ p, madeP a0_0 = p := ⟨_, rfl⟩
  obtain ⟨b, hb⟩ : ∃ b, madeB a0_0 a0_1 = b := ⟨_, rfl⟩
  have hmade := made_any a0_0 a0_1
  rw [hp, hb] at hok hmade
  have MADE := Lib.hid hmade
  clear hp hb hmade
  have OK := Lib.hid hok
  obtain ⟨k1, k2, k3, k4⟩ := hok
  have t0 := Int.emod_nonneg a1 (b := 524288) (by decide)
  have t1 := Int.emod_lt_of_pos a1 (b := 524288) (by decide)
  have n0 := Int.emod_nonneg a2 (b := 4097) (by decide)
  have n1 := Int.emod_lt_of_pos a2 (b := 4097) (by decide)
  have W0 := gives_wait OK.out n0
  have W1 := wait_le OK.out ⟨n0, by omega⟩
  have hst := gives_step OK.out t0
  have hpe := fun h => gives_period (t := a1 % 524288) OK.out h
  obtain ⟨W, hW⟩ : ∃ W, waitI p b (a2 % 4097) = W := ⟨_, rfl⟩
  rw [hW] at W0 W1
  have WE := Lib.hid hW
  clear hW
  obtain ⟨g0, e0⟩ : ∃ g, givesI p b (a1 % 524288) = g := ⟨_, rfl⟩
  obtain ⟨g1, e1⟩ : ∃ g, givesI p b (a1 % 524288 + 1) = g := ⟨_, rfl⟩
  obtain ⟨g2, e2⟩ : ∃ g, givesI p b (a1 % 524288 + p) = g := ⟨_, rfl⟩
  obtain ⟨g3, e3⟩ : ∃ g, givesI p b W = g := ⟨_, rfl⟩
  obtain ⟨g4, e4⟩ : ∃ g, givesI p b (W - 1) = g := ⟨_, rfl⟩
  have bd := gives_bd OK.out t0
  rw [e0] at hst hpe bd
  rw [e1] at hst
  rw [e2] at hpe
  rw [e3, e4] at W0
  obtain ⟨W2, W3, W4⟩ := W0
  have hpe' : a1 % 524288 < p - b ∨ g2 = g0 + b := by
    rcases Int.lt_or_le (a1 % 524288) (p - b) with h | h
    · exact .inl h
    · exact .inr (hpe h)
  have hw4 : W ≤ 0 ∨ g4 < a2 % 4097 := by
    rcases Int.lt_or_le (a2 % 4097) 1 with h | h
    · left
      have h0 : a2 % 4097 = 0 := by omega
      have hz := WE.out
      rw [h0] at hz
      have : waitI p b 0 = 0 := rfl
      omega
    · right
      have := (W4 h).1
      omega
  have hw2 : a2 % 4097 ≤ g3 := by omega
  clear hpe W2 W4
  go_enter Try.func11, Try.ntmps11
  go_wp2_with (first
    | (go_at_call 30; refine (MADE.out _ (by assumption) (by assumption)).mono ?_; rintro r x1 ⟨rfl, hx⟩; have hb1 := (Blk.new w 47 #[.int .i64 a0_0, .int .i64 a0_1]).below hx (by simp); obtain ⟨c0, c1, f0, f1⟩ := two_facts hb1; have HS := Lib.hid (two_set hb1 (.int .i64 p) (.int .i64 b)); have HU := Lib.hid ((((Below.refl w.heap.size w).alloc (Nat.le_refl _) (.cells #[.int .i64 a0_0, .int .i64 a0_1] 47)).trans (hx.mono (by simp))).setCell (p := ⟨w.heap.size, 0, none⟩) (Nat.le_refl _) (.int .i64 p) |>.setCell (p := ⟨w.heap.size, 1, none⟩) (Nat.le_refl _) (.int .i64 b)); clear hx hb1)
    | (go_at_call 15; refine (bring_any _ _ _ (by assumption) (by omega)).mono ?_; rintro r x1 ⟨rfl, -, rfl⟩)
    | (go_at_call 25; refine (Of_ok p b _ _ OK.out (by omega)).mono ?_; rintro r x2 ⟨rfl, hx⟩; replace HS := Lib.hid (HS.out.below hx HS.out.lt); replace HU := Lib.hid (HU.out.trans (hx.mono HU.out.size)); have hc2 := two_facts HS.out; replace c0 := hc2.1; replace c1 := hc2.2.1; clear hx hc2)
    | (go_at_call 28; refine (Wait_ok p b _ _ OK.out (by omega)).mono ?_; rintro r x2 ⟨rfl, hx⟩; rw [WE.out]; replace HS := Lib.hid (HS.out.below hx HS.out.lt); replace HU := Lib.hid (HU.out.trans (hx.mono HU.out.size)); have hc2 := two_facts HS.out; replace c0 := hc2.1; replace c1 := hc2.2.1; clear hx hc2)
    | (go_at_call 27; refine (supply_works _).mono ?_; rintro r x3 ⟨rfl, hx⟩; replace HU := Lib.hid (HU.out.trans (hx.mono HU.out.size)); clear hx))
  all_goals
    go_ret
    exact ⟨rfl, HU.out⟩
end Go.Proofs.Ytclbbnoinnmdnaa
