/- SupplyNames: the walk of the closed law. -/
import Derived.Test.YtclbbnoinnmdnaaSupplyOf
namespace Go.Proofs.Ytclbbnoinnmdnaa
set_option linter.all false
open Go.RowKit

set_option maxRecDepth 100000 in
set_option maxHeartbeats 4000000 in
theorem supplyNames_core (w : World) : Calls Try.prog 12 #[] w (Holds w) := by
  have s1 : OkS 64 64 := by unfold OkS; decide
  have s2 : OkS 64 1 := by unfold OkS; decide
  have n1 : ¬ (OkS 64 64 ∧ (0 : Int) ≤ 1048577 ∧ (1048577 : Int) ≤ 1048576) := by omega
  have n2 : ¬ (OkS 65 1 ∧ (0 : Int) ≤ 1 ∧ (1 : Int) ≤ 1048576) := by unfold OkS; omega
  have n3 : ¬ (OkS 64 1 ∧ (0 : Int) ≤ 4097 ∧ (4097 : Int) ≤ 4096) := by omega
  have v1 : givesI 64 64 1048576 = 1048576 := by decide
  have v2 : waitI 64 1 4096 = 262207 := by decide
  have S1 := Lib.hid (And.intro s1 s2)
  have S2 := Lib.hid (And.intro n1 (And.intro n2 n3))
  clear s1 s2 n1 n2 n3
  go_enter Try.func12, Try.ntmps12
  go_wp2_with fail
  go_loopw [1] (fun i wr => ∃ p : Int, -1 ≤ p ∧ p ≤ 7 ∧ i = .int .i64 p ∧ Hid (Below w.heap.size w wr)) (fun i _ => (7 - intOf i).toNat)
  case atStart => exact ⟨-1, by omega, by omega, rfl, Below.refl _ _⟩
  case round =>
    obtain ⟨p, hp0, hp1, rfl, hB⟩ := hrel
    by_cases hc : p < 7
    · have hd : decide (p < 7) = true := by simpa using hc
      go_wp2_with fail
      obtain ⟨wo, rfl⟩ : ∃ wo : World, wo = wr := ⟨_, rfl⟩
      go_loopw [2] (fun i wr => ∃ b : Int, -1 ≤ b ∧ b ≤ 8 ∧ i = .int .i64 b ∧ Hid (Below w.heap.size w wr)) (fun i _ => (8 - intOf i).toNat)
      case atStart => exact ⟨-1, by omega, by omega, rfl, hB⟩
      case round =>
        obtain ⟨b, hb0, hb1, rfl, hB1⟩ := hrel
        by_cases hcb : b < 8
        · have hdb : decide (b < 8) = true := by simpa using hcb
          go_wp2_with fail
          obtain ⟨wo2, rfl⟩ : ∃ wo : World, wo = wr := ⟨_, rfl⟩
          go_loopw [3] (fun i wr => ∃ t : Int, -1 ≤ t ∧ t ≤ 20 ∧ i = .int .i64 t ∧ Hid (Below w.heap.size w wr)) (fun i _ => (20 - intOf i).toNat)
          case atStart => exact ⟨-1, by omega, by omega, rfl, hB1⟩
          case round =>
            obtain ⟨t, ht0, ht1, rfl, hB2⟩ := hrel
            by_cases hct : t < 20
            · go_wp2_with (first
                | (go_at_call 7; refine (supplyOf_core _ _ (by omega) _ (by omega) _ (by omega)).mono ?_; rintro r w1 ⟨rfl, hx⟩; replace hB2 : Hid _ := hB2.out.trans (hx.mono hB2.out.size); clear hx)
                | (go_at_call 8; refine (supplyWait_core _ _ (by omega) _ (by omega) _ (by omega)).mono ?_; rintro r w1 ⟨rfl, hx⟩; replace hB2 : Hid _ := hB2.out.trans (hx.mono hB2.out.size); clear hx))
              exact ⟨⟨t + 1, by omega, by omega, by go_num, hB2⟩, by simp [intOf]; omega⟩
            · go_wp2_with fail
              exact ⟨⟨b + 1, by omega, by omega, by go_num, hB2⟩, by simp [intOf]; omega⟩
        · go_wp2_with fail
          exact ⟨⟨p + 1, by omega, by omega, by go_num, hB1⟩, by simp [intOf]; omega⟩
    · go_wp2_with (first
        | (go_at_call 25; refine (Of_ok _ _ _ _ (by exact S1.out.1) (by omega)).mono ?_; rintro r w1 ⟨rfl, hx⟩; replace hB : Hid _ := hB.out.trans (hx.mono hB.out.size); clear hx)
        | (go_at_call 25; refine (Of_no _ _ _ _ (by first | exact S2.out.1 | exact S2.out.2.1)).mono ?_; rintro r w1 ⟨rfl, hx⟩; replace hB : Hid _ := hB.out.trans (hx.mono hB.out.size); clear hx)
        | (go_at_call 28; refine (Wait_ok _ _ _ _ (by exact S1.out.2) (by omega)).mono ?_; rintro r w1 ⟨rfl, hx⟩; replace hB : Hid _ := hB.out.trans (hx.mono hB.out.size); clear hx)
        | (go_at_call 28; refine (Wait_no _ _ _ _ (by exact S2.out.2.2)).mono ?_; rintro r w1 ⟨rfl, hx⟩; replace hB : Hid _ := hB.out.trans (hx.mono hB.out.size); clear hx)
        | (go_at_call 27; refine (supply_works _).mono ?_; rintro r w1 ⟨rfl, hx⟩; replace hB : Hid _ := hB.out.trans (hx.mono hB.out.size); clear hx))
      go_ret
      exact ⟨rfl, hB.out⟩
end Go.Proofs.Ytclbbnoinnmdnaa
