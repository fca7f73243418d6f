/- HealthPlays: the walk of the law: both monitors stand alike in every round. -/
import Derived.Test.YthejgbagpnoadaaHealthW
import Derived.Test.YthejgbagpnoadaaArgs
import Derived.Deep.RegionHeld3
import Derived.Deep.DrawnRows
namespace Go.Proofs.Ythejgbagpnoadaa
set_option linter.all false
open Go.RowKit
attribute [local go_sem ↓] Go.wp_at_zero Go.wp_at_succ

set_option maxRecDepth 100000 in
set_option maxHeartbeats 4000000 in
theorem healthPlays_core (w : World) (A0 : Option Addr) (n0 c0 : Nat) (Z0 : Nat → Nat → Value) (m0 : n0 ≤ maxLen) (r0 : Rd w A0 n0 [.int .i64, .int .i64, .int .i64, .int .i64] Z0) :
    Calls Try.prog 3 #[.slice A0 n0 c0] w (Holds w) := by
  unfold maxLen at m0
  have R0 := Lib.hid r0
  clear r0
  go_enter Try.func3, Try.ntmps3
  go_wp2_with (first
    | (go_at_call 7; refine (hnew_any _).mono ?_; rintro r x ⟨rfl, h1, h2⟩; have M0 := Lib.hid h1; have HU := Lib.hid h2; have hsz := h1.lt; clear h1 h2)
    | (go_at_call 8; refine (rnew_any _).mono ?_; rintro r y ⟨rfl, h1, h2⟩; have M1 := Lib.hid (M0.out.upd (Upd.of_below h2) (by simp; omega)); have M2 := Lib.hid h1; have hs2 := h2.size; replace HU := Lib.hid (HU.out.trans (h2.mono HU.out.size)); clear h1 h2 M0))
  go_loopw [5] (fun i wr => ∃ (k : Nat) (H T Q : Nat → Int), k ≤ n0 ∧ k ≤ 300 ∧ i = .int .i64 k ∧ Hid (MonP wr w.heap.size H T Q ∧ MonR wr x.heap.size H T Q ∧ Good k T ∧ Below w.heap.size w wr)) (fun i _ => 300 - (intOf i).toNat)
  case atStart => exact ⟨0, newH, fun _ => 0, fun _ => 0, by omega, by omega, rfl, ⟨M1.out, M2.out, ⟨fun i hi => by simp, fun p hp => rfl⟩, HU.out⟩⟩
  case round =>
    obtain ⟨k, H, T, Q, hk, hk2, rfl, hw⟩ := hrel
    clear M1 M2 HU
    by_cases hc : k < n0 ∧ k < 300
    · obtain ⟨b, off, rfl, hlt, hz⟩ := R0.out k hc.1
      obtain ⟨hz0, z0, e0, w0⟩ := hz 0 _ rfl
      obtain ⟨hz1, z1, e1, w1⟩ := hz 1 _ rfl
      obtain ⟨hz2, z2, e2, w2⟩ := hz 2 _ rfl
      obtain ⟨hz3, z3, e3, w3⟩ := hz 3 _ rfl
      rw [e0] at hz0
      rw [e1] at hz1
      rw [e2] at hz2
      rw [e3] at hz3
      have d0 : wr.cell? ⟨b, off + k * 4, none⟩ = some (.int .i64 z0) := (hw.out.2.2.2.cell (by exact hlt)).trans hz0
      have d1 : wr.cell? ⟨b, off + k * 4 + 1, none⟩ = some (.int .i64 z1) := (hw.out.2.2.2.cell (by exact hlt)).trans hz1
      have d2 : wr.cell? ⟨b, off + k * 4 + 2, none⟩ = some (.int .i64 z2) := (hw.out.2.2.2.cell (by exact hlt)).trans hz2
      have d3 : wr.cell? ⟨b, off + k * 4 + 3, none⟩ = some (.int .i64 z3) := (hw.out.2.2.2.cell (by exact hlt)).trans hz3
      have hk1 := hc.1
      have hk3 := hc.2
      clear hz hz0 hz1 hz2 hz3 e0 e1 e2 e3
      have q5 := Int.emod_nonneg z0 (b := 4) (by decide)
      have q6 := Int.emod_lt_of_pos z0 (b := 4) (by decide)
      have HP0 := Lib.hid (hw.out.1.alloc (.cells #[.int .i64 z0, .int .i64 z1, .int .i64 z2, .int .i64 z3] 28))
      have HR0 := Lib.hid (hw.out.2.1.alloc (.cells #[.int .i64 z0, .int .i64 z1, .int .i64 z2, .int .i64 z3] 28))
      have HB0 := Lib.hid (hw.out.2.2.2.alloc hw.out.2.2.2.size (.cells #[.int .i64 z0, .int .i64 z1, .int .i64 z2, .int .i64 z3] 28))
      have D1 : Hid ((wr.alloc (.cells #[.int .i64 z0, .int .i64 z1, .int .i64 z2, .int .i64 z3] 28)).cell? ⟨wr.heap.size, 1, none⟩ = some (.int .i64 z1)) := (Blk.new wr 28 _).cell 1
      have D2 : Hid ((wr.alloc (.cells #[.int .i64 z0, .int .i64 z1, .int .i64 z2, .int .i64 z3] 28)).cell? ⟨wr.heap.size, 2, none⟩ = some (.int .i64 z2)) := (Blk.new wr 28 _).cell 2
      have D3 : Hid ((wr.alloc (.cells #[.int .i64 z0, .int .i64 z1, .int .i64 z2, .int .i64 z3] 28)).cell? ⟨wr.heap.size, 3, none⟩ = some (.int .i64 z3)) := (Blk.new wr 28 _).cell 3
      have SM := Lib.hid (hw.out.2.2.1.small (by omega))
      have lt1 := hw.out.1.lt
      have lt2 := hw.out.2.1.lt
      go_wp2_with (go_at_call 9; refine (bring_any _ _ _ (wf_bounds w0) (by omega)).mono ?_; rintro r x1 ⟨rfl, -, rfl⟩)
      · go_region_held3 (fun w' => w'.cell? ⟨wr.heap.size, 1, none⟩ = some (.int .i64 z1) ∧ w'.cell? ⟨wr.heap.size, 2, none⟩ = some (.int .i64 z2) ∧ w'.cell? ⟨wr.heap.size, 3, none⟩ = some (.int .i64 z3)) (first | go_keep | (exact E2.out) | (exact E1.out))
          (first
            | (go_at_call 10; refine (hset_any _ z1 z2 z3 _ (by exact HP0.out)).mono ?_; rintro r x1 ⟨rfl, h1, hu1⟩; have HP1 := Lib.hid h1; have HU1 := Lib.hid hu1; have HR1 := Lib.hid (HR0.out.drew.upd hu1 (by omega)); have E1 := Lib.hid (show x1.cell? ⟨wr.heap.size, 1, none⟩ = some (.int .i64 z1) ∧ x1.cell? ⟨wr.heap.size, 2, none⟩ = some (.int .i64 z2) ∧ x1.cell? ⟨wr.heap.size, 3, none⟩ = some (.int .i64 z3) from ⟨(hu1.cell (p := ⟨wr.heap.size, 1, none⟩) (show wr.heap.size < (wr.alloc _).heap.size by simp) (by simp; omega)).trans D1.out, (hu1.cell (p := ⟨wr.heap.size, 2, none⟩) (show wr.heap.size < (wr.alloc _).heap.size by simp) (by simp; omega)).trans D2.out, (hu1.cell (p := ⟨wr.heap.size, 3, none⟩) (show wr.heap.size < (wr.alloc _).heap.size by simp) (by simp; omega)).trans D3.out⟩); have LT1 := Lib.hid (cell_lt E1.out.1); clear h1 hu1)
            | (go_at_call 11; refine (rset_any _ z1 z2 z3 _ HR1.out).mono ?_; rintro r x2 ⟨rfl, h1, hu1⟩; have HP2 := Lib.hid (HP1.out.upd hu1 (by omega)); have HU2 := Lib.hid hu1; have HR2 := Lib.hid h1; have E2 := Lib.hid (show x2.cell? ⟨wr.heap.size, 1, none⟩ = some (.int .i64 z1) ∧ x2.cell? ⟨wr.heap.size, 2, none⟩ = some (.int .i64 z2) ∧ x2.cell? ⟨wr.heap.size, 3, none⟩ = some (.int .i64 z3) from ⟨(hu1.cell (p := ⟨wr.heap.size, 1, none⟩) LT1.out (by simp; omega)).trans E1.out.1, (hu1.cell (p := ⟨wr.heap.size, 2, none⟩) LT1.out (by simp; omega)).trans E1.out.2.1, (hu1.cell (p := ⟨wr.heap.size, 3, none⟩) LT1.out (by simp; omega)).trans E1.out.2.2⟩); clear h1 hu1))
        have e1 := E2.out.1
        have e2 := E2.out.2.1
        go_wp2_with fail
        go_quiet (first | (go_at_call 18; exact hcount_q _ _ _ HP2.out) | (go_at_call 19; exact rcount_q _ _ _ HR2.out))
        go_wp2
        refine ⟨⟨k + 1, _, _, _, by omega, by omega, by go_num, ⟨HP2.out.drewN _, HR2.out.drewN _, hw.out.2.2.1.more (by omega), ?_⟩⟩, by simp [intOf]; omega⟩
        exact ((HB0.out.drew.trans (HU1.out.below (by exact HB0.out.size) (fun q hq => by omega))).trans (HU2.out.below (by exact Nat.le_trans HB0.out.size HU1.out.size) (fun q hq => by omega))).trans ⟨rfl, rfl, rfl, Nat.le_refl _, fun _ _ => rfl⟩
      · go_region_held3 (fun w' => w'.cell? ⟨wr.heap.size, 1, none⟩ = some (.int .i64 z1) ∧ w'.cell? ⟨wr.heap.size, 2, none⟩ = some (.int .i64 z2) ∧ w'.cell? ⟨wr.heap.size, 3, none⟩ = some (.int .i64 z3)) (first | go_keep | (exact E2.out) | (exact E1.out))
          (first
            | (go_at_call 12; refine (hpat_any _ z1 z3 _ (by exact HP0.out)).mono ?_; rintro r x1 ⟨rfl, h1, hu1⟩; have HP1 := Lib.hid h1; have HU1 := Lib.hid hu1; have HR1 := Lib.hid (HR0.out.drew.upd hu1 (by omega)); have E1 := Lib.hid (show x1.cell? ⟨wr.heap.size, 1, none⟩ = some (.int .i64 z1) ∧ x1.cell? ⟨wr.heap.size, 2, none⟩ = some (.int .i64 z2) ∧ x1.cell? ⟨wr.heap.size, 3, none⟩ = some (.int .i64 z3) from ⟨(hu1.cell (p := ⟨wr.heap.size, 1, none⟩) (show wr.heap.size < (wr.alloc _).heap.size by simp) (by simp; omega)).trans D1.out, (hu1.cell (p := ⟨wr.heap.size, 2, none⟩) (show wr.heap.size < (wr.alloc _).heap.size by simp) (by simp; omega)).trans D2.out, (hu1.cell (p := ⟨wr.heap.size, 3, none⟩) (show wr.heap.size < (wr.alloc _).heap.size by simp) (by simp; omega)).trans D3.out⟩); have LT1 := Lib.hid (cell_lt E1.out.1); clear h1 hu1)
            | (go_at_call 13; refine (rpat_any _ z1 z3 _ HR1.out).mono ?_; rintro r x2 ⟨rfl, h1, hu1⟩; have HP2 := Lib.hid (HP1.out.upd hu1 (by omega)); have HU2 := Lib.hid hu1; have HR2 := Lib.hid h1; have E2 := Lib.hid (show x2.cell? ⟨wr.heap.size, 1, none⟩ = some (.int .i64 z1) ∧ x2.cell? ⟨wr.heap.size, 2, none⟩ = some (.int .i64 z2) ∧ x2.cell? ⟨wr.heap.size, 3, none⟩ = some (.int .i64 z3) from ⟨(hu1.cell (p := ⟨wr.heap.size, 1, none⟩) LT1.out (by simp; omega)).trans E1.out.1, (hu1.cell (p := ⟨wr.heap.size, 2, none⟩) LT1.out (by simp; omega)).trans E1.out.2.1, (hu1.cell (p := ⟨wr.heap.size, 3, none⟩) LT1.out (by simp; omega)).trans E1.out.2.2⟩); clear h1 hu1))
        have e1 := E2.out.1
        have e2 := E2.out.2.1
        go_wp2_with fail
        go_quiet (first | (go_at_call 18; exact hcount_q _ _ _ HP2.out) | (go_at_call 19; exact rcount_q _ _ _ HR2.out))
        go_wp2
        refine ⟨⟨k + 1, _, _, _, by omega, by omega, by go_num, ⟨HP2.out.drewN _, HR2.out.drewN _, hw.out.2.2.1.more (by omega), ?_⟩⟩, by simp [intOf]; omega⟩
        exact ((HB0.out.drew.trans (HU1.out.below (by exact HB0.out.size) (fun q hq => by omega))).trans (HU2.out.below (by exact Nat.le_trans HB0.out.size HU1.out.size) (fun q hq => by omega))).trans ⟨rfl, rfl, rfl, Nat.le_refl _, fun _ _ => rfl⟩
      · go_wp2_with (first | (go_at_call 14; refine (htell_any _ z1 z2 _ (by exact HP0.out) SM.out).mono ?_; rintro r x1 ⟨rfl, h1, hu1⟩; have HP1 := Lib.hid h1; have HU1 := Lib.hid hu1; have HR1 := Lib.hid (HR0.out.upd hu1 (by omega)); have E1 := Lib.hid (show x1.cell? ⟨wr.heap.size, 1, none⟩ = some (.int .i64 z1) ∧ x1.cell? ⟨wr.heap.size, 2, none⟩ = some (.int .i64 z2) ∧ x1.cell? ⟨wr.heap.size, 3, none⟩ = some (.int .i64 z3) from ⟨(hu1.cell (p := ⟨wr.heap.size, 1, none⟩) (show wr.heap.size < (wr.alloc _).heap.size by simp) (by simp; omega)).trans D1.out, (hu1.cell (p := ⟨wr.heap.size, 2, none⟩) (show wr.heap.size < (wr.alloc _).heap.size by simp) (by simp; omega)).trans D2.out, (hu1.cell (p := ⟨wr.heap.size, 3, none⟩) (show wr.heap.size < (wr.alloc _).heap.size by simp) (by simp; omega)).trans D3.out⟩); have LT1 := Lib.hid (cell_lt E1.out.1); have c1 := E1.out.1; have c2 := E1.out.2.1; have c3 := E1.out.2.2; clear h1 hu1) | (go_at_call 15; refine (rtell_any _ z1 z2 _ HR1.out SM.out hw.out.2.2.1).mono ?_; rintro r x2 ⟨rfl, h1, hu1⟩; have HP2 := Lib.hid (HP1.out.upd hu1 (by omega)); have HU2 := Lib.hid hu1; have HR2 := Lib.hid h1; have E2 := Lib.hid (show x2.cell? ⟨wr.heap.size, 1, none⟩ = some (.int .i64 z1) ∧ x2.cell? ⟨wr.heap.size, 2, none⟩ = some (.int .i64 z2) ∧ x2.cell? ⟨wr.heap.size, 3, none⟩ = some (.int .i64 z3) from ⟨(hu1.cell (p := ⟨wr.heap.size, 1, none⟩) LT1.out (by simp; omega)).trans E1.out.1, (hu1.cell (p := ⟨wr.heap.size, 2, none⟩) LT1.out (by simp; omega)).trans E1.out.2.1, (hu1.cell (p := ⟨wr.heap.size, 3, none⟩) LT1.out (by simp; omega)).trans E1.out.2.2⟩); clear h1 hu1))
        have e1 := E2.out.1
        have e2 := E2.out.2.1
        go_quiet (first | (go_at_call 18; exact hcount_q _ _ _ HP2.out) | (go_at_call 19; exact rcount_q _ _ _ HR2.out))
        go_wp2
        refine ⟨⟨k + 1, _, _, _, by omega, by omega, by go_num, ⟨HP2.out.drewN _, HR2.out.drewN _, by have := hw.out.2.2.1.tell z1 z2; simpa using this, ?_⟩⟩, by simp [intOf]; omega⟩
        exact ((HB0.out.trans (HU1.out.below (by exact HB0.out.size) (fun q hq => by omega))).trans (HU2.out.below (by exact Nat.le_trans HB0.out.size HU1.out.size) (fun q hq => by omega))).trans ⟨rfl, rfl, rfl, Nat.le_refl _, fun _ _ => rfl⟩
      · go_region_held3 (fun w' => w'.cell? ⟨wr.heap.size, 1, none⟩ = some (.int .i64 z1) ∧ w'.cell? ⟨wr.heap.size, 2, none⟩ = some (.int .i64 z2) ∧ w'.cell? ⟨wr.heap.size, 3, none⟩ = some (.int .i64 z3)) (first | go_keep | (exact E2.out) | (exact E1.out))
          (first
            | (go_at_call 16; refine (hclear_any _ z1 _ (by exact HP0.out)).mono ?_; rintro r x1 ⟨rfl, h1, hu1⟩; have HP1 := Lib.hid h1; have HU1 := Lib.hid hu1; have HR1 := Lib.hid (HR0.out.drew.upd hu1 (by omega)); have E1 := Lib.hid (show x1.cell? ⟨wr.heap.size, 1, none⟩ = some (.int .i64 z1) ∧ x1.cell? ⟨wr.heap.size, 2, none⟩ = some (.int .i64 z2) ∧ x1.cell? ⟨wr.heap.size, 3, none⟩ = some (.int .i64 z3) from ⟨(hu1.cell (p := ⟨wr.heap.size, 1, none⟩) (show wr.heap.size < (wr.alloc _).heap.size by simp) (by simp; omega)).trans D1.out, (hu1.cell (p := ⟨wr.heap.size, 2, none⟩) (show wr.heap.size < (wr.alloc _).heap.size by simp) (by simp; omega)).trans D2.out, (hu1.cell (p := ⟨wr.heap.size, 3, none⟩) (show wr.heap.size < (wr.alloc _).heap.size by simp) (by simp; omega)).trans D3.out⟩); have LT1 := Lib.hid (cell_lt E1.out.1); clear h1 hu1)
            | (go_at_call 17; refine (rclear_any _ z1 _ HR1.out).mono ?_; rintro r x2 ⟨rfl, h1, hu1⟩; have HP2 := Lib.hid (HP1.out.upd hu1 (by omega)); have HU2 := Lib.hid hu1; have HR2 := Lib.hid h1; have E2 := Lib.hid (show x2.cell? ⟨wr.heap.size, 1, none⟩ = some (.int .i64 z1) ∧ x2.cell? ⟨wr.heap.size, 2, none⟩ = some (.int .i64 z2) ∧ x2.cell? ⟨wr.heap.size, 3, none⟩ = some (.int .i64 z3) from ⟨(hu1.cell (p := ⟨wr.heap.size, 1, none⟩) LT1.out (by simp; omega)).trans E1.out.1, (hu1.cell (p := ⟨wr.heap.size, 2, none⟩) LT1.out (by simp; omega)).trans E1.out.2.1, (hu1.cell (p := ⟨wr.heap.size, 3, none⟩) LT1.out (by simp; omega)).trans E1.out.2.2⟩); clear h1 hu1))
        have e1 := E2.out.1
        have e2 := E2.out.2.1
        go_wp2_with fail
        go_quiet (first | (go_at_call 18; exact hcount_q _ _ _ HP2.out) | (go_at_call 19; exact rcount_q _ _ _ HR2.out))
        go_wp2
        refine ⟨⟨k + 1, _, _, _, by omega, by omega, by go_num, ⟨HP2.out.drewN _, HR2.out.drewN _, (hw.out.2.2.1.clear (by omega) z1).more (by omega), ?_⟩⟩, by simp [intOf]; omega⟩
        exact ((HB0.out.drew.trans (HU1.out.below (by exact HB0.out.size) (fun q hq => by omega))).trans (HU2.out.below (by exact Nat.le_trans HB0.out.size HU1.out.size) (fun q hq => by omega))).trans ⟨rfl, rfl, rfl, Nat.le_refl _, fun _ _ => rfl⟩
    · have HW := hw.out
      have HB := Lib.hid hw.out.2.2.2
      by_cases hk1 : k < n0
      · have hk3 : ¬ (k : Int) < 300 := by omega
        go_wp2_with (go_at_call 20; refine (health_works _).mono ?_; rintro r x1 ⟨rfl, hx⟩)
        go_ret
        exact ⟨rfl, HB.out.trans (hx.mono HB.out.size)⟩
      · go_wp2_with (go_at_call 20; refine (health_works _).mono ?_; rintro r x1 ⟨rfl, hx⟩)
        go_ret
        exact ⟨rfl, HB.out.trans (hx.mono HB.out.size)⟩
end Go.Proofs.Ythejgbagpnoadaa
