/- SporePlays: the walk of the law: guard and document's guard stand alike in every round. -/
import Derived.Test.YtclbbnoinnmdnaaSporeW
import Derived.Test.YtclbbnoinnmdnaaArgs
namespace Go.Proofs.Ytclbbnoinnmdnaa
set_option linter.all false
open Go.RowKit

set_option maxRecDepth 100000 in
set_option maxHeartbeats 1000000 in
theorem sporePlays_core (w : World) (a0 : Int) (h0 : -9223372036854775808 ≤ a0 ∧ a0 ≤ 9223372036854775807) (A1 : Option Addr) (n1 c1 : Nat) (Z1 : Nat → Nat → Value) (m1 : n1 ≤ maxLen) (r1 : Rd w A1 n1 [.int .i64, .int .i64] Z1) :
    Calls Try.prog 3 #[.int .i64 a0, .slice A1 n1 c1] w (Holds w) := by
  unfold maxLen at m1
  by_cases hp : 1 ≤ a0 ∧ a0 ≤ 64
  · have R1 := Lib.hid r1
    clear r1
    go_enter Try.func3, Try.ntmps3
    go_wp2_with (first
      | (go_at_call 13; refine (new_ok _ _ hp).mono ?_; rintro r w1 ⟨rfl, rfl⟩)
      | (go_at_call 14; refine (r_new_ok _ _ hp).mono ?_; rintro r w1 ⟨rfl, rfl⟩))
    go_loopw [9] (fun i wr => ∃ (k : Nat) (p e : Int), k ≤ n1 ∧ k ≤ 200 ∧ i = .int .i64 k ∧ 1 ≤ p ∧ p ≤ 64 ∧ 0 ≤ e ∧ Blk wr w.heap.size 42 #[.int .i64 p, .int .i64 e] ∧ Blk wr (w.heap.size + 1) 55 #[.int .i64 p, .int .i64 e] ∧ Below w.heap.size w wr)
      (fun i _ => 200 - (intOf i).toNat)
    case atStart =>
      refine ⟨0, a0, 0, by omega, by omega, rfl, hp.1, hp.2, by omega, ?_, ?_, ?_⟩
      · exact (Blk.new _ _ _).alloc _
      · have := Blk.new (w.alloc (.cells #[.int .i64 a0, .int .i64 0] 42)) 55 #[.int .i64 a0, .int .i64 0]
        simpa using this
      · exact ((Below.refl _ _).alloc (Nat.le_refl _) _).alloc (by simp) _
    case round =>
      obtain ⟨k, p, e, hk, hk2, rfl, hp1, hp2, he, hb, hm, hB⟩ := hrel
      by_cases hc : k < n1 ∧ k < 200
      · obtain ⟨b, off, rfl, hlt, hz⟩ := R1.out k hc.1
        obtain ⟨hz0, z0, e0, w0⟩ := hz 0 _ rfl
        obtain ⟨hz1, z1, e1, w1⟩ := hz 1 _ rfl
        rw [e0] at hz0
        rw [e1] at hz1
        have d0 : wr.cell? ⟨b, off + k * 2, none⟩ = some (.int .i64 z0) := (hB.cell (by exact hlt)).trans hz0
        have d1 : wr.cell? ⟨b, off + k * 2 + 1, none⟩ = some (.int .i64 z1) := (hB.cell (by exact hlt)).trans hz1
        have hk1 := hc.1
        have hk3 := hc.2
        clear hz hz0 hz1 e0 e1
        have hbr := Int.emod_nonneg z0 (b := 3) (by decide)
        have HB := Lib.hid hb
        have HM := Lib.hid hm
        clear hb hm
        go_wp2_with (first
          | (go_at_call 15; refine (bring_any _ _ _ (wf_bounds w0) (by omega)).mono ?_; rintro r x1 ⟨rfl, -, rfl⟩)
          | (go_at_call 16; refine (release_any _ p e _ _ HB.out ⟨hp1, hp2⟩).mono ?_; rintro r x1 ⟨rfl, hb1, hu1⟩; have HM1 := Lib.hid (HM.out.upd hu1 (by omega)); have HU1 := Lib.hid hu1; have HB1 := Lib.hid hb1; clear hb1 hu1)
          | (go_at_call 17; refine (r_release_any _ p e _ _ HM1.out ⟨hp1, hp2⟩).mono ?_; rintro r x2 ⟨rfl, hm1, hu2⟩; have HB2 := Lib.hid (HB1.out.upd hu2 (by omega)); have HU2 := Lib.hid hu2; have HM2 := Lib.hid hm1; clear hm1 hu2)
          | (go_at_call 18; refine (may_any _ p e _ _ HB.out hp1).mono ?_; rintro r x1 ⟨rfl, rfl⟩)
          | (go_at_call 19; refine (r_may_any _ p e _ _ HM.out).mono ?_; rintro r x1 ⟨rfl, rfl⟩; have HB2 := Lib.hid HB.out; have HM2 := Lib.hid HM.out)
          | (go_at_call 20; refine (change_any _ p e _ _ HB.out ⟨hp1, hp2⟩).mono ?_; rintro r x1 ⟨rfl, hb1, hu1⟩; have HM1 := Lib.hid (HM.out.upd hu1 (by omega)); have HU1 := Lib.hid hu1; have HB1 := Lib.hid hb1; clear hb1 hu1)
          | (go_at_call 21; refine (r_change_any _ p e _ _ HM1.out).mono ?_; rintro r x2 ⟨rfl, hm1, hu2⟩; have HB2 := Lib.hid (HB1.out.upd hu2 (by omega)); have HU2 := Lib.hid hu2; have HM2 := Lib.hid hm1; clear hm1 hu2)
          | (go_at_call 22; refine (next_any _ _ _ _ HB2.out (by first | omega | exact chgS_pos hp1)).mono ?_; rintro r x3 ⟨rfl, rfl⟩)
          | (go_at_call 23; refine (r_next_any _ _ _ _ HM2.out).mono ?_; rintro r x3 ⟨rfl, rfl⟩))
        · exact ⟨⟨k + 1, p, relE p e z1, by omega, by omega, by go_num, hp1, hp2, relE_pos he hp1, HB2.out, HM2.out, (hB.trans (HU1.out.below hB.size (by omega))).trans (HU2.out.below (Nat.le_trans hB.size HU1.out.size) (by omega))⟩, by simp [intOf]; omega⟩
        · exact ⟨⟨k + 1, p, e, by omega, by omega, by go_num, hp1, hp2, he, HB2.out, HM2.out, hB⟩, by simp [intOf]; omega⟩
        · exact ⟨⟨k + 1, chgS p z1, e, by omega, by omega, by go_num, chgS_pos hp1, chgS_le hp2, he, HB2.out, HM2.out, (hB.trans (HU1.out.below hB.size (by omega))).trans (HU2.out.below (Nat.le_trans hB.size HU1.out.size) (by omega))⟩, by simp [intOf]; omega⟩
      · have hB' := Lib.hid hB
        clear hB hb hm
        by_cases hk1 : k < n1
        · have hk3 : ¬ (k : Int) < 200 := by omega
          go_wp2_with (go_at_call 24; refine (spore_works _).mono ?_; rintro r x1 ⟨rfl, hx⟩)
          go_ret
          exact ⟨rfl, hB'.out.trans (hx.mono hB'.out.size)⟩
        · have hk3 : ¬ (k : Int) < n1 := by omega
          go_wp2_with (go_at_call 24; refine (spore_works _).mono ?_; rintro r x1 ⟨rfl, hx⟩)
          go_ret
          exact ⟨rfl, hB'.out.trans (hx.mono hB'.out.size)⟩
  · go_enter Try.func3, Try.ntmps3
    go_wp2_with (first
      | (go_at_call 13; refine (new_no _ _ hp).mono ?_; rintro r w1 ⟨rfl, rfl⟩)
      | (go_at_call 14; refine (r_new_no _ _ hp).mono ?_; rintro r w1 ⟨rfl, rfl⟩))
    refine wp_loop_rounds 1 ?_
    rw [rounds_succ]
    go_wp2_with (go_at_call 24; refine (spore_works _).mono ?_; rintro r x1 ⟨rfl, hx⟩)
    all_goals go_ret
    all_goals exact ⟨rfl, by assumption⟩
end Go.Proofs.Ytclbbnoinnmdnaa
