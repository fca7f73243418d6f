/- SporeApart: the walk of the law: what the guard holds is the last release and what its period was then. -/
import Derived.Test.YtclbbnoinnmdnaaSporeW
import Derived.Test.YtclbbnoinnmdnaaArgs
namespace Go.Proofs.Ytclbbnoinnmdnaa
set_option linter.all false
open Go.RowKit

theorem askE_in {e now : Int} (h1 : 0 ≤ now) (h2 : now ≤ 1000000) : (e ≤ now → askE e now = 0) ∧ (now < e → askE e now = 140) := by
  unfold askE
  rw [if_neg (by omega), if_neg (by omega)]
  constructor
  · intro h; rw [if_neg (by omega)]
  · intro h; rw [if_pos h]

set_option maxRecDepth 100000 in
set_option maxHeartbeats 1000000 in
theorem sporeApart_core (w : World) (a0 : Int) (h0 : -9223372036854775808 ≤ a0 ∧ a0 ≤ 9223372036854775807) (A1 : Option Addr) (n1 c1 : Nat) (Z1 : Nat → Nat → Value) (m1 : n1 ≤ maxLen) (r1 : Rd w A1 n1 [.int .i64, .int .i64] Z1) :
    Calls Try.prog 4 #[.int .i64 a0, .slice A1 n1 c1] w (Holds w) := by
  unfold maxLen at m1
  have R1 := Lib.hid r1
  clear r1
  have q1 := Int.emod_nonneg a0 (b := 64) (by decide)
  have q2 := Int.emod_lt_of_pos a0 (b := 64) (by decide)
  go_enter Try.func4, Try.ntmps4
  go_wp2_with (first
    | (go_at_call 24; refine (spore_works _).mono ?_; rintro r wo ⟨rfl, hwo⟩)
    | (go_at_call 15; refine (bring_any _ _ _ (by omega) (by omega)).mono ?_; rintro r x1 ⟨rfl, -, rfl⟩)
    | (go_at_call 13; refine (new_ok _ _ (by omega)).mono ?_; rintro r w1 ⟨rfl, rfl⟩))
  go_loopw [5, 8, 9, 10, 11] (fun sp sn sl sh i wr => ∃ (k : Nat) (p now last had e : Int), k ≤ n1 ∧ k ≤ 200 ∧ i = .int .i64 k ∧ sp = .int .i64 p ∧ sn = .int .i64 now ∧ sl = .int .i64 last ∧ sh = .int .i64 had ∧
      1 ≤ p ∧ p ≤ 64 ∧ 0 ≤ now ∧ now ≤ 90 * k ∧ (last = -1 ∧ e = 0 ∨ 0 ≤ last ∧ last ≤ now ∧ 1 ≤ had ∧ had ≤ 64 ∧ e = last + had) ∧ Blk wr wo.heap.size 42 #[.int .i64 p, .int .i64 e] ∧ Below w.heap.size w wr)
      (fun _ _ _ _ i _ => 200 - (intOf i).toNat)
  case atStart =>
    refine ⟨0, 1 + a0 % 64, 0, -1, 0, 0, by omega, by omega, rfl, rfl, rfl, rfl, rfl, by omega, by omega, by omega, by omega, .inl ⟨rfl, rfl⟩, Blk.new _ _ _, hwo.alloc hwo.size _⟩
  case round =>
    obtain ⟨k, p, now, last, had, e, hk, hk2, rfl, rfl, rfl, rfl, rfl, hp1, hp2, hn1, hn2, hl, hb, hB⟩ := hrel
    have HW := Lib.hid hwo
    have HBB := Lib.hid hB
    clear q1 q2 hwo
    by_cases hc : k < n1 ∧ k < 200
    · obtain ⟨b, off, rfl, hlt, hz⟩ := R1.out k hc.1
      obtain ⟨hz0, z0, e0, w0⟩ := hz 0 _ rfl
      obtain ⟨hz1, z1, e1, w1⟩ := hz 1 _ rfl
      rw [e0] at hz0
      rw [e1] at hz1
      have d0 : wr.cell? ⟨b, off + k * 2, none⟩ = some (.int .i64 z0) := (hB.cell (by exact hlt)).trans hz0
      have d1 : wr.cell? ⟨b, off + k * 2 + 1, none⟩ = some (.int .i64 z1) := (hB.cell (by exact hlt)).trans hz1
      have hk1 := hc.1
      have hk3 := hc.2
      have HB := Lib.hid hb
      clear hz hz0 hz1 e0 e1 hB hb
      have q1 := Int.emod_nonneg z1 (b := 64) (by decide)
      have q2 := Int.emod_lt_of_pos z1 (b := 64) (by decide)
      have q3 := Int.emod_nonneg z1 (b := 90) (by decide)
      have q4 := Int.emod_lt_of_pos z1 (b := 90) (by decide)
      have q5 := Int.emod_nonneg z0 (b := 4) (by decide)
      have q6 := Int.emod_lt_of_pos z0 (b := 4) (by decide)
      by_cases h3 : z0 % 4 = 3
      · have t3 : (z0 % 4 == 3) = true := by simpa using h3
        have tc : chgE (1 + z1 % 64) = 0 := by unfold chgE; rw [if_pos (by omega)]
        have ts : chgS p (1 + z1 % 64) = 1 + z1 % 64 := by unfold chgS; rw [if_pos (by omega)]
        have TS := Lib.hid ts
        have HL := Lib.hid hl
        clear h3 ts hl
        go_wp2_with (first
          | (go_at_call 15; refine (bring_any _ _ _ (by first | exact wf_bounds w0 | exact wf_bounds w1) (by omega)).mono ?_; rintro r x1 ⟨rfl, -, rfl⟩)
          | (go_at_call 20; refine (change_any _ p e _ _ HB.out ⟨hp1, hp2⟩).mono ?_; rintro r x1 ⟨rfl, hb1, hu1⟩; have HB1 := Lib.hid hb1; have HU1 := Lib.hid hu1; clear hb1 hu1))
        refine ⟨⟨k + 1, _, now, last, had, e, by omega, by omega, by go_num, rfl, rfl, rfl, rfl, by omega, by omega, hn1, by omega, HL.out, ?_, HBB.out.trans (HU1.out.below HBB.out.size (by have := HW.out.size; omega))⟩, by simp [intOf]; omega⟩
        have := HB1.out
        rwa [TS.out] at this
      · have t3 : (z0 % 4 == 3) = false := by simpa using h3
        obtain ⟨hy, hno⟩ := askE_in (e := e) (now := now + z1 % 90) (by omega) (by omega)
        clear h3
        rcases hl with ⟨rfl, rfl⟩ | ⟨hl1, hl2, hh1, hh2, rfl⟩
        · have ha : askE 0 (now + z1 % 90) = 0 := hy (by omega)
          have hr : relE p 0 (now + z1 % 90) = now + z1 % 90 + p := by simp [relE, ha]
          have HR := Lib.hid hr
          clear hy hno hr
          go_wp2_with (first
            | (go_at_call 15; refine (bring_any _ _ _ (by first | exact wf_bounds w0 | exact wf_bounds w1) (by omega)).mono ?_; rintro r x1 ⟨rfl, -, rfl⟩)
            | (go_at_call 18; refine (may_any _ p 0 _ _ HB.out hp1).mono ?_; rintro r x1 ⟨rfl, rfl⟩)
            | (go_at_call 16; refine (release_any _ p 0 _ _ HB.out ⟨hp1, hp2⟩).mono ?_; rintro r x1 ⟨rfl, hb1, hu1⟩; have HB1 := Lib.hid hb1; have HU1 := Lib.hid hu1; clear hb1 hu1))
          refine ⟨⟨k + 1, p, now + z1 % 90, now + z1 % 90, p, now + z1 % 90 + p, by omega, by omega, by go_num, rfl, rfl, rfl, rfl, hp1, hp2, by omega, by omega, .inr ⟨by omega, by omega, hp1, hp2, rfl⟩, ?_, HBB.out.trans (HU1.out.below HBB.out.size (by have := HW.out.size; omega))⟩, by simp [intOf]; omega⟩
          have := HB1.out
          rwa [HR.out] at this
        · by_cases hm : last + had ≤ now + z1 % 90
          · have ha : askE (last + had) (now + z1 % 90) = 0 := hy hm
            have hr : relE p (last + had) (now + z1 % 90) = now + z1 % 90 + p := by simp [relE, ha]
            have HR := Lib.hid hr
            clear hy hno hr
            go_wp2_with (first
              | (go_at_call 15; refine (bring_any _ _ _ (by first | exact wf_bounds w0 | exact wf_bounds w1) (by omega)).mono ?_; rintro r x1 ⟨rfl, -, rfl⟩)
              | (go_at_call 18; refine (may_any _ p (last + had) _ _ HB.out hp1).mono ?_; rintro r x1 ⟨rfl, rfl⟩)
              | (go_at_call 16; refine (release_any _ p (last + had) _ _ HB.out ⟨hp1, hp2⟩).mono ?_; rintro r x1 ⟨rfl, hb1, hu1⟩; have HB1 := Lib.hid hb1; have HU1 := Lib.hid hu1; clear hb1 hu1))
            refine ⟨⟨k + 1, p, now + z1 % 90, now + z1 % 90, p, now + z1 % 90 + p, by omega, by omega, by go_num, rfl, rfl, rfl, rfl, hp1, hp2, by omega, by omega, .inr ⟨by omega, by omega, hp1, hp2, rfl⟩, ?_, HBB.out.trans (HU1.out.below HBB.out.size (by have := HW.out.size; omega))⟩, by simp [intOf]; omega⟩
            have := HB1.out
            rwa [HR.out] at this
          · have ha : askE (last + had) (now + z1 % 90) = 140 := hno (by omega)
            have hr : relE p (last + had) (now + z1 % 90) = last + had := by simp [relE, ha]
            have HR := Lib.hid hr
            clear hy hno hr
            go_wp2_with (first
              | (go_at_call 15; refine (bring_any _ _ _ (by first | exact wf_bounds w0 | exact wf_bounds w1) (by omega)).mono ?_; rintro r x1 ⟨rfl, -, rfl⟩)
              | (go_at_call 18; refine (may_any _ p (last + had) _ _ HB.out hp1).mono ?_; rintro r x1 ⟨rfl, rfl⟩)
              | (go_at_call 16; refine (release_any _ p (last + had) _ _ HB.out ⟨hp1, hp2⟩).mono ?_; rintro r x1 ⟨rfl, hb1, hu1⟩; have HB1 := Lib.hid hb1; have HU1 := Lib.hid hu1; clear hb1 hu1))
            refine ⟨⟨k + 1, p, now + z1 % 90, last, had, last + had, by omega, by omega, by go_num, rfl, rfl, rfl, rfl, hp1, hp2, by omega, by omega, .inr ⟨by omega, by omega, hh1, hh2, rfl⟩, ?_, HBB.out.trans (HU1.out.below HBB.out.size (by have := HW.out.size; omega))⟩, by simp [intOf]; omega⟩
            have := HB1.out
            rwa [HR.out] at this
    · have HB := Lib.hid hb
      clear hB hb
      have hkk : k < n1 → ¬ ((k : Int) < 200) := by omega
      by_cases hk1 : k < n1
      · have hk3 := hkk hk1
        rcases hl with ⟨rfl, rfl⟩ | ⟨hl1, hl2, hh1, hh2, rfl⟩
        all_goals
          go_wp2_with (go_at_call 22; refine (next_any _ _ _ _ HB.out hp1).mono ?_; rintro r x1 ⟨rfl, rfl⟩)
          go_ret
          exact ⟨rfl, HBB.out⟩
      · rcases hl with ⟨rfl, rfl⟩ | ⟨hl1, hl2, hh1, hh2, rfl⟩
        all_goals
          go_wp2_with (go_at_call 22; refine (next_any _ _ _ _ HB.out hp1).mono ?_; rintro r x1 ⟨rfl, rfl⟩)
          go_ret
          exact ⟨rfl, HBB.out⟩
end Go.Proofs.Ytclbbnoinnmdnaa
