/- SporeMany: the walk of the law: as many releases in the row as counted put the guard's earliest tick that many periods behind the row's first tick. -/
import Derived.Test.YtclbbnoinnmdnaaSporeW
import Derived.Test.YtclbbnoinnmdnaaArgs
namespace Go.Proofs.Ytclbbnoinnmdnaa
set_option linter.all false
open Go.RowKit

theorem askE_in {e now : Int} (h1 : 0 ≤ now) (h2 : now ≤ 1000000) : (e ≤ now → askE e now = 0) ∧ (now < e → askE e now = 140) := by
  unfold askE
  rw [if_neg (by omega), if_neg (by omega)]
  constructor
  · intro h; rw [if_neg (by omega)]
  · intro h; rw [if_pos h]

theorem many_end {m p n : Int} (hp : 1 ≤ p) (h : m * p ≤ n + p - 1) : m ≤ (n + p - 1) / p := (Int.le_ediv_iff_mul_le (by omega)).2 h

set_option maxRecDepth 100000 in
set_option maxHeartbeats 1000000 in
theorem sporeMany_core (w : World) (a0 : Int) (h0 : -9223372036854775808 ≤ a0 ∧ a0 ≤ 9223372036854775807) (a1_0 : Int) (h1_0 : -9223372036854775808 ≤ a1_0 ∧ a1_0 ≤ 9223372036854775807) (a1_1 : Int) (h1_1 : -9223372036854775808 ≤ a1_1 ∧ a1_1 ≤ 9223372036854775807) (A2 : Option Addr) (n2 c2 : Nat) (Z2 : Nat → Nat → Value) (m2 : n2 ≤ maxLen) (r2 : Rd w A2 n2 [.int .i64] Z2) :
    Calls Try.prog 5 #[.int .i64 a0, .agg #[.int .i64 a1_0, .int .i64 a1_1], .slice A2 n2 c2] w (Holds w) := by
  unfold maxLen at m2
  have R2 := Lib.hid r2
  clear r2
  have q1 := Int.emod_nonneg a0 (b := 64) (by decide)
  have q2 := Int.emod_lt_of_pos a0 (b := 64) (by decide)
  have q3 := Int.emod_nonneg a1_0 (b := 300) (by decide)
  have q4 := Int.emod_lt_of_pos a1_0 (b := 300) (by decide)
  have q5 := Int.emod_nonneg a1_1 (b := 1000) (by decide)
  have q6 := Int.emod_lt_of_pos a1_1 (b := 1000) (by decide)
  go_enter Try.func5, Try.ntmps5
  go_wp2_with (first
    | (go_at_call 15; refine (bring_any _ _ _ (by assumption) (by omega)).mono ?_; rintro r x1 ⟨rfl, -, rfl⟩)
    | (go_at_call 13; refine (new_ok _ _ (by omega)).mono ?_; rintro r w1 ⟨rfl, rfl⟩))
  go_quiet ((go_at_call 15; exact bring_q _ _ (by assumption) (by omega)))
  go_wp2_with fail
  go_loopw [12, 13, 14] (fun sn sm i wr => ∃ (k : Nat) (now many e : Int), k ≤ n2 ∧ k ≤ 300 ∧ i = .int .i64 k ∧ sn = .int .i64 now ∧ sm = .int .i64 many ∧
      0 ≤ now ∧ now ≤ 20 * k ∧ 0 ≤ many ∧ many ≤ k ∧ (many = 0 ∨ a1_1 % 1000 + many * (1 + a0 % 64) ≤ e) ∧ many * (1 + a0 % 64) ≤ a1_0 % 300 + (1 + a0 % 64) - 1 ∧
      Blk wr (w.heap.size + 1) 42 #[.int .i64 (1 + a0 % 64), .int .i64 e] ∧ Below w.heap.size w wr)
      (fun _ _ i _ => 300 - (intOf i).toNat)
  case atStart =>
    refine ⟨0, 0, 0, 0, by omega, by omega, rfl, rfl, rfl, by omega, by omega, by omega, by omega, .inl rfl, by omega, ?_, ?_⟩
    · have := Blk.new (w.alloc (.cells #[.int .i64 a1_0, .int .i64 a1_1] 38)) 42 #[.int .i64 (1 + a0 % 64), .int .i64 0]
      rw [show (w.alloc (.cells #[.int .i64 a1_0, .int .i64 a1_1] 38)).heap.size = w.heap.size + 1 from by simp] at this
      exact this.drewN _
    · exact ⟨rfl, rfl, rfl, by simp; omega, fun k hk => (Below.heap_alloc _ _ k (by simp; omega)).trans (Below.heap_alloc _ _ k hk)⟩
  case round =>
    obtain ⟨k, now, many, e, hk, hk2, rfl, rfl, rfl, hn1, hn2, hm1, hm3, hm4, hm5, hb, hB⟩ := hrel
    have HBB := Lib.hid hB
    have HB := Lib.hid hb
    have M4 := Lib.hid hm4
    have M5 := Lib.hid hm5
    clear hm4 hm5 hb
    by_cases hc : k < n2 ∧ k < 300
    · obtain ⟨b, off, rfl, hlt, hz⟩ := R2.out k hc.1
      obtain ⟨hz0, z0, e0, w0⟩ := hz 0 _ rfl
      rw [e0] at hz0
      have d0 : wr.cell? ⟨b, off + k, none⟩ = some (.int .i64 z0) := by have := (hB.cell (by exact hlt)).trans hz0; simpa using this
      have hk1 := hc.1
      have hk3 := hc.2
      clear hz hz0 e0 hB
      have q7 := Int.emod_nonneg z0 (b := 20) (by decide)
      have q8 := Int.emod_lt_of_pos z0 (b := 20) (by decide)
      obtain ⟨hy, hno⟩ := askE_in (e := e) (now := now + z0 % 20) (by omega) (by omega)
      by_cases he : e ≤ now + z0 % 20
      · have ha : askE e (now + z0 % 20) = 0 := hy he
        have hr : relE (1 + a0 % 64) e (now + z0 % 20) = now + z0 % 20 + (1 + a0 % 64) := by simp [relE, ha]
        have HR := Lib.hid hr
        clear hy hno hr
        by_cases hw1 : a1_1 % 1000 ≤ now + z0 % 20
        · by_cases hw2 : now + z0 % 20 < a1_1 % 1000 + a1_0 % 300
          · have hadd : (many + 1) * (1 + a0 % 64) = many * (1 + a0 % 64) + (1 + a0 % 64) := by rw [Int.add_mul, Int.one_mul]
            have HADD := Lib.hid hadd
            clear hadd
            go_wp2_with (first
            | (go_at_call 15; refine (bring_any _ _ _ (wf_bounds w0) (by omega)).mono ?_; rintro r x1 ⟨rfl, -, rfl⟩)
            | (go_at_call 16; refine (release_any _ (1 + a0 % 64) e _ _ HB.out (by omega)).mono ?_; rintro r x1 ⟨rfl, hb1, hu1⟩; have HB1 := Lib.hid hb1; have HU1 := Lib.hid hu1; clear hb1 hu1))
            refine ⟨⟨k + 1, now + z0 % 20, many + 1, now + z0 % 20 + (1 + a0 % 64), by omega, by omega, by go_num, rfl, rfl, by omega, by omega, by omega, by omega, ?_, ?_, ?_, HBB.out.trans (HU1.out.below HBB.out.size (by omega))⟩, by simp [intOf]; omega⟩
            · right
              rw [HADD.out]
              rcases M4.out with h | h
              · subst h; omega
              · omega
            · rw [HADD.out]
              rcases M4.out with h | h
              · subst h; omega
              · omega
            · have := HB1.out
              rwa [HR.out] at this
          · go_wp2_with (first
            | (go_at_call 15; refine (bring_any _ _ _ (wf_bounds w0) (by omega)).mono ?_; rintro r x1 ⟨rfl, -, rfl⟩)
            | (go_at_call 16; refine (release_any _ (1 + a0 % 64) e _ _ HB.out (by omega)).mono ?_; rintro r x1 ⟨rfl, hb1, hu1⟩; have HB1 := Lib.hid hb1; have HU1 := Lib.hid hu1; clear hb1 hu1))
            refine ⟨⟨k + 1, now + z0 % 20, many, now + z0 % 20 + (1 + a0 % 64), by omega, by omega, by go_num, rfl, rfl, by omega, by omega, by omega, by omega, ?_, M5.out, ?_, HBB.out.trans (HU1.out.below HBB.out.size (by omega))⟩, by simp [intOf]; omega⟩
            · rcases M4.out with h | h
              · exact .inl h
              · right; omega
            · have := HB1.out
              rwa [HR.out] at this
        · go_wp2_with (first
            | (go_at_call 15; refine (bring_any _ _ _ (wf_bounds w0) (by omega)).mono ?_; rintro r x1 ⟨rfl, -, rfl⟩)
            | (go_at_call 16; refine (release_any _ (1 + a0 % 64) e _ _ HB.out (by omega)).mono ?_; rintro r x1 ⟨rfl, hb1, hu1⟩; have HB1 := Lib.hid hb1; have HU1 := Lib.hid hu1; clear hb1 hu1))
          refine ⟨⟨k + 1, now + z0 % 20, many, now + z0 % 20 + (1 + a0 % 64), by omega, by omega, by go_num, rfl, rfl, by omega, by omega, by omega, by omega, ?_, M5.out, ?_, HBB.out.trans (HU1.out.below HBB.out.size (by omega))⟩, by simp [intOf]; omega⟩
          · rcases M4.out with h | h
            · exact .inl h
            · right; omega
          · have := HB1.out
            rwa [HR.out] at this
      · have ha : askE e (now + z0 % 20) = 140 := hno (by omega)
        have hr : relE (1 + a0 % 64) e (now + z0 % 20) = e := by simp [relE, ha]
        have HR := Lib.hid hr
        clear hy hno hr
        go_wp2_with (first
            | (go_at_call 15; refine (bring_any _ _ _ (wf_bounds w0) (by omega)).mono ?_; rintro r x1 ⟨rfl, -, rfl⟩)
            | (go_at_call 16; refine (release_any _ (1 + a0 % 64) e _ _ HB.out (by omega)).mono ?_; rintro r x1 ⟨rfl, hb1, hu1⟩; have HB1 := Lib.hid hb1; have HU1 := Lib.hid hu1; clear hb1 hu1))
        refine ⟨⟨k + 1, now + z0 % 20, many, e, by omega, by omega, by go_num, rfl, rfl, by omega, by omega, by omega, by omega, M4.out, M5.out, ?_, HBB.out.trans (HU1.out.below HBB.out.size (by omega))⟩, by simp [intOf]; omega⟩
        have := HB1.out
        rwa [HR.out] at this
    · clear hB
      have hend := many_end (by omega) M5.out
      have hd : decide (many ≤ (a1_0 % 300 + (1 + a0 % 64) - 1) / (1 + a0 % 64)) = true := by simpa using hend
      by_cases hk1 : k < n2
      · have hk3 : ¬ ((k : Int) < 300) := by omega
        go_wp2_with (go_at_call 24; refine (spore_works _).mono ?_; rintro r x1 ⟨rfl, hx⟩)
        go_ret
        exact ⟨rfl, HBB.out.trans (hx.mono HBB.out.size)⟩
      · go_wp2_with (go_at_call 24; refine (spore_works _).mono ?_; rintro r x1 ⟨rfl, hx⟩)
        go_ret
        exact ⟨rfl, HBB.out.trans (hx.mono HBB.out.size)⟩
end Go.Proofs.Ytclbbnoinnmdnaa
