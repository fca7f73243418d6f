/- Contracts of the document's supply, and of the chapter's examples. -/
import Derived.Test.YtclbbnoinnmdnaaSupplyLaw
namespace Go.Proofs.Ytclbbnoinnmdnaa
set_option linter.all false
open Go.RowKit

set_option maxHeartbeats 400000 in
theorem rserver_ok (p b : Int) (w : World) (h : OkS p b) : Calls Try.prog 38 #[.int .i64 p, .int .i64 b] w fun r w' => r = .returned (.bool true) ∧ w = w' := by
  obtain ⟨h1, h2, h3, h4⟩ := h
  have d1 : decide (b ≤ p) = true := by simp; omega
  go_enter Try.func38, Try.ntmps38
  go_wp2
  go_ret
  exact ⟨rfl, rfl⟩

set_option maxHeartbeats 400000 in
theorem rserver_no (p b : Int) (w : World) (h : ¬ OkS p b) : Calls Try.prog 38 #[.int .i64 p, .int .i64 b] w fun r w' => r = .returned (.bool false) ∧ w = w' := by
  unfold OkS at h
  by_cases h5 : b ≤ p
  · have h6 : 1 ≤ p → p ≤ 64 → ¬ 1 ≤ b := by omega
    have H6 := Lib.hid h6
    clear h h6
    go_enter Try.func38, Try.ntmps38
    go_wp2
    · have h7 := H6.out (by assumption) (by assumption)
      omega
    all_goals
      go_ret
      exact ⟨rfl, rfl⟩
  · have d5 : decide (b ≤ p) = false := by simpa using h5
    clear h h5
    go_enter Try.func38, Try.ntmps38
    go_wp2
    all_goals
      go_ret
      exact ⟨rfl, rfl⟩

set_option maxHeartbeats 400000 in
theorem rgives_any (p b i : Int) (w : World) (h : OkS p b) (hi : p - b ≤ i ∧ i ≤ 1048576) :
    Calls Try.prog 39 #[.int .i64 p, .int .i64 b, .int .i64 i] w fun r w' => r = .returned (.bool (decide (p - b ≤ (i - (p - b)) % p))) ∧ w = w' := by
  obtain ⟨h1, h2, h3, h4⟩ := h
  obtain ⟨i1, i2⟩ := hi
  have hz : (p == 0) = false := by simp; omega
  go_enter Try.func39, Try.ntmps39
  go_wp2
  go_ret
  exact ⟨rfl, rfl⟩

set_option maxRecDepth 100000 in
set_option maxHeartbeats 1000000 in
theorem rOf_ok (p b t : Int) (w : World) (h : OkS p b) (ht : 0 ≤ t ∧ t ≤ 1048576) :
    Calls Try.prog 26 #[.int .i64 p, .int .i64 b, .int .i64 t] w fun r w' => r = .returned (.tuple #[.int .i64 (givesI p b t), .int .i64 0]) ∧ w = w' := by
  have H := Lib.hid h
  obtain ⟨h1, h2, h3, h4⟩ := h
  obtain ⟨t1, t2⟩ := ht
  by_cases hc : t < p - b
  · rw [gives_low hc]
    go_enter Try.func26, Try.ntmps26
    go_wp2_with (go_at_call 38; refine (rserver_ok p b _ H.out).mono ?_; rintro r w1 ⟨rfl, rfl⟩)
    go_ret2
    exact ⟨rfl, rfl⟩
  · obtain ⟨q, R, hq, hR0, hR1, hte, hqe⟩ := split_at H.out (by omega : p - b ≤ t)
    have hg : givesI p b t = q * b + max 0 (R - (p - b)) := by rw [hte]; exact gives_at H.out hq ⟨hR0, hR1⟩
    rw [hg]
    subst hqe
    have hz : (p == 0) = false := by simp; omega
    have q2 : (t - (p - b)) / p * p + (p - b) ≤ t := by omega
    have q3 : (t - (p - b)) / p * b ≤ (t - (p - b)) / p * p := Int.mul_le_mul_of_nonneg_left h4 hq
    have q4 : 0 ≤ (t - (p - b)) / p * b := Int.mul_nonneg hq (by omega)
    have HTE := Lib.hid hte
    have hd0 : decide (t < p - b) = false := by simpa using hc
    have hd1 : decide (t < 0) = false := by simpa using t1
    have hd2 : decide (1048576 < t) = false := by simpa using t2
    clear hg hte
    go_enter Try.func26, Try.ntmps26
    go_wp2_with (go_at_call 38; refine (rserver_ok p b _ H.out).mono ?_; rintro r w1 ⟨rfl, rfl⟩)
    go_loop [10, 11] (fun sn si => ∃ r n : Int, 0 ≤ r ∧ r ≤ R ∧ si = .int .i64 (p - b + (t - (p - b)) / p * p + r) ∧ sn = .int .i64 n ∧ Hid (n = (t - (p - b)) / p * b + max 0 (r - (p - b)))) (fun _ si => (t - intOf si).toNat)
    case atStart => exact ⟨0, (t - (p - b)) / p * b, by omega, by omega, by go_num, rfl, show _ = _ by omega⟩
    case round =>
      obtain ⟨r, n, hr0, hr1, rfl, rfl, hn⟩ := hrel
      have hn' := hn.out
      have n0 : 0 ≤ n ∧ n ≤ 1048576 := by have := HTE.out; omega
      clear hn'
      by_cases hlt : r < R
      · have g0 : p - b + (t - (p - b)) / p * p + r < t := by have := HTE.out; omega
        have hm : (p - b + (t - (p - b)) / p * p + r - (p - b)) % p = r := by
          rw [show p - b + (t - (p - b)) / p * p + r - (p - b) = (t - (p - b)) / p * p + r from by omega]
          exact mod_at (by omega)
        have hd : decide ((p - b + (t - (p - b)) / p * p + r) < t) = true := by simp; omega
        by_cases hge : p - b ≤ r
        · have hdd : decide (p - b ≤ r) = true := by simpa using hge
          go_wp2_with (go_at_call 39; refine (rgives_any p b _ _ H.out (by omega)).mono ?_; rintro r w1 ⟨rfl, rfl⟩)
          refine ⟨⟨r + 1, n + 1, by omega, by omega, by go_num, rfl, show _ = _ by have := hn.out; omega⟩, by simp [intOf]; have := HTE.out; omega⟩
        · have hdd : decide (p - b ≤ r) = false := by simpa using hge
          go_wp2_with (go_at_call 39; refine (rgives_any p b _ _ H.out (by omega)).mono ?_; rintro r w1 ⟨rfl, rfl⟩)
          refine ⟨⟨r + 1, n, by omega, by omega, by go_num, rfl, show _ = _ by have := hn.out; omega⟩, by simp [intOf]; have := HTE.out; omega⟩
      · have g0 : ¬ (p - b + (t - (p - b)) / p * p + r < t) := by have := HTE.out; omega
        go_wp2_with fail
        go_ret2
        exact ⟨ret_tup (by rw [hn.out, show r = R from by omega]), rfl⟩

set_option maxHeartbeats 1000000 in
theorem rOf_no (p b t : Int) (w : World) (h : ¬ (OkS p b ∧ 0 ≤ t ∧ t ≤ 1048576)) :
    Calls Try.prog 26 #[.int .i64 p, .int .i64 b, .int .i64 t] w fun r w' => r = .returned (.tuple #[.int .i64 0, .int .i64 2]) ∧ w = w' := by
  by_cases hs : OkS p b
  · have H := Lib.hid hs
    have ht : t < 0 ∨ 1048576 < t := by
      rcases Int.lt_or_le t 0 with h1 | h1
      · exact .inl h1
      · rcases Int.lt_or_le 1048576 t with h2 | h2
        · exact .inr h2
        · exact absurd ⟨hs, h1, h2⟩ h
    clear h hs
    rcases ht with ht | ht
    all_goals
      go_enter Try.func26, Try.ntmps26
      go_wp2_with (go_at_call 38; refine (rserver_ok p b _ H.out).mono ?_; rintro r w1 ⟨rfl, rfl⟩)
      go_ret2
      exact ⟨rfl, rfl⟩
  · have H := Lib.hid hs
    clear h hs
    go_enter Try.func26, Try.ntmps26
    go_wp2_with (go_at_call 38; refine (rserver_no p b _ H.out).mono ?_; rintro r w1 ⟨rfl, rfl⟩)
    go_ret2
    exact ⟨rfl, rfl⟩

set_option maxHeartbeats 1000000 in
theorem rWait_no (p b t : Int) (w : World) (h : ¬ (OkS p b ∧ 0 ≤ t ∧ t ≤ 4096)) :
    Calls Try.prog 29 #[.int .i64 p, .int .i64 b, .int .i64 t] w fun r w' => r = .returned (.tuple #[.int .i64 0, .int .i64 2]) ∧ w = w' := by
  by_cases hs : OkS p b
  · have H := Lib.hid hs
    have ht : t < 0 ∨ 4096 < t := by
      rcases Int.lt_or_le t 0 with h1 | h1
      · exact .inl h1
      · rcases Int.lt_or_le 4096 t with h2 | h2
        · exact .inr h2
        · exact absurd ⟨hs, h1, h2⟩ h
    clear h hs
    rcases ht with ht | ht
    all_goals
      go_enter Try.func29, Try.ntmps29
      go_wp2_with (go_at_call 38; refine (rserver_ok p b _ H.out).mono ?_; rintro r w1 ⟨rfl, rfl⟩)
      go_ret2
      exact ⟨rfl, rfl⟩
  · have H := Lib.hid hs
    clear h hs
    go_enter Try.func29, Try.ntmps29
    go_wp2_with (go_at_call 38; refine (rserver_no p b _ H.out).mono ?_; rintro r w1 ⟨rfl, rfl⟩)
    go_ret2
    exact ⟨rfl, rfl⟩

/-- The loop of Wait, from a tick t that is not behind the answer. -/
def waitFrom (p b n : Int) : Int := if b < n then p - b + (n - b) / b * p else 0
theorem waitFrom_ok {p b n : Int} (h : OkS p b) (hn : 0 ≤ n) : 0 ≤ waitFrom p b n ∧ waitFrom p b n ≤ waitI p b n := by
  unfold waitFrom
  split
  · exact wait_from h (by assumption)
  · exact ⟨by omega, (gives_wait h hn).2.1⟩

set_option maxRecDepth 100000 in
set_option maxHeartbeats 1000000 in
theorem rWait_ok (p b n : Int) (w : World) (h : OkS p b) (ht : 0 ≤ n ∧ n ≤ 4096) :
    Calls Try.prog 29 #[.int .i64 p, .int .i64 b, .int .i64 n] w fun r w' => r = .returned (.tuple #[.int .i64 (waitI p b n), .int .i64 0]) ∧ w = w' := by
  have H := Lib.hid h
  have hW := gives_wait h ht.1
  have hL := wait_le h ht
  have hF := waitFrom_ok h ht.1
  obtain ⟨W, hWe⟩ : ∃ W, waitI p b n = W := ⟨_, rfl⟩
  rw [hWe] at hW hL hF
  have WE : Hid (waitI p b n = W) := hWe
  rw [hWe]
  clear hWe
  have HW := Lib.hid hW
  obtain ⟨W1, W2, _⟩ := hW
  obtain ⟨h1, h2, h3, h4⟩ := h
  obtain ⟨t1, t2⟩ := ht
  have hz : (b == 0) = false := by simp; omega
  clear W1
  have hd1 : decide (n < 0) = false := by simpa using t1
  have hd2 : decide (4096 < n) = false := by simpa using t2
  by_cases hc : b < n
  · have hd0 : decide (b < n) = true := by simpa using hc
    have e1 : waitFrom p b n = p - b + (n - b) / b * p := by unfold waitFrom; rw [if_pos hc]
    rw [e1] at hF
    clear e1
    obtain ⟨Q, hQ⟩ : ∃ Q, (n - b) / b = Q := ⟨_, rfl⟩
    rw [hQ] at hF
    obtain ⟨F1, F2⟩ := hF
    have q0 : 0 ≤ Q := by rw [← hQ]; exact Int.ediv_nonneg (by omega) (by omega)
    have q1 := Int.mul_nonneg q0 (show 0 ≤ p by omega)
    go_enter Try.func29, Try.ntmps29
    go_wp2_with (first
      | (go_at_call 38; refine (rserver_ok p b _ H.out).mono ?_; rintro r w1 ⟨rfl, rfl⟩)
      | (go_at_call 26; refine (rOf_ok p b _ _ H.out (by omega)).mono ?_; rintro r w1 ⟨rfl, rfl⟩))
    go_loop [8, 9] (fun st sk => ∃ t : Int, 0 ≤ t ∧ t ≤ W ∧ st = .int .i64 t ∧ sk = .int .i64 (givesI p b t)) (fun st _ => (W - intOf st).toNat)
    case atStart => exact ⟨_, F1, F2, rfl, rfl⟩
    case round =>
      obtain ⟨t, ht0, ht1, rfl, rfl⟩ := hrel
      by_cases hlt : givesI p b t < n
      · have hltW : t < W := by
          rcases Int.lt_or_le t W with h | h
          · exact h
          · have := gives_le H.out W2 h; have := HW.out.1; omega
        go_wp2_with (go_at_call 26; refine (rOf_ok p b _ _ H.out (by omega)).mono ?_; rintro r w1 ⟨rfl, rfl⟩)
        exact ⟨⟨t + 1, by omega, by omega, rfl, rfl⟩, by simp [intOf]; omega⟩
      · have hW0 : t = W := by
          rcases Int.lt_or_le t W with h | h
          · have h5 : 1 ≤ n := by
              rcases Int.lt_or_le n 1 with h6 | h6
              · have h8 := HW.out.1
                have h9 := gives_le H.out (by omega : (0 : Int) ≤ t) (by omega : t ≤ W)
                have h10 : n = 0 := by omega
                have h11 : W = 0 := by rw [h10] at WE; exact WE.out.symm
                omega
              · exact h6
            have h7 := gives_le H.out ht0 (by omega : t ≤ W - 1)
            have := (HW.out.2.2 h5).1
            omega
          · omega
        have HW0 := Lib.hid hW0
        clear hW0
        go_wp2
        go_ret2
        exact ⟨ret_tup HW0.out, rfl⟩
  · have hd0 : decide (b < n) = false := by simpa using hc
    have e1 : waitFrom p b n = 0 := by unfold waitFrom; rw [if_neg hc]
    rw [e1] at hF
    clear e1
    obtain ⟨F1, F2⟩ := hF
    go_enter Try.func29, Try.ntmps29
    go_wp2_with (first
      | (go_at_call 38; refine (rserver_ok p b _ H.out).mono ?_; rintro r w1 ⟨rfl, rfl⟩)
      | (go_at_call 26; refine (rOf_ok p b _ _ H.out (by omega)).mono ?_; rintro r w1 ⟨rfl, rfl⟩))
    go_loop [8, 9] (fun st sk => ∃ t : Int, 0 ≤ t ∧ t ≤ W ∧ st = .int .i64 t ∧ sk = .int .i64 (givesI p b t)) (fun st _ => (W - intOf st).toNat)
    case atStart => exact ⟨_, F1, F2, rfl, rfl⟩
    case round =>
      obtain ⟨t, ht0, ht1, rfl, rfl⟩ := hrel
      by_cases hlt : givesI p b t < n
      · have hltW : t < W := by
          rcases Int.lt_or_le t W with h | h
          · exact h
          · have := gives_le H.out W2 h; have := HW.out.1; omega
        go_wp2_with (go_at_call 26; refine (rOf_ok p b _ _ H.out (by omega)).mono ?_; rintro r w1 ⟨rfl, rfl⟩)
        exact ⟨⟨t + 1, by omega, by omega, rfl, rfl⟩, by simp [intOf]; omega⟩
      · have hW0 : t = W := by
          rcases Int.lt_or_le t W with h | h
          · have h5 : 1 ≤ n := by
              rcases Int.lt_or_le n 1 with h6 | h6
              · have h8 := HW.out.1
                have h9 := gives_le H.out (by omega : (0 : Int) ≤ t) (by omega : t ≤ W)
                have h10 : n = 0 := by omega
                have h11 : W = 0 := by rw [h10] at WE; exact WE.out.symm
                omega
              · exact h6
            have h7 := gives_le H.out ht0 (by omega : t ≤ W - 1)
            have := (HW.out.2.2 h5).1
            omega
          · omega
        have HW0 := Lib.hid hW0
        clear hW0
        go_wp2
        go_ret2
        exact ⟨ret_tup HW0.out, rfl⟩
end Go.Proofs.Ytclbbnoinnmdnaa
