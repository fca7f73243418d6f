/- Plain arithmetic of a server's supply. -/
import Derived.Test.YtclbbnoinnmdnaaSupply
namespace Go.Proofs.Ytclbbnoinnmdnaa
set_option linter.all false
open Go.RowKit

theorem div_at {p q r : Int} (hr : 0 ≤ r ∧ r < p) : (q * p + r) / p = q := by
  rw [Int.add_comm, Int.add_mul_ediv_right _ _ (by omega), Int.ediv_eq_zero_of_lt hr.1 hr.2]; omega
theorem mod_at {p q r : Int} (hr : 0 ≤ r ∧ r < p) : (q * p + r) % p = r := by
  rw [Int.add_comm, Int.add_mul_emod_self_right, Int.emod_eq_of_lt hr.1 hr.2]
theorem gives_at {p b q r : Int} (h : OkS p b) (hq : 0 ≤ q) (hr : 0 ≤ r ∧ r < p) : givesI p b (p - b + (q * p + r)) = q * b + max 0 (r - (p - b)) := by
  obtain ⟨h1, h2, h3, h4⟩ := h
  have := Int.mul_nonneg hq (show 0 ≤ p by omega)
  unfold givesI
  rw [if_neg (by omega), show p - b + (q * p + r) - (p - b) = q * p + r from by omega, div_at hr]
  omega
/-- Every t from p - b on is such. -/
theorem split_at {p b t : Int} (h : OkS p b) (ht : p - b ≤ t) : ∃ q r, 0 ≤ q ∧ 0 ≤ r ∧ r < p ∧ t = p - b + (q * p + r) ∧ (t - (p - b)) / p = q := by
  obtain ⟨h1, h2, h3, h4⟩ := h
  refine ⟨(t - (p - b)) / p, (t - (p - b)) % p, Int.ediv_nonneg (by omega) (by omega), Int.emod_nonneg _ (by omega), Int.emod_lt_of_pos _ (by omega), ?_, rfl⟩
  have := Int.mul_ediv_add_emod (t - (p - b)) p
  rw [Int.mul_comm] at this
  omega
theorem gives_low {p b t : Int} (ht : t < p - b) : givesI p b t = 0 := by unfold givesI; rw [if_pos ht]
theorem gives_step {p b t : Int} (h : OkS p b) (ht : 0 ≤ t) : givesI p b (t + 1) = givesI p b t ∨ givesI p b (t + 1) = givesI p b t + 1 := by
  have h' := h
  obtain ⟨h1, h2, h3, h4⟩ := h'
  by_cases hc : t < p - b
  · rw [gives_low hc]
    by_cases hd : t + 1 < p - b
    · rw [gives_low hd]; exact .inl rfl
    · rw [show t + 1 = p - b + (0 * p + 0) from by omega, gives_at h (by omega) (by omega)]
      left; omega
  · obtain ⟨q, r, hq, hr0, hr1, rfl, _⟩ := split_at h (by omega : p - b ≤ t)
    rw [gives_at h hq ⟨hr0, hr1⟩]
    by_cases hr : r + 1 < p
    · rw [show p - b + (q * p + r) + 1 = p - b + (q * p + (r + 1)) from by omega, gives_at h hq (by omega)]
      omega
    · rw [show p - b + (q * p + r) + 1 = p - b + ((q + 1) * p + 0) from by rw [Int.add_mul]; omega, gives_at h (by omega) (by omega), Int.add_mul]
      omega
theorem gives_mono {p b t : Int} (h : OkS p b) (ht : 0 ≤ t) (n : Nat) : givesI p b t ≤ givesI p b (t + n) := by
  induction n with
  | zero => simp
  | succ n ih =>
    have := gives_step (t := t + n) h (by omega)
    rw [show t + ((n + 1 : Nat) : Int) = t + n + 1 from by omega]
    omega
theorem gives_le {p b s t : Int} (h : OkS p b) (hs : 0 ≤ s) (ht : s ≤ t) : givesI p b s ≤ givesI p b t := by
  have := gives_mono h hs (t - s).toNat
  rwa [show s + ((t - s).toNat : Int) = t from by omega] at this
/-- A period more is a budget more. -/
theorem gives_period {p b t : Int} (h : OkS p b) (ht : p - b ≤ t) : givesI p b (t + p) = givesI p b t + b := by
  obtain ⟨q, r, hq, hr0, hr1, rfl, _⟩ := split_at h ht
  rw [gives_at h hq ⟨hr0, hr1⟩, show p - b + (q * p + r) + p = p - b + ((q + 1) * p + r) from by rw [Int.add_mul]; omega, gives_at h (by omega) ⟨hr0, hr1⟩, Int.add_mul]
  omega
theorem wait_at {p b n : Int} (h : OkS p b) (hn : 1 ≤ n) : ∃ u v, 0 ≤ u ∧ 0 ≤ v ∧ v < b ∧ n = u * b + v + 1 ∧ waitI p b n = p - b + (u * p + (p - b + v)) + 1 := by
  obtain ⟨h1, h2, h3, h4⟩ := h
  refine ⟨(n - 1) / b, (n - 1) % b, Int.ediv_nonneg (by omega) (by omega), Int.emod_nonneg _ (by omega), Int.emod_lt_of_pos _ (by omega), ?_, ?_⟩
  · have := Int.mul_ediv_add_emod (n - 1) b
    rw [Int.mul_comm] at this
    omega
  · have := Int.mul_ediv_add_emod (n - 1) b
    rw [Int.mul_comm] at this
    unfold waitI
    rw [if_neg (by omega)]
    omega
theorem gives_wait {p b n : Int} (h : OkS p b) (hn : 0 ≤ n) : givesI p b (waitI p b n) = n ∧ 0 ≤ waitI p b n ∧ (1 ≤ n → givesI p b (waitI p b n - 1) = n - 1 ∧ 1 ≤ waitI p b n) := by
  have h' := h
  obtain ⟨h1, h2, h3, h4⟩ := h'
  by_cases h0 : n = 0
  · subst h0
    have : waitI p b 0 = 0 := rfl
    rw [this]
    refine ⟨?_, by omega, by omega⟩
    by_cases hc : 0 < p - b
    · exact gives_low hc
    · have := gives_at (q := 0) (r := 0) h (by omega) (by omega)
      rw [show p - b + (0 * p + 0) = 0 from by omega] at this
      rw [this]; omega
  · obtain ⟨u, v, hu, hv, hvb, e1, e2⟩ := wait_at h (by omega : 1 ≤ n)
    have hup := Int.mul_nonneg hu (show 0 ≤ p by omega)
    rw [e2]
    refine ⟨?_, by omega, fun _ => ⟨?_, by omega⟩⟩
    · by_cases hc : p - b + v + 1 < p
      · rw [show p - b + (u * p + (p - b + v)) + 1 = p - b + (u * p + (p - b + v + 1)) from by omega, gives_at h hu (by omega)]
        omega
      · rw [show p - b + (u * p + (p - b + v)) + 1 = p - b + ((u + 1) * p + 0) from by rw [Int.add_mul]; omega, gives_at h (by omega) (by omega), Int.add_mul]
        omega
    · rw [show p - b + (u * p + (p - b + v)) + 1 - 1 = p - b + (u * p + (p - b + v)) from by omega, gives_at h hu (by omega)]
      omega
theorem wait_le {p b n : Int} (h : OkS p b) (hn : 0 ≤ n ∧ n ≤ 4096) : waitI p b n ≤ 300000 := by
  have h' := h
  obtain ⟨h1, h2, h3, h4⟩ := h'
  by_cases h0 : n = 0
  · subst h0; exact (by decide : (0 : Int) ≤ 300000)
  · obtain ⟨u, v, hu, hv, hvb, e1, e2⟩ := wait_at h (by omega : 1 ≤ n)
    have k1 : u * 1 ≤ u * b := Int.mul_le_mul_of_nonneg_left h3 hu
    have k2 : u * p ≤ u * 64 := Int.mul_le_mul_of_nonneg_left h2 hu
    omega
/-- From where the document begins to look. -/
theorem wait_from {p b n : Int} (h : OkS p b) (hn : b < n) : 0 ≤ p - b + (n - b) / b * p ∧ p - b + (n - b) / b * p ≤ waitI p b n := by
  have h' := h
  obtain ⟨h1, h2, h3, h4⟩ := h'
  obtain ⟨u, v, hu, hv, hvb, e1, e2⟩ := wait_at h (by omega : 1 ≤ n)
  have k0 : (n - b) / b ≤ u := by
    have : (n - b) / b ≤ (n - 1) / b := Int.ediv_le_ediv (by omega) (by omega)
    have e3 : (n - 1) / b = u := by rw [show n - 1 = u * b + v from by omega]; exact div_at ⟨hv, hvb⟩
    omega
  have k1 : (n - b) / b * p ≤ u * p := Int.mul_le_mul_of_nonneg_right k0 (by omega)
  have k2 : 0 ≤ (n - b) / b * p := Int.mul_nonneg (Int.ediv_nonneg (by omega) (by omega)) (by omega)
  omega
end Go.Proofs.Ytclbbnoinnmdnaa
