/- Plain law: fractions in lowest terms, and what servers share. -/
import Derived.Test.YtogdpkeojccpcaaShare
namespace Go.Proofs.Ytogdpkeojccpcaa
set_option linter.all false
open Go.RowKit

/-- May there be a server of that period and budget? -/
def OkP (p b : Int) : Prop := 1 ≤ p ∧ p ≤ 64 ∧ 1 ≤ b ∧ b ≤ p
instance (p b : Int) : Decidable (OkP p b) := by unfold OkP; infer_instance

/-- Top and below, not brought to lowest terms. -/
def fr (P B : Nat → Int) : Nat → Int × Int
  | 0 => (0, 1)
  | k + 1 => ((fr P B k).1 * P k + B k * (fr P B k).2, (fr P B k).2 * P k)

theorem fr_bounds (P B : Nat → Int) (k : Nat) (hk : k ≤ 4) (h : ∀ i, i < k → OkP (P i) (B i)) : 1 ≤ (fr P B k).2 ∧ (fr P B k).2 ≤ 64 ^ k ∧ 0 ≤ (fr P B k).1 ∧ (fr P B k).1 ≤ k * (fr P B k).2 := by
  induction k with
  | zero => simp [fr]
  | succ k ih =>
    obtain ⟨h1, h2, h3, h4⟩ := ih (by omega) (fun i hi => h i (by omega))
    obtain ⟨q1, q2, q3, q4⟩ := h k (by omega)
    obtain ⟨T, hT⟩ : ∃ T, (fr P B k).1 = T := ⟨_, rfl⟩
    obtain ⟨D, hD⟩ : ∃ D, (fr P B k).2 = D := ⟨_, rfl⟩
    have e1 : (fr P B (k + 1)).1 = T * P k + B k * D := by rw [← hT, ← hD]; rfl
    have e2 : (fr P B (k + 1)).2 = D * P k := by rw [← hD]; rfl
    rw [e1, e2]
    rw [hT] at h3 h4
    rw [hD] at h1 h2 h4
    have m1 : 1 * 1 ≤ D * P k := Int.mul_le_mul h1 q1 (by omega) (by omega)
    have m2 : D * P k ≤ 64 ^ k * 64 := Int.mul_le_mul h2 q2 (by omega) (by have : (0 : Int) ≤ 64 ^ k := Int.pow_nonneg (by decide); omega)
    have m3 : 0 ≤ T * P k := Int.mul_nonneg h3 (by omega)
    have m4 : 0 ≤ B k * D := Int.mul_nonneg (by omega) (by omega)
    have m5 : T * P k ≤ k * D * P k := Int.mul_le_mul_of_nonneg_right h4 (by omega)
    have m6 : B k * D ≤ P k * D := Int.mul_le_mul_of_nonneg_right q4 (by omega)
    rw [Int.mul_comm (P k) D] at m6
    rw [Int.mul_assoc] at m5
    have m7 : ((k + 1 : Nat) : Int) * (D * P k) = k * (D * P k) + D * P k := by rw [Int.natCast_add, Int.add_mul]; omega
    refine ⟨by omega, by rw [Int.pow_succ]; exact m2, by omega, by omega⟩

theorem red_pos {T D : Int} (hT : 0 ≤ T) (hD : 1 ≤ D) : ∃ g : Int, 1 ≤ g ∧ T = g * redT T D ∧ D = g * redD T D ∧ 0 ≤ redT T D ∧ redT T D ≤ T ∧ 1 ≤ redD T D ∧ redD T D ≤ D := by
  have hg : 0 < Int.gcd T D := Int.gcd_pos_of_ne_zero_right T (by omega)
  have e1 := Int.mul_ediv_cancel' (Int.gcd_dvd_left T D)
  have e2 := Int.mul_ediv_cancel' (Int.gcd_dvd_right T D)
  have d1 : 0 ≤ redT T D := Int.ediv_nonneg hT (by omega)
  have d2 : redT T D ≤ T := Int.ediv_le_self _ hT
  have d3 : redD T D ≤ D := Int.ediv_le_self _ (by omega)
  have d4 : 1 ≤ redD T D := by
    rcases Int.lt_or_le (redD T D) 1 with h | h
    · have h0 : redD T D ≤ 0 := by omega
      have : (Int.gcd T D : Int) * redD T D ≤ 0 := Int.mul_nonpos_of_nonneg_of_nonpos (by omega) h0
      have e2' : (Int.gcd T D : Int) * redD T D = D := e2
      omega
    · exact h
  exact ⟨Int.gcd T D, by omega, e1.symm, e2.symm, d1, d2, d4, d3⟩

theorem red_scale {g x y : Int} (hg : 1 ≤ g) : redT (g * x) (g * y) = redT x y ∧ redD (g * x) (g * y) = redD x y := by
  unfold redT redD
  rw [Int.gcd_mul_left, Int.natCast_mul, show (g.natAbs : Int) = g from by omega]
  exact ⟨Int.mul_ediv_mul_of_pos _ _ (by omega), Int.mul_ediv_mul_of_pos _ _ (by omega)⟩

/-- One server more, in lowest terms, is one server more. -/
theorem red_step {T D p b : Int} (hT : 0 ≤ T) (hD : 1 ≤ D) :
    redT (redT T D * p + b * redD T D) (redD T D * p) = redT (T * p + b * D) (D * p) ∧ redD (redT T D * p + b * redD T D) (redD T D * p) = redD (T * p + b * D) (D * p) := by
  obtain ⟨g, hg, e1, e2, _⟩ := red_pos hT hD
  have h1 : T * p + b * D = g * (redT T D * p + b * redD T D) := by
    rw [Int.mul_add, ← Int.mul_assoc, ← e1, Int.mul_left_comm, ← e2]
  have h2 : D * p = g * (redD T D * p) := by rw [← Int.mul_assoc, ← e2]
  have h := red_scale (g := g) (x := redT T D * p + b * redD T D) (y := redD T D * p) hg
  rw [← h1, ← h2] at h
  exact ⟨h.1.symm, h.2.symm⟩
theorem red_above {T D : Int} (hT : 0 ≤ T) (hD : 1 ≤ D) : redD T D < redT T D ↔ D < T := by
  obtain ⟨g, hg, e1, e2, _⟩ := red_pos hT hD
  constructor
  · intro h
    have : g * redD T D < g * redT T D := Int.mul_lt_mul_of_pos_left h (by omega)
    omega
  · intro h
    rcases Int.lt_or_le (redD T D) (redT T D) with h1 | h1
    · exact h1
    · have : g * redT T D ≤ g * redD T D := Int.mul_le_mul_of_nonneg_left h1 (by omega)
      omega
end Go.Proofs.Ytogdpkeojccpcaa
