/- A server out of any: the contract of made. -/
import Derived.Test.YtclbbnoinnmdnaaSupplyW
import Derived.Test.YtclbbnoinnmdnaaBring
namespace Go.Proofs.Ytclbbnoinnmdnaa
set_option linter.all false
open Go.RowKit

def madeP (P : Int) : Int := 1 + P % 64
def madeB (P B : Int) : Int := 1 + B % (1 + P % 64)
theorem made_ok (P B : Int) : OkS (madeP P) (madeB P B) := by
  have q1 := Int.emod_nonneg P (b := 64) (by decide)
  have q2 := Int.emod_lt_of_pos P (b := 64) (by decide)
  have q3 := Int.emod_nonneg B (b := 1 + P % 64) (by omega)
  have q4 := Int.emod_lt_of_pos B (b := 1 + P % 64) (by omega)
  unfold OkS madeP madeB
  omega

set_option maxHeartbeats 1000000 in
theorem made_any (P B : Int) (w : World) (hP : -9223372036854775808 ≤ P ∧ P ≤ 9223372036854775807) (hB : -9223372036854775808 ≤ B ∧ B ≤ 9223372036854775807) :
    Calls Try.prog 30 #[.agg #[.int .i64 P, .int .i64 B]] w fun r w' => r = .returned (.agg #[.int .i64 (madeP P), .int .i64 (madeB P B)]) ∧ Below w.heap.size w w' := by
  have q1 := Int.emod_nonneg P (b := 64) (by decide)
  have q2 := Int.emod_lt_of_pos P (b := 64) (by decide)
  have q3 := Int.emod_nonneg B (b := 1 + P % 64) (by omega)
  have q4 := Int.emod_lt_of_pos B (b := 1 + P % 64) (by omega)
  unfold madeP madeB
  go_enter Try.func30, Try.ntmps30
  go_wp2_with (go_at_call 15; refine (bring_any _ _ _ (by assumption) (by omega)).mono ?_; rintro r x1 ⟨rfl, -, rfl⟩)
  exact bodyPost_ret (v := .agg #[.int .i64 (1 + P % 64), .int .i64 (1 + B % (1 + P % 64))]) (by simp [results, Try.results30, go_sem]) rfl ⟨rfl, by repeat (first | exact Below.refl _ _ | exact Nat.le_refl _ | (apply Below.setCell) | (apply Below.alloc) | (simp; done))⟩

theorem gives_bound {p b : Int} (h : OkS p b) (n : Nat) : 0 ≤ givesI p b n ∧ givesI p b n ≤ n := by
  induction n with
  | zero =>
    have h' := h
    obtain ⟨h1, h2, h3, h4⟩ := h'
    by_cases hc : (0 : Int) < p - b
    · rw [show ((0 : Nat) : Int) = 0 from rfl, gives_low hc]; omega
    · have := gives_at (q := 0) (r := 0) h (by omega) (by omega)
      rw [show p - b + (0 * p + 0) = 0 from by omega] at this
      rw [show ((0 : Nat) : Int) = 0 from rfl, this]; omega
  | succ n ih =>
    have := gives_step (t := n) h (by omega)
    rw [show ((n + 1 : Nat) : Int) = n + 1 from by omega]
    omega
theorem gives_bd {p b t : Int} (h : OkS p b) (ht : 0 ≤ t) : 0 ≤ givesI p b t ∧ givesI p b t ≤ t := by
  have := gives_bound h t.toNat
  rwa [show (t.toNat : Int) = t from by omega] at this
/-- The server's own variable, behind made: what a law's walk is told. -/
theorem two_facts {w : World} {g : Nat} {t : TypeId} {x y : Value} (h : Blk w g t #[x, y]) : w.cell? ⟨g, 0, none⟩ = some x ∧ w.cell? ⟨g, 1, none⟩ = some y ∧ w.frozen? ⟨g, 0, none⟩ = false ∧ w.frozen? ⟨g, 1, none⟩ = false :=
  ⟨by simpa using h.cell 0, by simpa using h.cell 1, h.frozen 0, h.frozen 1⟩
theorem two_set {w : World} {g : Nat} {t : TypeId} {x y : Value} (h : Blk w g t #[x, y]) (u v : Value) : Blk ((w.setCell ⟨g, 0, none⟩ u).setCell ⟨g, 1, none⟩ v) g t #[u, v] := by
  have := (h.set_ 0 u).set_ 1 v
  simpa using this
end Go.Proofs.Ytclbbnoinnmdnaa
