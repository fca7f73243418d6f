/- Plain law: in any ticks in a row a server that runs for its budget in each period has run in as many at least as the supply says. -/
import Derived.Test.YtclbbnoinnmdnaaSupplyLaw
namespace Go.Proofs.Ytclbbnoinnmdnaa
set_option linter.all false
open Go.RowKit

/-- In how many of the first i ticks it runs. -/
def cntT (L : List Bool) (i : Nat) : Int := ((L.take i).filter (fun x => x)).length

theorem cntT_zero (L : List Bool) : cntT L 0 = 0 := by simp [cntT]
theorem cntT_step (L : List Bool) (i : Nat) (h : i < L.length) : cntT L (i + 1) = cntT L i + if L[i] = true then 1 else 0 := by
  unfold cntT
  rw [List.take_succ_eq_append_getElem h, List.filter_append, List.length_append]
  by_cases hb : L[i] = true <;> simp [List.filter_cons, hb]
theorem cntT_append (L M : List Bool) (i : Nat) (h : i ≤ L.length) : cntT (L ++ M) i = cntT L i := by
  unfold cntT
  rw [List.take_append_of_le_length h]
theorem cntT_bounds (L : List Bool) (i n : Nat) (h : i + n ≤ L.length) : cntT L i ≤ cntT L (i + n) ∧ cntT L (i + n) ≤ cntT L i + n := by
  induction n with
  | zero => simp
  | succ n ih =>
    have := ih (by omega)
    have h2 := cntT_step L (i + n) (by omega)
    rw [show i + (n + 1) = i + n + 1 from by omega, h2]
    split <;> omega

theorem window {p b : Int} (h : OkS p b) (L : List Bool) (P : Nat) (hP : p = P) (hlen : L.length = 40 * P) (run : ∀ k, k ≤ 40 → cntT L (k * P) = k * b) (a t : Nat) (hlt : a + t < 40 * P) :
    givesI p b t ≤ cntT L (a + t) - cntT L a := by
  have h' := h
  obtain ⟨h1, h2, h3, h4⟩ := h'
  have hP0 : 0 < P := by omega
  have hmono := cntT_bounds L a t (by omega)
  by_cases hc : (t : Int) < p - b
  · rw [gives_low hc]; omega
  · obtain ⟨q, ρ, hq, hρ0, hρ1, hte, _⟩ := split_at h (by omega : p - b ≤ t)
    have hg : givesI p b t = q * b + max 0 (ρ - (p - b)) := by rw [hte]; exact gives_at h hq ⟨hρ0, hρ1⟩
    rw [hg]
    have ea := Nat.div_add_mod a P
    have ra := Nat.mod_lt a hP0
    have ea' := Nat.div_add_mod (a + t) P
    have ra' := Nat.mod_lt (a + t) hP0
    rw [Nat.mul_comm] at ea ea'
    obtain ⟨k, hk⟩ : ∃ k, a / P = k := ⟨_, rfl⟩
    obtain ⟨r, hr⟩ : ∃ r, a % P = r := ⟨_, rfl⟩
    obtain ⟨k', hk'⟩ : ∃ k, (a + t) / P = k := ⟨_, rfl⟩
    obtain ⟨r', hr'⟩ : ∃ r, (a + t) % P = r := ⟨_, rfl⟩
    rw [hk, hr] at ea
    rw [hk', hr'] at ea'
    rw [hr] at ra
    rw [hr'] at ra'
    have hk40 : k' < 40 := by rw [← hk']; exact Nat.div_lt_of_lt_mul (by rw [Nat.mul_comm]; exact hlt)
    have hkk : k ≤ k' := by rw [← hk, ← hk']; exact Nat.div_le_div_right (by omega)
    have m1 : (k + 1) * P ≤ 40 * P := Nat.mul_le_mul_right _ (by omega)
    have m2 : (k' + 1) * P ≤ 40 * P := Nat.mul_le_mul_right _ (by omega)
    rw [Nat.succ_mul] at m1 m2
    -- what has been run ahead of the window
    have c1 := run k (by omega)
    have c2 := run (k + 1) (by omega)
    have c3 := run k' (by omega)
    have c4 := run (k' + 1) (by omega)
    rw [Nat.succ_mul] at c2 c4
    have b1 := (cntT_bounds L (k * P) r (by omega)).2
    have b2 := (cntT_bounds L (k * P + r) (P - r) (by omega)).1
    rw [show k * P + r + (P - r) = k * P + P from by omega] at b2
    have b3 := (cntT_bounds L (k' * P) r' (by omega)).1
    have b4 := (cntT_bounds L (k' * P + r') (P - r') (by omega)).2
    rw [show k' * P + r' + (P - r') = k' * P + P from by omega] at b4
    rw [ea] at b1 b2
    rw [ea'] at b3 b4
    rw [c1] at b1
    rw [c2] at b2
    rw [c3] at b3
    rw [c4] at b4
    have e1 : ((k + 1 : Nat) : Int) * b = k * b + b := by rw [Int.natCast_add, Int.add_mul]; omega
    have e2 : ((k' + 1 : Nat) : Int) * b = k' * b + b := by rw [Int.natCast_add, Int.add_mul]; omega
    rw [e1] at b2
    rw [e2] at b4
    -- the periods between
    obtain ⟨D, hD⟩ : ∃ D : Int, (k' : Int) - k = D := ⟨_, rfl⟩
    have hDb : (k' : Int) * b = k * b + D * b := by rw [← Int.add_mul]; congr 1; omega
    have hDp : (k' : Int) * p = k * p + D * p := by rw [← Int.add_mul]; congr 1; omega
    have ia : (k : Int) * p + r = a := by rw [hP, ← Int.natCast_mul, ← Int.natCast_add, ea]
    have ia' : (k' : Int) * p + r' = a + t := by rw [hP, ← Int.natCast_mul, ← Int.natCast_add, ea', Int.natCast_add]
    obtain ⟨m, hm⟩ : ∃ m : Int, D - q = m := ⟨_, rfl⟩
    have hqD : q = D - m := by omega
    have hmp : m * p = D * p - q * p := by rw [← hm, Int.sub_mul]
    have hmb : D * b = q * b + m * b := by rw [← Int.add_mul]; congr 1; omega
    have hm0 : 0 ≤ m := by
      rcases Int.lt_or_le m 0 with hlt0 | hge
      · have : m * p ≤ (-1) * p := Int.mul_le_mul_of_nonneg_right (by omega) (by omega)
        omega
      · exact hge
    have hm3 : m ≤ 2 := by
      rcases Int.lt_or_le 2 m with hlt0 | hge
      · have : 3 * p ≤ m * p := Int.mul_le_mul_of_nonneg_right (by omega) (by omega)
        omega
      · exact hge
    have hm4 : m = 0 ∨ m = 1 ∨ m = 2 := by omega
    have hPr : ((P - r : Nat) : Int) = p - r := by omega
    have hPr' : ((P - r' : Nat) : Int) = p - r' := by omega
    rcases hm4 with e | e | e <;> subst e <;> omega
end Go.Proofs.Ytclbbnoinnmdnaa
