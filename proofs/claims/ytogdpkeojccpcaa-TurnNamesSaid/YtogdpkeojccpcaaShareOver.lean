/- Plain law: servers that share more than 1, and begin at once, do not keep all. -/
import Derived.Test.YtogdpkeojccpcaaShareEdf
namespace Go.Proofs.Ytogdpkeojccpcaa
set_option linter.all false
open Go.RowKit

variable {P B S : Nat → Int}

theorem scanF_some {now : Int} {L E L' E' : Nat → Int} {f : Int} : ∀ {m : Nat}, scanF P B S now L E m = some (L', E', f) →
    L' = preF m (renL P B S now L) L ∧ (∀ j, j < m → dueF P S now j → L j ≤ 0) ∧ (f = -1 ∨ (0 ≤ f ∧ f.toNat < m ∧ 0 < L' f.toNat)) := by
  intro m
  induction m generalizing L' E' f with
  | zero =>
    intro h
    cases h
    refine ⟨?_, fun j hj => by omega, Or.inl rfl⟩
    funext j
    unfold preF
    rw [if_neg (by omega)]
  | succ m ih =>
    intro h
    unfold scanF at h
    cases hs : scanF P B S now L E m with
    | none => rw [hs] at h; cases h
    | some x =>
      obtain ⟨L0, E0, f0⟩ := x
      obtain ⟨h1, h2, h3⟩ := ih hs
      rw [hs] at h
      simp only at h
      have hLm : L0 m = L m := by rw [h1]; unfold preF; rw [if_neg (by omega)]
      by_cases hS : now < S m
      · rw [if_pos hS] at h
        cases h
        have hnd : ¬ dueF P S now m := fun hd => by have := hd.1; omega
        have e1 : renL P B S now L m = L m := if_neg hnd
        refine ⟨by rw [h1, preF_same e1], fun j hj hd => ?_, ?_⟩
        · by_cases hjm : j = m
          · subst hjm; exact absurd hd hnd
          · exact h2 j (by omega) hd
        · rcases h3 with h3 | ⟨a, b, c⟩
          · exact Or.inl h3
          · exact Or.inr ⟨a, by omega, c⟩
      · rw [if_neg hS] at h
        have hpick : ∀ L1 E1 : Nat → Int, (∀ j, j < m → L1 j = L0 j) → (pickF L1 E1 f0 m = -1 ∨ (0 ≤ pickF L1 E1 f0 m ∧ (pickF L1 E1 f0 m).toNat < m + 1 ∧ 0 < L1 (pickF L1 E1 f0 m).toNat)) := by
          intro L1 E1 hL
          unfold pickF
          split
          · rename_i hc
            exact Or.inr ⟨by omega, by omega, by simpa using hc.1⟩
          · rcases h3 with h3 | ⟨a, b, c⟩
            · exact Or.inl h3
            · exact Or.inr ⟨a, by omega, by rw [hL _ b]; exact c⟩
        by_cases hd : (now - S m) % P m = 0
        · rw [if_pos hd] at h
          have hdue : dueF P S now m := ⟨by omega, hd⟩
          have e1 : renL P B S now L m = B m := if_pos hdue
          by_cases hp : 0 < L0 m
          · rw [if_pos hp] at h; cases h
          · rw [if_neg hp] at h
            cases h
            refine ⟨by rw [h1, ← e1, preF_upd], fun j hj hd' => ?_, hpick _ _ fun j hj => upd_ne (by omega)⟩
            by_cases hjm : j = m
            · subst hjm; omega
            · exact h2 j (by omega) hd'
        · rw [if_neg hd] at h
          cases h
          have hnd : ¬ dueF P S now m := fun h' => hd h'.2
          have e1 : renL P B S now L m = L m := if_neg hnd
          refine ⟨by rw [h1, preF_same e1], fun j hj hd' => ?_, hpick _ _ fun j hj => rfl⟩
          by_cases hjm : j = m
          · subst hjm; exact absurd hd' hnd
          · exact h2 j (by omega) hd'

/-- How often a server has begun a period ahead of a tick. -/
def renN (P : Nat → Int) (k : Int) (i : Nat) : Int := (k + P i - 1) / P i

theorem renN_due {k : Int} {i : Nat} (hp : 1 ≤ P i) (hd : k % P i = 0) : renN P (k + 1) i = renN P k i + 1 := by
  unfold renN
  obtain ⟨q, hq⟩ : ∃ q, k = P i * q := ⟨k / P i, by have := Int.mul_ediv_add_emod k (P i); omega⟩
  rw [hq]
  rw [show P i * q + 1 + P i - 1 = 0 + (q + 1) * P i from by rw [Int.add_mul, Int.mul_comm]; omega, Int.add_mul_ediv_right _ _ (by omega)]
  rw [show P i * q + P i - 1 = (P i - 1) + q * P i from by rw [Int.mul_comm]; omega, Int.add_mul_ediv_right _ _ (by omega), Int.ediv_eq_zero_of_lt (a := P i - 1) (by omega) (by omega)]
  simp
theorem renN_not {k : Int} {i : Nat} (hp : 1 ≤ P i) (hd : ¬ k % P i = 0) : renN P (k + 1) i = renN P k i := by
  unfold renN
  have h0 := Int.emod_nonneg k (b := P i) (by omega)
  have h1 := Int.emod_lt_of_pos k (b := P i) (by omega)
  have h2 := Int.mul_ediv_add_emod k (P i)
  obtain ⟨q, hq⟩ : ∃ q, k / P i = q := ⟨_, rfl⟩
  obtain ⟨r, hr⟩ : ∃ r, k % P i = r := ⟨_, rfl⟩
  rw [hq, hr] at h2
  rw [hr] at h0 h1 hd
  rw [← h2]
  rw [show P i * q + r + 1 + P i - 1 = r + (q + 1) * P i from by rw [Int.add_mul, Int.mul_comm]; omega, Int.add_mul_ediv_right _ _ (by omega), Int.ediv_eq_zero_of_lt (a := r) (by omega) (by omega)]
  rw [show P i * q + r + P i - 1 = (r - 1) + (q + 1) * P i from by rw [Int.add_mul, Int.mul_comm]; omega, Int.add_mul_ediv_right _ _ (by omega), Int.ediv_eq_zero_of_lt (a := r - 1) (by omega) (by omega)]

/-- All that was asked, less what is left, was run. -/
structure RunI (P B : Nat → Int) (n : Nat) (k : Int) (L : Nat → Int) : Prop where
  pos : ∀ i, i < n → 0 ≤ L i
  run : sumTo (fun i => renN P k i * B i - L i) n ≤ k

theorem run_step {n k : Nat} {L E L' E' : Nat → Int} (hok : ∀ i, i < n → OkP (P i) (B i)) (h : RunI P B n k L) (ht : tickF P B (fun _ => 0) n k L E = some (L', E')) : RunI P B n ((k + 1 : Nat) : Int) L' := by
  unfold tickF at ht
  cases hs : scanF P B (fun _ => 0) k L E n with
  | none => rw [hs] at ht; cases ht
  | some x =>
    obtain ⟨L1, E1, f⟩ := x
    rw [hs] at ht
    simp only at ht
    obtain ⟨h1, h2, h3⟩ := scanF_some hs
    have hL1 : ∀ i, i < n → L1 i = renL P B (fun _ => 0) k L i := fun i hi => by rw [h1]; unfold preF; rw [if_pos hi]
    have hdue : ∀ i, dueF P (fun _ => 0) (k : Int) i ↔ (k : Int) % P i = 0 := fun i => by unfold dueF; constructor; (intro h; simpa using h.2); (intro h; exact ⟨by show (0 : Int) ≤ k; omega, by simpa using h⟩)
    have hkey : ∀ i, i < n → 0 ≤ L1 i ∧ renN P ((k + 1 : Nat) : Int) i * B i - L1 i = renN P k i * B i - L i := by
      intro i hi
      obtain ⟨p1, p2, p3, p4⟩ := hok i hi
      have hk : ((k + 1 : Nat) : Int) = (k : Int) + 1 := by omega
      rw [hL1 i hi, hk]
      by_cases hd : (k : Int) % P i = 0
      · rw [renN_due p1 hd, show renL P B (fun _ => 0) k L i = B i from if_pos ((hdue i).2 hd)]
        have := h2 i hi ((hdue i).2 hd)
        have := h.pos i hi
        refine ⟨by omega, ?_⟩
        rw [Int.add_mul]
        omega
      · rw [renN_not p1 hd, show renL P B (fun _ => 0) k L i = L i from if_neg (fun h => hd ((hdue i).1 h))]
        exact ⟨h.pos i hi, rfl⟩
    have hsum : sumTo (fun i => renN P ((k + 1 : Nat) : Int) i * B i - L1 i) n = sumTo (fun i => renN P k i * B i - L i) n := sumTo_congr fun i hi => (hkey i hi).2
    have hr := h.run
    by_cases hf : 0 ≤ f
    · rw [if_pos hf] at ht
      cases ht
      rcases h3 with h3 | ⟨_, g2, g3⟩
      · omega
      obtain ⟨x, hx⟩ : ∃ x, f.toNat = x := ⟨_, rfl⟩
      rw [hx] at g2 g3 ⊢
      refine ⟨fun i hi => ?_, ?_⟩
      · by_cases hix : i = x
        · subst hix; rw [upd_at]; omega
        · rw [upd_ne hix]; exact (hkey i hi).1
      · have e := sumTo_less (f := fun i => renN P ((k + 1 : Nat) : Int) i * B i - L1 i) (g := fun i => renN P ((k + 1 : Nat) : Int) i * B i - upd L1 x (L1 x - 1) i) g2 (fun j hj hne => by rw [upd_ne hne]) (by rw [upd_at]; omega)
        omega
    · rw [if_neg hf] at ht
      cases ht
      exact ⟨fun i hi => (hkey i hi).1, by rw [hsum]; omega⟩

theorem runF_back {n : Nat} : ∀ {k j : Nat}, j ≤ k → runF P B S n k ≠ none → runF P B S n j ≠ none := by
  intro k
  induction k with
  | zero => intro j hj h; have : j = 0 := by omega
            subst this; exact h
  | succ k ih =>
    intro j hj h
    by_cases hjk : j = k + 1
    · subst hjk; exact h
    · refine ih (by omega) ?_
      intro he
      rw [runF, he] at h
      exact h rfl

/-- Servers that share more than 1, of periods that all end together at H, do not keep all. -/
theorem runF_false {n H K : Nat} (hok : ∀ i, i < n → OkP (P i) (B i)) (hU : (fr P B n).2 < (fr P B n).1) (hH : 1 ≤ H) (hK : H < K) (hP : ∀ i, i < n → (H : Int) % P i = 0) : runF P B (fun _ => 0) n K = none := by
  obtain ⟨Q, hQ, hsum, hD⟩ := fr_sum P B n hok
  cases hr : runF P B (fun _ => 0) n K with
  | none => rfl
  | some x =>
    exfalso
    have hne : runF P B (fun _ => 0) n K ≠ none := by rw [hr]; intro h; cases h
    have inv : ∀ k L E, runF P B (fun _ => 0) n k = some (L, E) → RunI P B n k L := by
      intro k
      induction k with
      | zero =>
        intro L E h
        cases h
        refine ⟨fun i hi => Int.le_refl _, ?_⟩
        have : sumTo (fun i => renN P ((0 : Nat) : Int) i * B i - 0) n = sumTo (fun _ => 0) n := sumTo_congr fun i hi => by
          obtain ⟨p1, _⟩ := hok i hi
          unfold renN
          rw [Int.ediv_eq_zero_of_lt (by omega) (by omega)]
          simp
        rw [this]
        have h0 : ∀ m, sumTo (fun _ => 0) m = 0 := fun m => by
          induction m with
          | zero => rfl
          | succ m ih => rw [sumTo, ih]; rfl
        rw [h0]
        exact Int.le_refl _
      | succ k ih =>
        intro L E h
        unfold runF at h
        cases hk : runF P B (fun _ => 0) n k with
        | none => rw [hk] at h; cases h
        | some y =>
          obtain ⟨L0, E0⟩ := y
          rw [hk] at h
          exact run_step hok (ih L0 E0 hk) h
    cases hh : runF P B (fun _ => 0) n H with
    | none => exact absurd hh (runF_back (by omega) hne)
    | some y =>
      obtain ⟨L, E⟩ := y
      have hi := inv H L E hh
      have h1 := runF_back (P := P) (B := B) (S := fun _ => 0) (n := n) (j := H + 1) (k := K) (by omega) hne
      rw [runF, hh] at h1
      simp only at h1
      unfold tickF at h1
      cases hs : scanF P B (fun _ => 0) H L E n with
      | none => rw [hs] at h1; exact h1 rfl
      | some z =>
        obtain ⟨L1, E1, f⟩ := z
        obtain ⟨_, h2, _⟩ := scanF_some hs
        have hz : ∀ i, i < n → L i = 0 := fun i hi' => by
          have := h2 i hi' ⟨by show (0 : Int) ≤ H; omega, by simpa using hP i hi'⟩
          have := hi.pos i hi'
          omega
        have hrun := hi.run
        have e : (fr P B n).2 * sumTo (fun i => renN P (H : Int) i * B i - L i) n = (H : Int) * (fr P B n).1 := by
          rw [hsum, ← sumTo_mul, ← sumTo_mul]
          refine sumTo_congr fun i hi' => ?_
          obtain ⟨p1, _⟩ := hok i hi'
          obtain ⟨q1, q2⟩ := hQ i hi'
          obtain ⟨q, hq⟩ : ∃ q, (H : Int) = P i * q := ⟨(H : Int) / P i, by have := Int.mul_ediv_add_emod (H : Int) (P i); have := hP i hi'; omega⟩
          have hren : renN P (H : Int) i = q := by
            unfold renN
            rw [hq, show P i * q + P i - 1 = (P i - 1) + q * P i from by rw [Int.mul_comm]; omega, Int.add_mul_ediv_right _ _ (by omega), Int.ediv_eq_zero_of_lt (a := P i - 1) (by omega) (by omega)]
            simp
          rw [hz i hi', hren, ← q1, hq]
          simp only [Int.sub_zero, Int.mul_assoc, Int.mul_comm, Int.mul_left_comm]
        have h3 : (fr P B n).2 * sumTo (fun i => renN P (H : Int) i * B i - L i) n ≤ (fr P B n).2 * H := Int.mul_le_mul_of_nonneg_left hrun (by omega)
        have h4 : (H : Int) * (fr P B n).2 < (H : Int) * (fr P B n).1 := Int.mul_lt_mul_of_pos_left hU (by omega)
        rw [e, Int.mul_comm ((fr P B n).2)] at h3
        omega
end Go.Proofs.Ytogdpkeojccpcaa
