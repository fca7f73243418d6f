/- Plain law: of servers that share at most 1, the one with budget left whose period ends first runs, and each has run for its whole budget by the end of each period. -/
import Derived.Test.YtogdpkeojccpcaaShareLaw
namespace Go.Proofs.Ytogdpkeojccpcaa
set_option linter.all false
open Go.RowKit

def sumTo (f : Nat → Int) : Nat → Int
  | 0 => 0
  | n + 1 => sumTo f n + f n
theorem sumTo_congr {f g : Nat → Int} {n : Nat} (h : ∀ i, i < n → f i = g i) : sumTo f n = sumTo g n := by
  induction n with
  | zero => rfl
  | succ n ih => rw [sumTo, sumTo, ih fun i hi => h i (by omega), h n (by omega)]
theorem sumTo_le {f g : Nat → Int} {n : Nat} (h : ∀ i, i < n → f i ≤ g i) : sumTo f n ≤ sumTo g n := by
  induction n with
  | zero => exact Int.le_refl _
  | succ n ih =>
    have := ih fun i hi => h i (by omega)
    have := h n (by omega)
    rw [sumTo, sumTo]
    omega
theorem sumTo_nonneg {f : Nat → Int} {n : Nat} (h : ∀ i, i < n → 0 ≤ f i) : 0 ≤ sumTo f n := by
  induction n with
  | zero => exact Int.le_refl _
  | succ n ih =>
    have := ih fun i hi => h i (by omega)
    have := h n (by omega)
    rw [sumTo]
    omega
theorem sumTo_one {f : Nat → Int} {n i : Nat} (h : ∀ j, j < n → 0 ≤ f j) (hi : i < n) : f i ≤ sumTo f n := by
  induction n with
  | zero => omega
  | succ n ih =>
    rw [sumTo]
    have h0 := sumTo_nonneg (f := f) (n := n) fun j hj => h j (by omega)
    have h1 := h n (by omega)
    by_cases hin : i = n
    · subst hin; omega
    · have := ih (fun j hj => h j (by omega)) (by omega)
      omega
theorem sumTo_less {f g : Nat → Int} {n i : Nat} (hi : i < n) (h : ∀ j, j < n → j ≠ i → f j = g j) (hd : f i = g i - 1) : sumTo f n = sumTo g n - 1 := by
  induction n with
  | zero => omega
  | succ n ih =>
    rw [sumTo, sumTo]
    by_cases hin : i = n
    · subst hin
      rw [sumTo_congr fun j hj => h j (by omega) (by omega), hd]
      omega
    · rw [ih (by omega) fun j hj hne => h j (by omega) hne, h n (by omega) (by omega)]
      omega
theorem sumTo_mul {f : Nat → Int} {n : Nat} (c : Int) : sumTo (fun i => c * f i) n = c * sumTo f n := by
  induction n with
  | zero => simp [sumTo]
  | succ n ih => rw [sumTo, sumTo, ih, Int.mul_add]

/-- What servers share, over one number below. -/
theorem fr_sum (P B : Nat → Int) (k : Nat) (h : ∀ i, i < k → OkP (P i) (B i)) :
    ∃ Q : Nat → Int, (∀ i, i < k → P i * Q i = (fr P B k).2 ∧ 0 ≤ Q i) ∧ (fr P B k).1 = sumTo (fun i => B i * Q i) k ∧ 1 ≤ (fr P B k).2 := by
  induction k with
  | zero => exact ⟨fun _ => 0, fun i hi => by omega, rfl, by show (1 : Int) ≤ 1; decide⟩
  | succ k ih =>
    obtain ⟨Q, h1, h2, h3⟩ := ih fun i hi => h i (by omega)
    have hk := h k (by omega)
    have e1 : (fr P B (k + 1)).1 = (fr P B k).1 * P k + B k * (fr P B k).2 := rfl
    have e2 : (fr P B (k + 1)).2 = (fr P B k).2 * P k := rfl
    refine ⟨fun i => if i = k then (fr P B k).2 else Q i * P k, fun i hi => ?_, ?_, ?_⟩
    · by_cases hik : i = k
      · subst hik
        simp only [if_pos]
        rw [e2, Int.mul_comm]
        exact ⟨rfl, by omega⟩
      · simp only [if_neg hik]
        obtain ⟨h4, h5⟩ := h1 i (by omega)
        rw [e2, ← Int.mul_assoc, h4]
        exact ⟨rfl, Int.mul_nonneg h5 (by have := hk.1; omega)⟩
    · rw [e1, sumTo]
      simp only [if_pos]
      congr 1
      rw [h2, Int.mul_comm, ← sumTo_mul]
      refine sumTo_congr fun i hi => ?_
      rw [if_neg (by omega)]
      rw [Int.mul_comm (P k), Int.mul_assoc]
    · rw [e2]
      have := Int.mul_le_mul h3 hk.1 (by omega) (by omega)
      omega

def upd (f : Nat → Int) (i : Nat) (v : Int) : Nat → Int := fun j => if j = i then v else f j
theorem upd_at (f : Nat → Int) (i : Nat) (v : Int) : upd f i v i = v := if_pos rfl
theorem upd_ne {f : Nat → Int} {i j : Nat} {v : Int} (h : j ≠ i) : upd f i v j = f j := if_neg h

section
variable (P B S : Nat → Int)

def pickF (L E : Nat → Int) (f : Int) (i : Nat) : Int := if 0 < L i ∧ (f < 0 ∨ E i < E f.toNat) then i else f
def dueF (now : Int) (i : Nat) : Prop := S i ≤ now ∧ (now - S i) % P i = 0
instance (now : Int) (i : Nat) : Decidable (dueF P S now i) := by unfold dueF; infer_instance
/-- What a tick does with the first i servers; none: one has budget left at its period's end. -/
def scanF (now : Int) (L E : Nat → Int) : Nat → Option ((Nat → Int) × (Nat → Int) × Int)
  | 0 => some (L, E, -1)
  | i + 1 =>
    match scanF now L E i with
    | none => none
    | some (L', E', f) =>
      if now < S i then some (L', E', f)
      else if (now - S i) % P i = 0 then
        if 0 < L' i then none
        else some (upd L' i (B i), upd E' i (now + P i), pickF (upd L' i (B i)) (upd E' i (now + P i)) f i)
      else some (L', E', pickF L' E' f i)
def tickF (n : Nat) (now : Int) (L E : Nat → Int) : Option ((Nat → Int) × (Nat → Int)) :=
  match scanF P B S now L E n with
  | none => none
  | some (L', E', f) => some (if 0 ≤ f then upd L' f.toNat (L' f.toNat - 1) else L', E')
def runF (n : Nat) : Nat → Option ((Nat → Int) × (Nat → Int))
  | 0 => some (fun _ => 0, fun _ => 0)
  | k + 1 => match runF n k with
    | none => none
    | some (L, E) => tickF P B S n k L E

/-- What is still asked of a server by d. -/
def wF (now d : Int) (L E : Nat → Int) (i : Nat) : Int :=
  if S i < now then (if E i ≤ d then L i + (d - E i) / P i * B i else 0) else if S i ≤ d then (d - S i) / P i * B i else 0

/-- How the servers stand at the start of a tick. -/
structure EdfI (n : Nat) (now : Int) (L E : Nat → Int) : Prop where
  begun : ∀ i, i < n → S i < now → 0 ≤ L i ∧ now ≤ E i ∧ E i ≤ now - 1 + P i ∧ (E i - S i) % P i = 0
  fresh : ∀ i, i < n → now ≤ S i → L i = 0
  room : ∀ d, now ≤ d → sumTo (wF P B S now d L E) n ≤ d - now
end

section
variable {P B S : Nat → Int}

theorem wF_nonneg {n : Nat} {now d : Int} {L E : Nat → Int} (hok : ∀ i, i < n → OkP (P i) (B i)) (hL : ∀ i, i < n → S i < now → 0 ≤ L i) : ∀ i, i < n → 0 ≤ wF P B S now d L E i := by
  intro i hi
  obtain ⟨h1, h2, h3, h4⟩ := hok i hi
  unfold wF
  split
  · rename_i hs
    split
    · have := hL i hi hs
      have h5 : 0 ≤ (d - E i) / P i := Int.ediv_nonneg (by omega) (by omega)
      have := Int.mul_nonneg h5 (show 0 ≤ B i by omega)
      omega
    · exact Int.le_refl _
  · split
    · exact Int.mul_nonneg (Int.ediv_nonneg (by omega) (by omega)) (by omega)
    · exact Int.le_refl _

/-- At its period's end, a server has nothing left. -/
theorem EdfI.empty {n : Nat} {now : Int} {L E : Nat → Int} (h : EdfI P B S n now L E) (hok : ∀ i, i < n → OkP (P i) (B i)) {i : Nat} (hi : i < n) (hd : dueF P S now i) : L i = 0 ∧ (S i < now → E i = now) := by
  obtain ⟨hs, hm⟩ := hd
  by_cases hb : S i < now
  · obtain ⟨h1, h2, h3, h4⟩ := h.begun i hi hb
    obtain ⟨p1, p2, p3, p4⟩ := hok i hi
    have he : E i = now := by
      have e1 : (E i - now) % P i = 0 := by
        rw [show E i - now = (E i - S i) - (now - S i) from by omega, Int.sub_emod, h4, hm]
        simp
      have e2 := Int.emod_eq_of_lt (a := E i - now) (b := P i) (by omega) (by omega)
      omega
    refine ⟨?_, fun _ => he⟩
    have hr := h.room now (Int.le_refl _)
    have hw := sumTo_one (wF_nonneg (d := now) (E := E) hok fun j hj hs => (h.begun j hj hs).1) hi
    have e3 : wF P B S now now L E i = L i := by
      unfold wF
      rw [if_pos hb, if_pos (by omega), he]
      simp
    rw [e3] at hw
    omega
  · exact ⟨h.fresh i hi (by omega), fun h' => absurd h' hb⟩

def renL (P B S : Nat → Int) (now : Int) (L : Nat → Int) (i : Nat) : Int := if dueF P S now i then B i else L i
def renE (P S : Nat → Int) (now : Int) (E : Nat → Int) (i : Nat) : Int := if dueF P S now i then now + P i else E i
def preF (m : Nat) (g g' : Nat → Int) : Nat → Int := fun j => if j < m then g j else g' j
theorem preF_upd (m : Nat) (g g' : Nat → Int) : upd (preF m g g') m (g m) = preF (m + 1) g g' := by
  funext j
  unfold upd preF
  by_cases h1 : j = m
  · subst h1; rw [if_pos rfl, if_pos (by omega)]
  · rw [if_neg h1]
    by_cases h2 : j < m
    · rw [if_pos h2, if_pos (by omega)]
    · rw [if_neg h2, if_neg (by omega)]
theorem preF_same {m : Nat} {g g' : Nat → Int} (h : g m = g' m) : preF (m + 1) g g' = preF m g g' := by
  funext j
  unfold preF
  by_cases h1 : j = m
  · subst h1; rw [if_pos (by omega), if_neg (by omega), h]
  · by_cases h2 : j < m
    · rw [if_pos h2, if_pos (by omega)]
    · rw [if_neg h2, if_neg (by omega)]

theorem scanF_spec {n : Nat} {now : Int} {L E : Nat → Int} (h : EdfI P B S n now L E) (hok : ∀ i, i < n → OkP (P i) (B i)) : ∀ m, m ≤ n →
    ∃ f : Int, scanF P B S now L E m = some (preF m (renL P B S now L) L, preF m (renE P S now E) E, f) ∧
      (f = -1 ∨ (0 ≤ f ∧ f.toNat < m ∧ S f.toNat ≤ now ∧ 0 < renL P B S now L f.toNat)) ∧
      (∀ j, j < m → S j ≤ now → 0 < renL P B S now L j → 0 ≤ f ∧ renE P S now E f.toNat ≤ renE P S now E j) := by
  intro m
  induction m with
  | zero =>
    intro _
    refine ⟨-1, ?_, Or.inl rfl, fun j hj => by omega⟩
    have e : ∀ g g' : Nat → Int, preF 0 g g' = g' := fun g g' => by funext j; unfold preF; rw [if_neg (by omega)]
    rw [e, e]
    rfl
  | succ m ih =>
    intro hm
    obtain ⟨f, h1, h2, h3⟩ := ih (by omega)
    have hstep : scanF P B S now L E (m + 1) = (if now < S m then some (preF m (renL P B S now L) L, preF m (renE P S now E) E, f)
      else if (now - S m) % P m = 0 then
        if 0 < preF m (renL P B S now L) L m then none
        else some (upd (preF m (renL P B S now L) L) m (B m), upd (preF m (renE P S now E) E) m (now + P m), pickF (upd (preF m (renL P B S now L) L) m (B m)) (upd (preF m (renE P S now E) E) m (now + P m)) f m)
      else some (preF m (renL P B S now L) L, preF m (renE P S now E) E, pickF (preF m (renL P B S now L) L) (preF m (renE P S now E) E) f m)) := by
      rw [scanF, h1]
    have hLm : preF m (renL P B S now L) L m = L m := by unfold preF; rw [if_neg (by omega)]
    -- what the choice does
    have hpick : ∀ (L1 E1 : Nat → Int), (∀ j, j < m + 1 → L1 j = renL P B S now L j ∧ E1 j = renE P S now E j) → S m ≤ now →
        (pickF L1 E1 f m = -1 ∨ (0 ≤ pickF L1 E1 f m ∧ (pickF L1 E1 f m).toNat < m + 1 ∧ S (pickF L1 E1 f m).toNat ≤ now ∧ 0 < renL P B S now L (pickF L1 E1 f m).toNat)) ∧
        (∀ j, j < m + 1 → S j ≤ now → 0 < renL P B S now L j → 0 ≤ pickF L1 E1 f m ∧ renE P S now E (pickF L1 E1 f m).toNat ≤ renE P S now E j) := by
      intro L1 E1 hLE hS
      obtain ⟨q1, q2⟩ := hLE m (by omega)
      unfold pickF
      split
      · rename_i hc
        rw [q1, q2] at hc
        refine ⟨Or.inr ⟨by omega, by omega, by simpa using hS, by simpa using hc.1⟩, fun j hj hs hl => ⟨by omega, ?_⟩⟩
        rw [show ((m : Int)).toNat = m from by omega]
        by_cases hjm : j = m
        · subst hjm; exact Int.le_refl _
        · obtain ⟨r1, r2⟩ := h3 j (by omega) hs hl
          rcases hc.2 with hf | hf
          · omega
          · rcases h2 with h2 | h2
            · omega
            · rw [(hLE f.toNat (by omega)).2] at hf
              omega
      · rename_i hc
        rw [q1, q2] at hc
        refine ⟨?_, fun j hj hs hl => ?_⟩
        · rcases h2 with h2 | ⟨r1, r2, r3, r4⟩
          · exact Or.inl h2
          · exact Or.inr ⟨r1, by omega, r3, r4⟩
        · by_cases hjm : j = m
          · subst hjm
            rcases h2 with h2 | ⟨r1, r2, r3, r4⟩
            · exact absurd ⟨hl, Or.inl (by omega)⟩ hc
            · rw [(hLE f.toNat (by omega)).2] at hc
              refine ⟨r1, ?_⟩
              rcases Int.lt_or_le (renE P S now E j) (renE P S now E f.toNat) with h5 | h5
              · exact absurd ⟨hl, Or.inr h5⟩ hc
              · exact h5
          · exact h3 j (by omega) hs hl
    by_cases hS : now < S m
    · rw [if_pos hS] at hstep
      have hnd : ¬ dueF P S now m := fun hd => by have := hd.1; omega
      have e1 : renL P B S now L m = L m := if_neg hnd
      have e2 : renE P S now E m = E m := if_neg hnd
      refine ⟨f, by rw [hstep, preF_same e1, preF_same e2], ?_, fun j hj hs hl => ?_⟩
      · rcases h2 with h2 | ⟨r1, r2, r3, r4⟩
        · exact Or.inl h2
        · exact Or.inr ⟨r1, by omega, r3, r4⟩
      · by_cases hjm : j = m
        · subst hjm; omega
        · exact h3 j (by omega) hs hl
    · rw [if_neg hS] at hstep
      by_cases hd : (now - S m) % P m = 0
      · have hdue : dueF P S now m := ⟨by omega, hd⟩
        obtain ⟨hL0, _⟩ := h.empty hok (i := m) (by omega) hdue
        have e1 : renL P B S now L m = B m := if_pos hdue
        have e2 : renE P S now E m = now + P m := if_pos hdue
        rw [if_pos hd, if_neg (by rw [hLm]; omega), ← e1, preF_upd, ← e2, preF_upd] at hstep
        obtain ⟨k1, k2⟩ := hpick (preF (m + 1) (renL P B S now L) L) (preF (m + 1) (renE P S now E) E) (fun j hj => ⟨by unfold preF; rw [if_pos hj], by unfold preF; rw [if_pos hj]⟩) (by omega)
        exact ⟨_, hstep, k1, k2⟩
      · have hnd : ¬ dueF P S now m := fun h' => hd h'.2
        have e1 : renL P B S now L m = L m := if_neg hnd
        have e2 : renE P S now E m = E m := if_neg hnd
        rw [if_neg hd, ← preF_same (g := renL P B S now L) e1, ← preF_same (g := renE P S now E) e2] at hstep
        obtain ⟨k1, k2⟩ := hpick (preF (m + 1) (renL P B S now L) L) (preF (m + 1) (renE P S now E) E) (fun j hj => ⟨by unfold preF; rw [if_pos hj], by unfold preF; rw [if_pos hj]⟩) (by omega)
        exact ⟨_, hstep, k1, k2⟩

/-- A renewal changes nothing of what is still asked. -/
theorem wF_ren {n : Nat} {now d : Int} {L E : Nat → Int} (h : EdfI P B S n now L E) (hok : ∀ i, i < n → OkP (P i) (B i)) (hd : now + 1 ≤ d) {i : Nat} (hi : i < n) :
    wF P B S (now + 1) d (renL P B S now L) (renE P S now E) i = wF P B S now d L E i := by
  obtain ⟨p1, p2, p3, p4⟩ := hok i hi
  by_cases hdue : dueF P S now i
  · obtain ⟨hL0, hE⟩ := h.empty hok hi hdue
    have e1 : renL P B S now L i = B i := if_pos hdue
    have e2 : renE P S now E i = now + P i := if_pos hdue
    have hs := hdue.1
    have hr : wF P B S now d L E i = (d - now) / P i * B i := by
      unfold wF
      by_cases hb : S i < now
      · rw [if_pos hb, hE hb, if_pos (by omega), hL0, Int.zero_add]
      · rw [if_neg hb, if_pos (by omega), show S i = now from by omega]
    rw [hr]
    unfold wF
    rw [if_pos (by omega), e1, e2]
    by_cases hle : now + P i ≤ d
    · rw [if_pos hle]
      have e3 : (d - now) / P i = (d - (now + P i)) / P i + 1 := by
        rw [show d - now = (d - (now + P i)) + 1 * P i from by omega, Int.add_mul_ediv_right _ _ (by omega)]
      rw [e3, Int.add_mul]
      omega
    · rw [if_neg hle, Int.ediv_eq_zero_of_lt (by omega) (by omega), Int.zero_mul]
  · have e1 : renL P B S now L i = L i := if_neg hdue
    have e2 : renE P S now E i = E i := if_neg hdue
    unfold wF
    rw [e1, e2]
    by_cases hb : S i < now
    · rw [if_pos hb, if_pos (by omega)]
    · have hne : S i ≠ now := fun he => hdue ⟨by omega, by rw [he]; simp⟩
      rw [if_neg hb, if_neg (by omega)]

/-- A share of so many ticks. -/
theorem share_room {n : Nat} {x : Int} {f Q : Nat → Int} {D : Int} (hD : 1 ≤ D) (hx : 0 ≤ x) (hU : sumTo (fun i => B i * Q i) n ≤ D) (hf : ∀ i, i < n → D * f i ≤ x * (B i * Q i)) : sumTo f n ≤ x := by
  have h1 : D * sumTo f n ≤ x * D := by
    rw [← sumTo_mul]
    refine Int.le_trans (sumTo_le hf) ?_
    rw [sumTo_mul]
    exact Int.mul_le_mul_of_nonneg_left hU hx
  rcases Int.lt_or_le x (sumTo f n) with h | h
  · have : D * x < D * sumTo f n := Int.mul_lt_mul_of_pos_left h (by omega)
    rw [Int.mul_comm] at this
    omega
  · exact h
theorem floor_share {y x p b q D : Int} (hp : 1 ≤ p) (hb : 0 ≤ b) (hq : 0 ≤ q) (hy : 0 ≤ y) (hyx : y ≤ x) (hD : p * q = D) : D * (y / p * b) ≤ x * (b * q) := by
  have h1 : p * (y / p) ≤ x := by
    have := Int.mul_ediv_self_le (x := y) (k := p) (by omega)
    omega
  have h2 : (p * (y / p)) * (b * q) ≤ x * (b * q) := Int.mul_le_mul_of_nonneg_right h1 (Int.mul_nonneg hb hq)
  have e : D * (y / p * b) = (p * (y / p)) * (b * q) := by
    rw [← hD]
    simp only [Int.mul_assoc, Int.mul_comm, Int.mul_left_comm]
  rw [e]
  exact h2

theorem edf_start {n : Nat} {Q : Nat → Int} {D : Int} (hok : ∀ i, i < n → OkP (P i) (B i)) (hS : ∀ i, i < n → 0 ≤ S i) (hD : 1 ≤ D) (hQ : ∀ i, i < n → P i * Q i = D ∧ 0 ≤ Q i) (hU : sumTo (fun i => B i * Q i) n ≤ D) :
    EdfI P B S n 0 (fun _ => 0) (fun _ => 0) := by
  refine ⟨fun i hi hs => absurd (hS i hi) (by omega), fun i hi hs => rfl, fun d hd => ?_⟩
  rw [Int.sub_zero]
  refine share_room hD hd hU fun i hi => ?_
  obtain ⟨p1, p2, p3, p4⟩ := hok i hi
  obtain ⟨q1, q2⟩ := hQ i hi
  have hs := hS i hi
  unfold wF
  rw [if_neg (by omega)]
  split
  · exact floor_share p1 (by omega) q2 (by omega) (by omega) q1
  · rw [Int.mul_zero]
    exact Int.mul_nonneg hd (Int.mul_nonneg (by omega) q2)

theorem edf_step {n : Nat} {now : Int} {L E Q : Nat → Int} {D : Int} (h : EdfI P B S n now L E) (hok : ∀ i, i < n → OkP (P i) (B i)) (hD : 1 ≤ D) (hQ : ∀ i, i < n → P i * Q i = D ∧ 0 ≤ Q i) (hU : sumTo (fun i => B i * Q i) n ≤ D) :
    ∃ L' E', tickF P B S n now L E = some (L', E') ∧ EdfI P B S n (now + 1) L' E' := by
  obtain ⟨f, h1, h2, h3⟩ := scanF_spec h hok n (Nat.le_refl _)
  have eL : ∀ j, j < n → preF n (renL P B S now L) L j = renL P B S now L j := fun j hj => by unfold preF; rw [if_pos hj]
  have eE : ∀ j, j < n → preF n (renE P S now E) E j = renE P S now E j := fun j hj => by unfold preF; rw [if_pos hj]
  refine ⟨_, _, by rw [tickF, h1], ?_⟩
  -- the state behind the renewals
  have hb1 : ∀ i, i < n → S i < now + 1 → 0 ≤ renL P B S now L i ∧ now + 1 ≤ renE P S now E i ∧ renE P S now E i ≤ now + 1 - 1 + P i ∧ (renE P S now E i - S i) % P i = 0 := by
    intro i hi hs
    obtain ⟨p1, p2, p3, p4⟩ := hok i hi
    by_cases hdue : dueF P S now i
    · have e1 : renL P B S now L i = B i := if_pos hdue
      have e2 : renE P S now E i = now + P i := if_pos hdue
      rw [e1, e2]
      refine ⟨by omega, by omega, by omega, ?_⟩
      rw [show now + P i - S i = (now - S i) + P i from by omega, Int.add_emod_right]
      exact hdue.2
    · have e1 : renL P B S now L i = L i := if_neg hdue
      have e2 : renE P S now E i = E i := if_neg hdue
      rw [e1, e2]
      have hne : S i ≠ now := fun he => hdue ⟨by omega, by rw [he]; simp⟩
      obtain ⟨r1, r2, r3, r4⟩ := h.begun i hi (by omega)
      have hne2 : E i ≠ now := fun he => hdue ⟨by omega, by rw [← he]; exact r4⟩
      exact ⟨r1, by omega, by omega, r4⟩
  have hf1 : ∀ i, i < n → now + 1 ≤ S i → renL P B S now L i = 0 := by
    intro i hi hs
    have hnd : ¬ dueF P S now i := fun hd => by have := hd.1; omega
    rw [show renL P B S now L i = L i from if_neg hnd]
    exact h.fresh i hi (by omega)
  -- the bound where nobody with budget left ends by d
  have hidle : ∀ (L2 : Nat → Int) (d : Int), now + 1 ≤ d → (∀ i, i < n → S i < now + 1 → renE P S now E i ≤ d → L2 i = 0) → sumTo (wF P B S (now + 1) d L2 (renE P S now E)) n ≤ d - (now + 1) := by
    intro L2 d hd hz
    refine share_room hD (by omega) hU fun i hi => ?_
    obtain ⟨p1, p2, p3, p4⟩ := hok i hi
    obtain ⟨q1, q2⟩ := hQ i hi
    have hzero : D * 0 ≤ (d - (now + 1)) * (B i * Q i) := by
      rw [Int.mul_zero]
      exact Int.mul_nonneg (by omega) (Int.mul_nonneg (by omega) q2)
    unfold wF
    split
    · rename_i hs
      obtain ⟨r1, r2, r3, r4⟩ := hb1 i hi hs
      split
      · rename_i he
        rw [hz i hi hs he, Int.zero_add]
        exact floor_share p1 (by omega) q2 (by omega) (by omega) q1
      · exact hzero
    · split
      · exact floor_share p1 (by omega) q2 (by omega) (by omega) q1
      · exact hzero
  by_cases hf : 0 ≤ f
  · rw [if_pos hf]
    rcases h2 with h2 | ⟨_, g2, g3, g4⟩
    · omega
    obtain ⟨x, hx⟩ : ∃ x, f.toNat = x := ⟨_, rfl⟩
    rw [hx] at g2 g3 g4 h3 ⊢
    have u1 : ∀ j, j < n → upd (preF n (renL P B S now L) L) x (preF n (renL P B S now L) L x - 1) j = if j = x then renL P B S now L x - 1 else renL P B S now L j := by
      intro j hj
      unfold upd
      by_cases hjx : j = x
      · rw [if_pos hjx, if_pos hjx, eL x g2]
      · rw [if_neg hjx, if_neg hjx, eL j hj]
    refine ⟨fun i hi hs => ?_, fun i hi hs => ?_, fun d hd => ?_⟩
    · obtain ⟨r1, r2, r3, r4⟩ := hb1 i hi hs
      rw [eE i hi, u1 i hi]
      refine ⟨?_, r2, r3, r4⟩
      split
      · omega
      · exact r1
    · rw [u1 i hi]
      rw [if_neg (fun he => by subst he; omega)]
      exact hf1 i hi hs
    · have ew : sumTo (wF P B S (now + 1) d (upd (preF n (renL P B S now L) L) x (preF n (renL P B S now L) L x - 1)) (preF n (renE P S now E) E)) n = sumTo (wF P B S (now + 1) d (fun j => if j = x then renL P B S now L x - 1 else renL P B S now L j) (renE P S now E)) n := by
        refine sumTo_congr fun i hi => ?_
        unfold wF
        rw [u1 i hi, eE i hi]
      rw [ew]
      by_cases hdx : renE P S now E x ≤ d
      · have e1 : sumTo (wF P B S (now + 1) d (fun j => if j = x then renL P B S now L x - 1 else renL P B S now L j) (renE P S now E)) n = sumTo (wF P B S (now + 1) d (renL P B S now L) (renE P S now E)) n - 1 := by
          refine sumTo_less g2 (fun j hj hne => ?_) ?_
          · unfold wF
            simp only [if_neg hne]
          · unfold wF
            have hsx : S x < now + 1 := by omega
            simp only [if_pos hsx, if_pos hdx, if_pos]
            omega
        have e2 : sumTo (wF P B S (now + 1) d (renL P B S now L) (renE P S now E)) n = sumTo (wF P B S now d L E) n := sumTo_congr fun i hi => wF_ren h hok hd hi
        rw [e1, e2]
        have := h.room d (by omega)
        omega
      · refine hidle _ d hd fun i hi hs he => ?_
        obtain ⟨r1, r2, r3, r4⟩ := hb1 i hi hs
        have hix : i ≠ x := fun hix => by subst hix; exact hdx he
        simp only [if_neg hix]
        rcases Int.lt_or_le 0 (renL P B S now L i) with hp | hp
        · have := (h3 i hi (by omega) hp).2
          omega
        · omega
  · rw [if_neg hf]
    have hall : ∀ i, i < n → S i < now + 1 → renL P B S now L i = 0 := by
      intro i hi hs
      obtain ⟨r1, r2, r3, r4⟩ := hb1 i hi hs
      rcases Int.lt_or_le 0 (renL P B S now L i) with hp | hp
      · exact absurd (h3 i hi (by omega) hp).1 hf
      · omega
    refine ⟨fun i hi hs => ?_, fun i hi hs => ?_, fun d hd => ?_⟩
    · rw [eL i hi, eE i hi]
      exact hb1 i hi hs
    · rw [eL i hi]
      exact hf1 i hi hs
    · have ew : sumTo (wF P B S (now + 1) d (preF n (renL P B S now L) L) (preF n (renE P S now E) E)) n = sumTo (wF P B S (now + 1) d (renL P B S now L) (renE P S now E)) n := by
        refine sumTo_congr fun i hi => ?_
        unfold wF
        rw [eL i hi, eE i hi]
      rw [ew]
      exact hidle _ d hd fun i hi hs _ => hall i hi hs
end

/-- Servers that share at most 1 keep all. -/
theorem runF_true {P B S : Nat → Int} {n : Nat} (hok : ∀ i, i < n → OkP (P i) (B i)) (hS : ∀ i, i < n → 0 ≤ S i) (hU : (fr P B n).1 ≤ (fr P B n).2) :
    ∀ k, ∃ L E, runF P B S n k = some (L, E) ∧ EdfI P B S n k L E := by
  obtain ⟨Q, hQ, hsum, hD⟩ := fr_sum P B n hok
  rw [hsum] at hU
  intro k
  induction k with
  | zero => exact ⟨_, _, rfl, edf_start hok hS hD hQ hU⟩
  | succ k ih =>
    obtain ⟨L, E, h1, h2⟩ := ih
    obtain ⟨L', E', h3, h4⟩ := edf_step h2 hok hD hQ hU
    refine ⟨L', E', by rw [runF, h1]; exact h3, ?_⟩
    have : ((k + 1 : Nat) : Int) = (k : Int) + 1 := by omega
    rw [this]
    exact h4
end Go.Proofs.Ytogdpkeojccpcaa
