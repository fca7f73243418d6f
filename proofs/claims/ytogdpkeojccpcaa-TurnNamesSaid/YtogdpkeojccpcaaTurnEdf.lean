/- Of servers that share at most 1, who runs keeps all: plain. -/
import Derived.Test.YtogdpkeojccpcaaShareEdf
import Derived.Test.YtogdpkeojccpcaaTurnRun
namespace Go.Proofs.Ytogdpkeojccpcaa
set_option linter.all false
section
variable {P B S : Nat → Int}
theorem edf_pick {n : Nat} {now : Int} {L E Q : Nat → Int} {D : Int} (h : EdfI P B S n now L E) (hok : ∀ i, i < n → OkP (P i) (B i)) (hD : 1 ≤ D) (hQ : ∀ i, i < n → P i * Q i = D ∧ 0 ≤ Q i) (hU : sumTo (fun i => B i * Q i) n ≤ D)
    (f : Option Nat) (h2 : ∀ x, f = some x → x < n ∧ S x ≤ now ∧ 0 < renL P B S now L x) (h3 : ∀ j, j < n → S j ≤ now → 0 < renL P B S now L j → ∃ x, f = some x ∧ renE P S now E x ≤ renE P S now E j)
    {L' E' : Nat → Int} (hL : ∀ i, i < n → L' i = if f = some i then renL P B S now L i - 1 else renL P B S now L i) (hE : ∀ i, i < n → E' i = renE P S now E i) : EdfI P B S n (now + 1) L' E' := by
  have hb1 : ∀ i, i < n → S i < now + 1 → 0 ≤ renL P B S now L i ∧ now + 1 ≤ renE P S now E i ∧ renE P S now E i ≤ now + 1 - 1 + P i ∧ (renE P S now E i - S i) % P i = 0 := by
    intro i hi hs
    obtain ⟨p1, p2, p3, p4⟩ := hok i hi
    by_cases hdue : dueF P S now i
    · have e1 : renL P B S now L i = B i := if_pos hdue
      have e2 : renE P S now E i = now + P i := if_pos hdue
      rw [e1, e2]
      refine ⟨by omega, by omega, by omega, ?_⟩
      rw [show now + P i - S i = (now - S i) + P i from by omega, Int.add_emod_right]
      exact hdue.2
    · have e1 : renL P B S now L i = L i := if_neg hdue
      have e2 : renE P S now E i = E i := if_neg hdue
      rw [e1, e2]
      have hne : S i ≠ now := fun he => hdue ⟨by omega, by rw [he]; simp⟩
      obtain ⟨r1, r2, r3, r4⟩ := h.begun i hi (by omega)
      have hne2 : E i ≠ now := fun he => hdue ⟨by omega, by rw [← he]; exact r4⟩
      exact ⟨r1, by omega, by omega, r4⟩
  have hf1 : ∀ i, i < n → now + 1 ≤ S i → renL P B S now L i = 0 := by
    intro i hi hs
    have hnd : ¬ dueF P S now i := fun hd => by have := hd.1; omega
    rw [show renL P B S now L i = L i from if_neg hnd]
    exact h.fresh i hi (by omega)
  have hidle : ∀ (L2 : Nat → Int) (d : Int), now + 1 ≤ d → (∀ i, i < n → S i < now + 1 → renE P S now E i ≤ d → L2 i = 0) → sumTo (wF P B S (now + 1) d L2 (renE P S now E)) n ≤ d - (now + 1) := by
    intro L2 d hd hz
    refine share_room hD (by omega) hU fun i hi => ?_
    obtain ⟨p1, p2, p3, p4⟩ := hok i hi
    obtain ⟨q1, q2⟩ := hQ i hi
    have hzero : D * 0 ≤ (d - (now + 1)) * (B i * Q i) := by
      rw [Int.mul_zero]
      exact Int.mul_nonneg (by omega) (Int.mul_nonneg (by omega) q2)
    unfold wF
    split
    · rename_i hs
      obtain ⟨r1, r2, r3, r4⟩ := hb1 i hi hs
      split
      · rename_i he
        rw [hz i hi hs he, Int.zero_add]
        exact floor_share p1 (by omega) q2 (by omega) (by omega) q1
      · exact hzero
    · split
      · exact floor_share p1 (by omega) q2 (by omega) (by omega) q1
      · exact hzero
  have ew : ∀ d, sumTo (wF P B S (now + 1) d L' E') n = sumTo (wF P B S (now + 1) d (fun i => if f = some i then renL P B S now L i - 1 else renL P B S now L i) (renE P S now E)) n := fun d => by
    refine sumTo_congr fun i hi => ?_
    unfold wF
    rw [hL i hi, hE i hi]
  cases f with
  | some x =>
    obtain ⟨g2, g3, g4⟩ := h2 x rfl
    refine ⟨fun i hi hs => ?_, fun i hi hs => ?_, fun d hd => ?_⟩
    · obtain ⟨r1, r2, r3, r4⟩ := hb1 i hi hs
      rw [hE i hi, hL i hi]
      refine ⟨?_, r2, r3, r4⟩
      split
      · rename_i he; injection he with he; subst he; omega
      · exact r1
    · rw [hL i hi]
      rw [if_neg (fun he => by injection he with he; subst he; omega)]
      exact hf1 i hi hs
    · rw [ew]
      by_cases hdx : renE P S now E x ≤ d
      · have e1 : sumTo (wF P B S (now + 1) d (fun i => if some x = some i then renL P B S now L i - 1 else renL P B S now L i) (renE P S now E)) n = sumTo (wF P B S (now + 1) d (renL P B S now L) (renE P S now E)) n - 1 := by
          refine sumTo_less g2 (fun j hj hne => ?_) ?_
          · have hne' : ¬ (some x = some j) := fun he => hne (by injection he with he; exact he.symm)
            unfold wF
            simp only [if_neg hne']
          · unfold wF
            have hsx : S x < now + 1 := by omega
            simp only [if_pos hsx, if_pos hdx, if_pos]
            omega
        have e2 : sumTo (wF P B S (now + 1) d (renL P B S now L) (renE P S now E)) n = sumTo (wF P B S now d L E) n := sumTo_congr fun i hi => wF_ren h hok hd hi
        rw [e1, e2]
        have := h.room d (by omega)
        omega
      · refine hidle _ d hd fun i hi hs he => ?_
        obtain ⟨r1, r2, r3, r4⟩ := hb1 i hi hs
        have hix : ¬ (some x = some i) := fun hix => by injection hix with hix; subst hix; exact hdx he
        simp only [if_neg hix]
        rcases Int.lt_or_le 0 (renL P B S now L i) with hp | hp
        · obtain ⟨x', hx', h4⟩ := h3 i hi (by omega) hp
          injection hx' with hx'
          subst hx'
          omega
        · omega
  | none =>
    have hall : ∀ i, i < n → S i < now + 1 → renL P B S now L i = 0 := by
      intro i hi hs
      obtain ⟨r1, r2, r3, r4⟩ := hb1 i hi hs
      rcases Int.lt_or_le 0 (renL P B S now L i) with hp | hp
      · obtain ⟨x', hx', _⟩ := h3 i hi (by omega) hp
        cases hx'
      · omega
    refine ⟨fun i hi hs => ?_, fun i hi hs => ?_, fun d hd => ?_⟩
    · rw [hL i hi, hE i hi]
      exact hb1 i hi hs
    · rw [hL i hi]
      exact hf1 i hi hs
    · rw [ew]
      refine hidle _ d hd fun i hi hs _ => ?_
      simp
      exact hall i hi hs

/-- What is left of a purse, and when its period ends. -/
def lOf (σ : Nat → Option PS) (i : Nat) : Int := match σ i with | none => 0 | some s => s.l
def eOf (σ : Nat → Option PS) (i : Nat) : Int := match σ i with | none => 0 | some s => s.e
theorem lOf_some {σ : Nat → Option PS} {i : Nat} {s : PS} (h : σ i = some s) : lOf σ i = s.l := by unfold lOf; rw [h]
theorem lOf_none {σ : Nat → Option PS} {i : Nat} (h : σ i = none) : lOf σ i = 0 := by unfold lOf; rw [h]
theorem eOf_some {σ : Nat → Option PS} {i : Nat} {s : PS} (h : σ i = some s) : eOf σ i = s.e := by unfold eOf; rw [h]
theorem eOf_none {σ : Nat → Option PS} {i : Nat} (h : σ i = none) : eOf σ i = 0 := by unfold eOf; rw [h]
/-- Which purses there are at a tick. -/
structure CorP (P B S : Nat → Int) (m : Nat) (now : Int) (σ : Nat → Option PS) : Prop where
  no : ∀ i, i < m → now ≤ S i → σ i = none
  is : ∀ i, i < m → S i < now → ∃ s, σ i = some s ∧ s.p = P i ∧ s.b = B i ∧ s.n = none ∧ s.lv = false ∧ s.gn = false

theorem turn_same {s : PS} {now : Int} (h : s.e ≠ now) : turnS s now = s := by
  unfold turnS turnB
  have : decide (s.e = now) = false := decide_eq_false h
  rw [this]
  simp
theorem turn_due {s : PS} {now : Int} (h : s.e = now) (hn : s.n = none) (hlv : s.lv = false) (hg : s.gn = false) : turnS s now = { s with sh := s.sh + s.l, l := s.b, e := now + s.p } := by
  unfold turnS turnB
  have : decide (s.e = now) = true := decide_eq_true h
  rw [this, hg, hlv, hn]
  simp
/-- The purses behind the renewals of a tick. -/
theorem cor_ren {m : Nat} {now : Int} {σ : Nat → Option PS} (h : CorP P B S m now σ) (he : EdfI P B S m now (lOf σ) (eOf σ)) (hok : ∀ i, i < m → OkP (P i) (B i)) {i : Nat} (hi : i < m) :
    (now < S i → stT P B S now σ m i = none) ∧ (S i ≤ now → ∃ s, stT P B S now σ m i = some s ∧ s.p = P i ∧ s.b = B i ∧ s.n = none ∧ s.lv = false ∧ s.gn = false ∧ s.l = renL P B S now (lOf σ) i ∧ s.e = renE P S now (eOf σ) i) := by
  obtain ⟨p1, p2, p3, p4⟩ := hok i hi
  have est : stT P B S now σ m i = atT P B S now σ i := by unfold stT; rw [if_pos hi]
  rw [est]
  constructor
  · intro hs
    exact atT_none (by omega) (h.no i hi (by omega))
  · intro hs
    by_cases h0 : S i = now
    · rw [atT_new h0]
      have hdue : dueF P S now i := ⟨hs, by rw [h0]; simp⟩
      rw [turn_same (by show now + P i ≠ now; omega)]
      refine ⟨_, rfl, rfl, rfl, rfl, rfl, rfl, ?_, ?_⟩
      · rw [show renL P B S now (lOf σ) i = B i from if_pos hdue]; rfl
      · rw [show renE P S now (eOf σ) i = now + P i from if_pos hdue]; rfl
    · obtain ⟨s, hs1, hs2, hs3, hs4, hs5, hs6⟩ := h.is i hi (by omega)
      rw [atT_some h0 hs1]
      have el : lOf σ i = s.l := by unfold lOf; rw [hs1]
      have ee : eOf σ i = s.e := by unfold eOf; rw [hs1]
      obtain ⟨r1, r2, r3, r4⟩ := he.begun i hi (by omega)
      rw [ee] at r2 r3 r4
      by_cases hd : s.e = now
      · have hdue : dueF P S now i := ⟨hs, by rw [← hd]; exact r4⟩
        rw [turn_due hd hs4 hs5 hs6]
        refine ⟨_, rfl, hs2, hs3, hs4, hs5, hs6, ?_, ?_⟩
        · rw [show renL P B S now (lOf σ) i = B i from if_pos hdue]; exact hs3
        · rw [show renE P S now (eOf σ) i = now + P i from if_pos hdue, ← hs2]
      · have hdue : ¬ dueF P S now i := fun hdue => by
          have := (he.empty hok hi hdue).2 (by omega)
          rw [ee] at this
          exact hd this
        rw [turn_same hd]
        refine ⟨s, rfl, hs2, hs3, hs4, hs5, hs6, ?_, ?_⟩
        · rw [show renL P B S now (lOf σ) i = lOf σ i from if_neg hdue, el]
        · rw [show renE P S now (eOf σ) i = eOf σ i from if_neg hdue, ee]

/-- Who runs at a tick. -/
def whoT (P B S : Nat → Int) (m t : Nat) : Option Nat := whoF (vOf (stT P B S t (runT P B S m t).1 m)) m
theorem runT_at {m t : Nat} : ∀ T, t < T → (runT P B S m T).2.getD t 0 = firV (whoT P B S m t) := by
  intro T
  induction T with
  | zero => intro h; omega
  | succ T ih =>
    intro h
    have hl := runT_len P B S m T
    rw [runT]
    simp only [List.getD_eq_getElem?_getD]
    by_cases h1 : t < T
    · rw [List.getElem?_append_left (by omega), ← List.getD_eq_getElem?_getD]
      exact ih h1
    · obtain rfl : t = T := by omega
      rw [List.getElem?_append_right (by omega), hl, Nat.sub_self]
      show (tickT P B S m t (runT P B S m t).1).2 = _
      unfold whoT tickT
      cases whoF (vOf (stT P B S t (runT P B S m t).1 m)) m <;> rfl
theorem runT_st {m t : Nat} (i : Nat) : (runT P B S m (t + 1)).1 i = if whoT P B S m t = some i then (stT P B S t (runT P B S m t).1 m i).map chargeS else stT P B S t (runT P B S m t).1 m i := by
  rw [runT]
  show (tickT P B S m t (runT P B S m t).1).1 i = _
  unfold whoT tickT
  cases hw : whoF (vOf (stT P B S t (runT P B S m t).1 m)) m with
  | none => rw [if_neg (by intro h; cases h)]
  | some j =>
    simp only
    by_cases hij : i = j
    · subst hij; rw [updO_at, if_pos rfl]
    · rw [updO_ne hij, if_neg (fun h => hij (by injection h with h; exact h.symm))]

theorem edf_run {m : Nat} (hok : ∀ i, i < m → OkP (P i) (B i)) (hS : ∀ i, i < m → 0 ≤ S i) (hU : (fr P B m).1 ≤ (fr P B m).2) :
    ∀ t : Nat, CorP P B S m t (runT P B S m t).1 ∧ EdfI P B S m t (lOf (runT P B S m t).1) (eOf (runT P B S m t).1) := by
  obtain ⟨Q, hQ, hsum, hD⟩ := fr_sum P B m hok
  rw [hsum] at hU
  intro t
  induction t with
  | zero => exact ⟨⟨fun i hi _ => rfl, fun i hi h => by have := hS i hi; omega⟩, edf_start hok hS hD hQ hU⟩
  | succ t ih =>
    obtain ⟨hc, he⟩ := ih
    have hren := fun {i : Nat} (hi : i < m) => cor_ren hc he hok hi
    have hcand : ∀ i, i < m → (candW (vOf (stT P B S t (runT P B S m t).1 m) i) ↔ S i ≤ t ∧ 0 < renL P B S t (lOf (runT P B S m t).1) i) := by
      intro i hi
      by_cases hs : S i ≤ t
      · obtain ⟨s, h1, _, _, _, _, h6, h7, _⟩ := (hren hi).2 hs
        unfold vOf candW
        rw [h1]
        simp only
        rw [h6, h7]
        exact ⟨fun h => ⟨hs, h.2⟩, fun h => ⟨rfl, h.2⟩⟩
      · have h1 := (hren hi).1 (by omega)
        unfold vOf candW
        rw [h1]
        simp only
        exact ⟨fun h => by omega, fun h => absurd h.1 hs⟩
    have hend : ∀ i, i < m → S i ≤ t → (vOf (stT P B S t (runT P B S m t).1 m) i).e = renE P S t (eOf (runT P B S m t).1) i := by
      intro i hi hs
      obtain ⟨s, h1, _, _, _, _, _, _, h8⟩ := (hren hi).2 hs
      unfold vOf
      rw [h1]
      exact h8
    refine ⟨⟨fun i hi hs => ?_, fun i hi hs => ?_⟩, ?_⟩
    · have h1 := (hren hi).1 (by omega)
      rw [runT_st, h1]
      split <;> rfl
    · obtain ⟨s, h1, h2, h3, h4, h5, h6, _⟩ := (hren hi).2 (by omega)
      rw [runT_st, h1]
      split
      · refine ⟨chargeS s, rfl, ?_⟩
        unfold chargeS
        split <;> exact ⟨h2, h3, h4, h5, h6⟩
      · exact ⟨s, rfl, h2, h3, h4, h5, h6⟩
    · rw [show ((t + 1 : Nat) : Int) = (t : Int) + 1 from by omega]
      refine edf_pick he hok hD hQ hU (whoT P B S m t) (fun x hx => ?_) (fun j hj hs hp => ?_) (fun i hi => ?_) (fun i hi => ?_)
      · obtain ⟨h1, h2, _⟩ := whoF_some hx
        exact ⟨h1, (hcand x h1).1 h2⟩
      · have hcj := (hcand j hj).2 ⟨hs, hp⟩
        cases hw : whoT P B S m t with
        | none => exact absurd hcj (whoF_none hw j hj)
        | some x =>
          obtain ⟨h1, h2, h3⟩ := whoF_some hw
          have h4 := h3 j hj hcj
          have h5 := (hcand x h1).1 h2
          rw [hend x h1 h5.1, hend j hj hs] at h4
          exact ⟨x, rfl, by omega⟩
      · by_cases hs : S i ≤ t
        · obtain ⟨s, h1, _, _, _, _, h6, h7, _⟩ := (hren hi).2 hs
          by_cases hw : whoT P B S m t = some i
          · have e0 : (runT P B S m (t + 1)).1 i = some (chargeS s) := by rw [runT_st, if_pos hw, h1]; rfl
            have h2 := (whoF_some hw).2.1
            have h3 := ((hcand i hi).1 h2).2
            rw [lOf_some e0, if_pos hw, ← h7]
            unfold chargeS
            rw [if_neg (by rw [h6]; simp; omega)]
          · have e0 : (runT P B S m (t + 1)).1 i = some s := by rw [runT_st, if_neg hw, h1]
            rw [lOf_some e0, if_neg hw, h7]
        · have h1 := (hren hi).1 (by omega)
          have hw : ¬ whoT P B S m t = some i := fun hw => hs ((hcand i hi).1 (whoF_some hw).2.1).1
          have e0 : (runT P B S m (t + 1)).1 i = none := by rw [runT_st, if_neg hw, h1]
          rw [lOf_none e0, if_neg hw, show renL P B S t (lOf (runT P B S m t).1) i = lOf (runT P B S m t).1 i from if_neg (fun hd => hs hd.1), lOf_none (hc.no i hi (by omega))]
      · by_cases hs : S i ≤ t
        · obtain ⟨s, h1, _, _, _, _, _, _, h8⟩ := (hren hi).2 hs
          by_cases hw : whoT P B S m t = some i
          · have e0 : (runT P B S m (t + 1)).1 i = some (chargeS s) := by rw [runT_st, if_pos hw, h1]; rfl
            rw [eOf_some e0, ← h8]
            unfold chargeS
            split <;> rfl
          · have e0 : (runT P B S m (t + 1)).1 i = some s := by rw [runT_st, if_neg hw, h1]
            rw [eOf_some e0, h8]
        · have h1 := (hren hi).1 (by omega)
          have hw : ¬ whoT P B S m t = some i := fun hw => hs ((hcand i hi).1 (whoF_some hw).2.1).1
          have e0 : (runT P B S m (t + 1)).1 i = none := by rw [runT_st, if_neg hw, h1]
          rw [eOf_none e0, show renE P S t (eOf (runT P B S m t).1) i = eOf (runT P B S m t).1 i from if_neg (fun hd => hs hd.1), eOf_none (hc.no i hi (by omega))]

/-- How often one runs in so many ticks. -/
def cntT (P B S : Nat → Int) (m i a : Nat) : Nat → Int
  | 0 => 0
  | n + 1 => cntT P B S m i a n + if firV (whoT P B S m (a + n)) = (i : Int) then 1 else 0
theorem cnt_keeps {m : Nat} (hok : ∀ i, i < m → OkP (P i) (B i)) (hS : ∀ i, i < m → 0 ≤ S i) (hU : (fr P B m).1 ≤ (fr P B m).2) {i a : Nat} (hi : i < m) (ha : S i ≤ a ∧ ((a : Int) - S i) % P i = 0) {p : Nat} (hp : P i = p) : cntT P B S m i a p = B i := by
  have hrun := edf_run hok hS hU
  obtain ⟨p1, p2, p3, p4⟩ := hok i hi
  have hl : ∀ t : Nat, S i ≤ t → lOf (runT P B S m (t + 1)).1 i = renL P B S t (lOf (runT P B S m t).1) i - if firV (whoT P B S m t) = (i : Int) then 1 else 0 := by
    intro t ht
    obtain ⟨hc, he⟩ := hrun t
    obtain ⟨s, h1, _, _, _, _, h6, h7, _⟩ := (cor_ren hc he hok hi).2 ht
    have e1 : lOf (runT P B S m (t + 1)).1 i = (match (runT P B S m (t + 1)).1 i with | none => 0 | some s => s.l) := rfl
    rw [e1, runT_st, h1]
    by_cases hw : whoT P B S m t = some i
    · rw [if_pos hw, hw]
      have h2 := (whoF_some hw).2.1
      unfold vOf candW at h2
      rw [h1] at h2
      simp only at h2
      show (chargeS s).l = renL P B S t (lOf (runT P B S m t).1) i - (if ((i : Nat) : Int) = i then 1 else 0)
      rw [if_pos rfl]
      unfold chargeS
      rw [if_neg (by rw [h6]; simp; omega), ← h7]
    · rw [if_neg hw]
      have hne : ¬ firV (whoT P B S m t) = (i : Int) := by
        intro h
        cases hw' : whoT P B S m t with
        | none => rw [hw'] at h; unfold firV at h; simp only at h; omega
        | some j =>
          rw [hw'] at h hw
          unfold firV at h
          simp only at h
          exact hw (by congr 1; omega)
      rw [if_neg hne]
      show s.l = _
      omega
  have key : ∀ n : Nat, n ≤ p → 0 < n → lOf (runT P B S m (a + n)).1 i = B i - cntT P B S m i a n := by
    intro n
    induction n with
    | zero => intro _ h; omega
    | succ n ih =>
      intro hn _
      rw [← Nat.add_assoc, hl (a + n) (by omega), cntT]
      by_cases h0 : n = 0
      · subst h0
        have hdue : dueF P S ((a + 0 : Nat) : Int) i := ha
        rw [show renL P B S ((a + 0 : Nat) : Int) (lOf (runT P B S m (a + 0)).1) i = B i from if_pos hdue]
        show _ = B i - (0 + _)
        omega
      · have hnd : ¬ dueF P S ((a + n : Nat) : Int) i := by
          intro hd
          have h1 := hd.2
          rw [show ((a + n : Nat) : Int) - S i = ((a : Int) - S i) + n from by omega] at h1
          have h2 : ((a : Int) - S i + n) % P i = (n : Int) % P i := by
            rw [Int.add_emod, ha.2, Int.zero_add, Int.emod_emod]
          rw [h2, Int.emod_eq_of_lt (by omega) (by omega)] at h1
          omega
        rw [show renL P B S ((a + n : Nat) : Int) (lOf (runT P B S m (a + n)).1) i = lOf (runT P B S m (a + n)).1 i from if_neg hnd, ih (by omega) (by omega)]
        omega
  have h1 := key p (Nat.le_refl _) (by omega)
  obtain ⟨hc, he⟩ := hrun (a + p)
  have hdue : dueF P S ((a + p : Nat) : Int) i := by
    refine ⟨by omega, ?_⟩
    rw [show ((a + p : Nat) : Int) - S i = ((a : Int) - S i) + P i from by omega, Int.add_emod_right]
    exact ha.2
  have h2 := (he.empty hok hi hdue).1
  omega
end
end Go.Proofs.Ytogdpkeojccpcaa
