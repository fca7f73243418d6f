/- One more server of a longer period: plain. -/
import Derived.Test.YtogdpkeojccpcaaTurnEdf
namespace Go.Proofs.Ytogdpkeojccpcaa
set_option linter.all false
section
variable {P B S : Nat → Int}
/-- How both plans stand at a tick. -/
structure ApI (P B S : Nat → Int) (m : Nat) (t : Nat) (σ σ' : Nat → Option PS) : Prop where
  same : ∀ i, i < m → σ' i = σ i
  e : ∀ i, i < m → ∀ s, σ i = some s → s.p ≤ 20 ∧ s.e ≤ t + 20 ∧ s.n = none ∧ s.lv = false ∧ s.gn = false
  long : (t = 0 ∧ σ' m = none) ∨ (0 < t ∧ ∃ s, σ' m = some s ∧ s.e = 64 ∧ s.n = none ∧ s.lv = false ∧ s.gn = false)
theorem charge_keeps (s : PS) : (chargeS s).p = s.p ∧ (chargeS s).e = s.e ∧ (chargeS s).n = s.n ∧ (chargeS s).lv = s.lv ∧ (chargeS s).gn = s.gn := by
  unfold chargeS
  split <;> exact ⟨rfl, rfl, rfl, rfl, rfl⟩
theorem turn_keeps {s : PS} {now : Int} (hp : s.p ≤ 20) (he : s.e ≤ now + 20) (hn : s.n = none) (hlv : s.lv = false) (hg : s.gn = false) : (turnS s now).p ≤ 20 ∧ (turnS s now).e ≤ now + 20 ∧ (turnS s now).n = none ∧ (turnS s now).lv = false ∧ (turnS s now).gn = false := by
  by_cases h : s.e = now
  · rw [turn_due h hn hlv hg]
    exact ⟨hp, by show now + s.p ≤ now + 20; omega, hn, hlv, hg⟩
  · rw [turn_same h]
    exact ⟨hp, he, hn, hlv, hg⟩
theorem ap_at {m t : Nat} {σ σ' : Nat → Option PS} (h : ApI P B S m t σ σ') (hP : ∀ i, i < m → P i ≤ 20) (hS : ∀ i, i ≤ m → S i = 0) (hPm : P m = 64) (ht : t < 44) :
    (∀ i, i < m → stT P B S t σ' (m + 1) i = stT P B S t σ m i) ∧ (∀ i, i < m → ∀ s, stT P B S t σ m i = some s → s.p ≤ 20 ∧ s.e ≤ t + 20 ∧ s.n = none ∧ s.lv = false ∧ s.gn = false) ∧
      (∃ s, stT P B S t σ' (m + 1) m = some s ∧ s.e = 64 ∧ s.n = none ∧ s.lv = false ∧ s.gn = false) := by
  have e1 : ∀ i, i < m → stT P B S t σ m i = atT P B S t σ i := fun i hi => by unfold stT; rw [if_pos hi]
  have e2 : ∀ i, i ≤ m → stT P B S t σ' (m + 1) i = atT P B S t σ' i := fun i hi => by unfold stT; rw [if_pos (by omega)]
  refine ⟨fun i hi => ?_, fun i hi s hs => ?_, ?_⟩
  · rw [e1 i hi, e2 i (by omega)]
    unfold atT
    rw [h.same i hi]
  · rw [e1 i hi] at hs
    have hp := hP i hi
    by_cases h0 : S i = (t : Int)
    · rw [atT_new h0] at hs
      injection hs with hs
      subst hs
      refine turn_keeps hp (by show (t : Int) + P i ≤ t + 20; omega) rfl rfl rfl
    · cases hσ : σ i with
      | none => rw [atT_none h0 hσ] at hs; cases hs
      | some s0 =>
        rw [atT_some h0 hσ] at hs
        injection hs with hs
        subst hs
        obtain ⟨k1, k2, k3, k4, k5⟩ := h.e i hi s0 hσ
        exact turn_keeps k1 k2 k3 k4 k5
  · rw [e2 m (Nat.le_refl _)]
    rcases h.long with ⟨h1, _⟩ | ⟨h1, s, h2, h3, h4, h5, h6⟩
    · have h0 : S m = (t : Int) := by rw [hS m (Nat.le_refl _), h1]; rfl
      rw [atT_new h0, turn_same (by show (t : Int) + P m ≠ t; omega)]
      exact ⟨_, rfl, by show (t : Int) + P m = 64; omega, rfl, rfl, rfl⟩
    · have h0 : S m ≠ (t : Int) := by rw [hS m (Nat.le_refl _)]; omega
      rw [atT_some h0 h2, turn_same (by omega)]
      exact ⟨s, rfl, h3, h4, h5, h6⟩
theorem ap_who {m t : Nat} {σ σ' : Nat → Option PS} (h : ApI P B S m t σ σ') (hP : ∀ i, i < m → P i ≤ 20) (hS : ∀ i, i ≤ m → S i = 0) (hPm : P m = 64) (ht : t < 44) :
    (∀ j, whoF (vOf (stT P B S t σ m)) m = some j → whoF (vOf (stT P B S t σ' (m + 1))) (m + 1) = some j) ∧
      (whoF (vOf (stT P B S t σ m)) m = none → whoF (vOf (stT P B S t σ' (m + 1))) (m + 1) = none ∨ whoF (vOf (stT P B S t σ' (m + 1))) (m + 1) = some m) := by
  obtain ⟨h1, h2, s, h3, h4, _⟩ := ap_at h hP hS hPm ht
  have hc : whoF (vOf (stT P B S t σ' (m + 1))) m = whoF (vOf (stT P B S t σ m)) m := whoF_congr fun i hi => by unfold vOf; rw [h1 i hi]
  have hem : (vOf (stT P B S t σ' (m + 1)) m).e = 64 := by unfold vOf; rw [h3]; exact h4
  constructor
  · intro j hj
    rw [whoF_succ, hc, hj]
    simp only
    obtain ⟨k1, k2, _⟩ := whoF_some hj
    obtain ⟨s', hs'⟩ := cand_some k2
    have hej : (vOf (stT P B S t σ' (m + 1)) j).e ≤ 63 := by
      unfold vOf
      rw [h1 j k1, hs']
      have := (h2 j k1 s' hs').2.1
      show s'.e ≤ 63
      omega
    rw [if_neg (fun hh => by have := hh.2; rw [hem] at this; omega)]
  · intro hj
    rw [whoF_succ, hc, hj]
    simp only
    by_cases hcm : candW (vOf (stT P B S t σ' (m + 1)) m)
    · rw [if_pos hcm]; exact Or.inr rfl
    · rw [if_neg hcm]; exact Or.inl rfl
theorem ap_run {m : Nat} (hP : ∀ i, i < m → P i ≤ 20) (hS : ∀ i, i ≤ m → S i = 0) (hPm : P m = 64) : ∀ t, t ≤ 44 → ApI P B S m t (runT P B S m t).1 (runT P B S (m + 1) t).1 := by
  intro t
  induction t with
  | zero => intro _; exact ⟨fun i _ => rfl, fun i _ s hs => (by cases hs), Or.inl ⟨rfl, rfl⟩⟩
  | succ t ih =>
    intro ht
    have h := ih (by omega)
    obtain ⟨h1, h2, s, h3, h4, h5, h6, h7⟩ := ap_at h hP hS hPm (by omega)
    obtain ⟨w1, w2⟩ := ap_who h hP hS hPm (by omega)
    have hw : ∀ i, i < m → (whoT P B S (m + 1) t = some i ↔ whoT P B S m t = some i) := by
      intro i hi
      cases hwm : whoT P B S m t with
      | none =>
        rcases w2 hwm with h8 | h8
        · exact ⟨fun hh => (by rw [show whoT P B S (m + 1) t = none from h8] at hh; cases hh), fun hh => (by cases hh)⟩
        · exact ⟨fun hh => (by rw [show whoT P B S (m + 1) t = some m from h8] at hh; injection hh with hh; omega), fun hh => (by cases hh)⟩
      | some j =>
        have h8 : whoT P B S (m + 1) t = some j := w1 j hwm
        rw [h8]
    refine ⟨fun i hi => ?_, fun i hi s' hs' => ?_, Or.inr ⟨by omega, ?_⟩⟩
    · rw [runT_st, runT_st, h1 i hi]
      by_cases hwi : whoT P B S m t = some i
      · rw [if_pos hwi, if_pos ((hw i hi).2 hwi)]
      · rw [if_neg hwi, if_neg (fun hh => hwi ((hw i hi).1 hh))]
    · rw [runT_st] at hs'
      have key : ∀ s0, stT P B S t (runT P B S m t).1 m i = some s0 → s0.p ≤ 20 ∧ s0.e ≤ ((t + 1 : Nat) : Int) + 20 ∧ s0.n = none ∧ s0.lv = false ∧ s0.gn = false := fun s0 hs0 => by
        obtain ⟨k1, k2, k3⟩ := h2 i hi s0 hs0
        exact ⟨k1, by omega, k3⟩
      by_cases hwi : whoT P B S m t = some i
      · rw [if_pos hwi] at hs'
        cases hst : stT P B S t (runT P B S m t).1 m i with
        | none => rw [hst] at hs'; cases hs'
        | some s0 =>
          rw [hst] at hs'
          injection hs' with hs'
          subst hs'
          obtain ⟨c1, c2, c3, c4, c5⟩ := charge_keeps s0
          rw [c1, c2, c3, c4, c5]
          exact key s0 hst
      · rw [if_neg hwi] at hs'
        exact key s' hs'
    · rw [runT_st, h3]
      split
      · obtain ⟨c1, c2, c3, c4, c5⟩ := charge_keeps s
        exact ⟨chargeS s, rfl, by rw [c2]; exact h4, by rw [c3]; exact h5, by rw [c4]; exact h6, by rw [c5]; exact h7⟩
      · exact ⟨s, rfl, h4, h5, h6, h7⟩
/-- What the law asks, tick by tick. -/
theorem ap_law {m : Nat} (hP : ∀ i, i < m → P i ≤ 20) (hS : ∀ i, i ≤ m → S i = 0) (hPm : P m = 64) {t : Nat} (ht : t < 44) :
    (∃ j : Nat, (runT P B S m 44).2.getD t 0 = j ∧ (runT P B S (m + 1) 44).2.getD t 0 = j) ∨
      ((runT P B S m 44).2.getD t 0 = -1 ∧ ((runT P B S (m + 1) 44).2.getD t 0 = -1 ∨ (runT P B S (m + 1) 44).2.getD t 0 = m)) := by
  obtain ⟨w1, w2⟩ := ap_who (ap_run (B := B) hP hS hPm t (by omega)) hP hS hPm ht
  rw [runT_at 44 ht, runT_at 44 ht]
  cases hw : whoT P B S m t with
  | none =>
    right
    refine ⟨rfl, ?_⟩
    rcases w2 hw with h | h
    · left; rw [show whoT P B S (m + 1) t = none from h]; rfl
    · right; rw [show whoT P B S (m + 1) t = some m from h]; rfl
  | some j =>
    left
    exact ⟨j, rfl, by rw [show whoT P B S (m + 1) t = some j from w1 j hw]; rfl⟩
end
end Go.Proofs.Ytogdpkeojccpcaa
