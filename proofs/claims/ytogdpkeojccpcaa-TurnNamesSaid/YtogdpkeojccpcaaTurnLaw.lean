/- Who runs, plain: the one whose period ends first, of those with something left. -/
import Derived.Test.YtogdpkeojccpcaaRankPut
namespace Go.Proofs.Ytogdpkeojccpcaa
set_option linter.all false

structure SlotV where
  gn : Bool
  l : Int
  e : Int
def candW (x : SlotV) : Prop := x.gn = false ∧ 0 < x.l
instance (x : SlotV) : Decidable (candW x) := by unfold candW; infer_instance
def whoF (f : Nat → SlotV) : Nat → Option Nat
  | 0 => none
  | n + 1 => match whoF f n with
    | none => if candW (f n) then some n else none
    | some j => if candW (f n) ∧ (f n).e < (f j).e then some n else some j
def rankM (f : Nat → SlotV) (n : Nat) : Nat → Option Int := fun i => if i < n ∧ candW (f i) then some (f i).e else none

theorem whoF_none {f : Nat → SlotV} {n : Nat} (h : whoF f n = none) : ∀ i, i < n → ¬ candW (f i) := by
  induction n with
  | zero => intro i hi; omega
  | succ n ih =>
    intro i hi
    unfold whoF at h
    split at h
    · rename_i h0
      by_cases hc : candW (f n)
      · rw [if_pos hc] at h; cases h
      · by_cases hin : i = n
        · rw [hin]; exact hc
        · exact ih h0 i (by omega)
    · split at h <;> cases h
theorem whoF_some {f : Nat → SlotV} {n j : Nat} (h : whoF f n = some j) : j < n ∧ candW (f j) ∧ ∀ i, i < n → candW (f i) → (f j).e < (f i).e ∨ ((f j).e = (f i).e ∧ j ≤ i) := by
  induction n generalizing j with
  | zero => cases h
  | succ n ih =>
    unfold whoF at h
    split at h
    · rename_i h0
      by_cases hc : candW (f n)
      · rw [if_pos hc] at h
        cases h
        refine ⟨by omega, hc, fun i hi hci => ?_⟩
        by_cases hin : i = n
        · right; rw [hin]; exact ⟨rfl, Nat.le_refl _⟩
        · exact absurd hci (whoF_none h0 i (by omega))
      · rw [if_neg hc] at h; cases h
    · rename_i j0 h0
      obtain ⟨h1, h2, h3⟩ := ih h0
      by_cases hc : candW (f n) ∧ (f n).e < (f j0).e
      · rw [if_pos hc] at h
        cases h
        refine ⟨by omega, hc.1, fun i hi hci => ?_⟩
        by_cases hin : i = n
        · right; rw [hin]; exact ⟨rfl, Nat.le_refl _⟩
        · left
          have := h3 i (by omega) hci
          omega
      · rw [if_neg hc] at h
        obtain rfl : j0 = j := by injection h
        refine ⟨by omega, h2, fun i hi hci => ?_⟩
        by_cases hin : i = n
        · subst hin
          have : ¬ (f i).e < (f j0).e := fun e => hc ⟨hci, e⟩
          omega
        · exact h3 i (by omega) hci
theorem whoF_of {f : Nat → SlotV} {n j : Nat} (h1 : j < n) (h2 : candW (f j)) (h3 : ∀ i, i < n → candW (f i) → (f j).e < (f i).e ∨ ((f j).e = (f i).e ∧ j ≤ i)) : whoF f n = some j := by
  cases hw : whoF f n with
  | none => exact absurd h2 (whoF_none hw j h1)
  | some j0 =>
    obtain ⟨k1, k2, k3⟩ := whoF_some hw
    have a := h3 j0 k1 k2
    have b := k3 j h1 h2
    congr 1
    omega
theorem whoF_congr {f f' : Nat → SlotV} {n : Nat} (h : ∀ i, i < n → f i = f' i) : whoF f n = whoF f' n := by
  induction n with
  | zero => rfl
  | succ n ih =>
    have i1 := ih fun i hi => h i (by omega)
    unfold whoF
    rw [i1, h n (by omega)]
    cases hw : whoF f' n with
    | none => rfl
    | some j =>
      have := (whoF_some hw).1
      simp only [h j (by omega)]

theorem rankM_zero (f : Nat → SlotV) : rankM f 0 = fun _ => none := by
  funext i; unfold rankM; rw [if_neg (by omega)]
theorem rankM_skip {f : Nat → SlotV} {k : Nat} (h : ¬ candW (f k)) : rankM f (k + 1) = rankM f k := by
  funext i
  unfold rankM
  by_cases hi : i = k
  · subst hi
    rw [if_neg (fun e => h e.2), if_neg (fun e => h e.2)]
  · by_cases h1 : i < k ∧ candW (f i)
    · rw [if_pos h1, if_pos ⟨by omega, h1.2⟩]
    · rw [if_neg h1, if_neg (fun e => h1 ⟨by omega, e.2⟩)]
theorem rankM_put {f : Nat → SlotV} {k : Nat} (h : candW (f k)) : (fun z => if z = k then some (f k).e else rankM f k z) = rankM f (k + 1) := by
  funext i
  unfold rankM
  by_cases hi : i = k
  · subst hi
    rw [if_pos rfl, if_pos ⟨by omega, h⟩]
  · rw [if_neg hi]
    by_cases h1 : i < k ∧ candW (f i)
    · rw [if_pos h1, if_pos ⟨by omega, h1.2⟩]
    · rw [if_neg h1, if_neg (fun e => h1 ⟨by omega, e.2⟩)]
theorem rankM_at (f : Nat → SlotV) (k : Nat) : rankM f k k = none := by
  unfold rankM; rw [if_neg (by omega)]

/-- The first one of the heap is who runs. -/
theorem rank_who {f : Nat → SlotV} {m n : Nat} {s : HS} (hm : m ≤ 64) (hr : RepP n s (rankM f m)) (hh : HeapP n s) :
    (n = 0 → whoF f m = none) ∧ (n ≠ 0 → ∃ j : Nat, s.I 0 = j ∧ whoF f m = some j) := by
  have key : ∀ i, i < m → candW (f i) → ∃ j, j < n ∧ s.I j = i := fun i hi hc => (hr.of_ i (f i).e (by unfold rankM; rw [if_pos ⟨hi, hc⟩])).2
  constructor
  · intro h0
    cases hw : whoF f m with
    | none => rfl
    | some j =>
      obtain ⟨h1, h2, _⟩ := whoF_some hw
      obtain ⟨j', h3, _⟩ := key j h1 h2
      omega
  · intro h0
    obtain ⟨x, hx1, hx2, hx3, hx4⟩ := hr.at_ 0 (by omega)
    refine ⟨x, hx2, ?_⟩
    unfold rankM at hx3
    by_cases hc : x < m ∧ candW (f x)
    · rw [if_pos hc] at hx3
      refine whoF_of hc.1 hc.2 fun i hi hci => ?_
      obtain ⟨j, hj, hj2⟩ := key i hi hci
      have h5 := heap_root hh j hj
      obtain ⟨y, _, hy2, hy3, _⟩ := hr.at_ j hj
      have : y = i := by omega
      subst this
      unfold rankM at hy3
      rw [if_pos ⟨hi, hci⟩] at hy3
      have e1 : (f x).e = s.K 0 := by injection hx3
      have e2 : (f y).e = s.K j := by injection hy3
      unfold AheadP at h5
      omega
    · rw [if_neg hc] at hx3; cases hx3
end Go.Proofs.Ytogdpkeojccpcaa
