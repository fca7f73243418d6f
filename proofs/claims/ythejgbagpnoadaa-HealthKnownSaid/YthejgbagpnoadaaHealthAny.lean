/- The contracts of both monitors at whatever numbers, in one and the same words. -/
import Derived.Test.YthejgbagpnoadaaHealthRefNew
namespace Go.Proofs.Ythejgbagpnoadaa
set_option linter.all false
open Go.RowKit

instance (p f : Int) : Decidable (InR p f) := by unfold InR; infer_instance

structure Good (N : Int) (T : Nat → Int) : Prop where
  lo : ∀ i, i < 20 → 0 ≤ T i ∧ T i ≤ N
  zero : ∀ p, p < 4 → T (p * 5) = 0
theorem Good.small {N : Int} {T : Nat → Int} (h : Good N T) (hN : N ≤ 1000000) : Small T := fun i hi => by have := h.lo i hi; omega
theorem Good.more {N M : Int} {T : Nat → Int} (h : Good N T) (hN : N ≤ M) : Good M T := ⟨fun i hi => by have := h.lo i hi; omega, h.zero⟩

def sE (p f v : Int) : Int := if InR p f then setE f v else 9
def sH (H : Nat → Int) (p f v : Int) : Nat → Int := if InR p f then setH H p.toNat f.toNat v else H
def pE (p n : Int) : Int := if 0 ≤ p ∧ p < 4 then patE n else 9
def pQ (Q : Nat → Int) (p n : Int) : Nat → Int := if 0 ≤ p ∧ p < 4 then patQ Q p.toNat n else Q
def tE (p f : Int) : Int := if InR p f then 0 else 9
def tV (H T Q : Nat → Int) (p f : Int) : Int := if InR p f then tellV H T Q p.toNat f.toNat else 0
def tT (T : Nat → Int) (p f : Int) : Nat → Int := if InR p f then tellT T p.toNat f.toNat else T
def cE (p : Int) : Int := if 0 ≤ p ∧ p < 4 then 0 else 9
def cT (T : Nat → Int) (p : Int) : Nat → Int := if 0 ≤ p ∧ p < 4 then clrT T p.toNat else T
def nT (T : Nat → Int) (p f : Int) : Int := if InR p f then T (p.toNat * 5 + f.toNat) else 0

theorem Good.tell {N : Int} {T : Nat → Int} (h : Good N T) (p f : Int) : Good (N + 1) (tT T p f) := by
  unfold tT
  split
  · rename_i hr
    obtain ⟨h1, h2, h3, h4⟩ := hr
    refine ⟨fun i hi => ?_, fun q hq => ?_⟩
    · have := h.lo i hi
      unfold tellT updF
      split
      · rename_i e; subst e; omega
      · omega
    · unfold tellT updF
      rw [if_neg (by omega)]
      exact h.zero q hq
  · exact h.more (by omega)
theorem Good.clear {N : Int} {T : Nat → Int} (h : Good N T) (hN : 0 ≤ N) (p : Int) : Good N (cT T p) := by
  unfold cT
  split
  · have hz : ∀ i, clrT T p.toNat i = 0 ∨ clrT T p.toNat i = T i := by
      intro i
      unfold clrT updF
      repeat (first | (split; · left; rfl) | (right; rfl))
    refine ⟨fun i hi => ?_, fun q hq => ?_⟩
    · have := h.lo i hi
      rcases hz i with e | e <;> rw [e] <;> omega
    · have := h.zero q hq
      rcases hz (q * 5) with e | e <;> rw [e]
      exact this
  · exact h

theorem tell_same {N : Int} {H T Q : Nat → Int} (h : Good N T) {p f : Nat} (hp : p < 4) (hf : 1 ≤ f) : tellR H T Q p f = tellV H T Q p f := by
  have : sum5 (tellT T p f) p = sum4 (tellT T p f) p := by
    have h0 : tellT T p f (p * 5) = 0 := by
      unfold tellT updF
      rw [if_neg (by omega)]
      exact h.zero p hp
    unfold sum5 sum4
    omega
  unfold tellR tellV
  rw [this]

section
variable (g : Nat) (p f v : Int) (w : World) {H T Q : Nat → Int}
theorem InR.nat {p f : Int} (h : InR p f) : ∃ P F : Nat, p = P ∧ f = F ∧ P < 4 ∧ 1 ≤ F ∧ F ≤ 4 := by
  obtain ⟨h1, h2, h3, h4⟩ := h
  exact ⟨p.toNat, f.toNat, by omega, by omega, by omega, by omega, by omega⟩

theorem hset_any (hm : MonP w g H T Q) : Calls Try.prog 10 #[.pointer (some ⟨g, 0, none⟩), .int .i64 p, .int .i64 f, .int .i64 v] w fun r w' => r = .returned (.int .i64 (sE p f v)) ∧ MonP w' g (sH H p f v) T Q ∧ Upd (· = g) w w' := by
  unfold sE sH
  by_cases h : InR p f
  · rw [if_pos h, if_pos h]
    obtain ⟨P, F, rfl, rfl, h3⟩ := h.nat
    exact hset_in g P F v w hm h3
  · rw [if_neg h, if_neg h]
    exact (hset_out g p f v w hm h).mono fun _ _ ⟨he, hw⟩ => ⟨he, hw ▸ hm, hw ▸ Upd.refl _ _⟩
theorem rset_any (hm : MonR w g H T Q) : Calls Try.prog 11 #[.pointer (some ⟨g, 0, none⟩), .int .i64 p, .int .i64 f, .int .i64 v] w fun r w' => r = .returned (.int .i64 (sE p f v)) ∧ MonR w' g (sH H p f v) T Q ∧ Upd (· = g) w w' := by
  unfold sE sH
  by_cases h : InR p f
  · rw [if_pos h, if_pos h]
    obtain ⟨P, F, rfl, rfl, h3⟩ := h.nat
    exact rset_in g P F v w hm h3
  · rw [if_neg h, if_neg h]
    exact (rset_out g p f v w h).mono fun _ _ ⟨he, hw⟩ => ⟨he, hw ▸ hm, hw ▸ Upd.refl _ _⟩
theorem hpat_any (hm : MonP w g H T Q) : Calls Try.prog 12 #[.pointer (some ⟨g, 0, none⟩), .int .i64 p, .int .i64 v] w fun r w' => r = .returned (.int .i64 (pE p v)) ∧ MonP w' g H T (pQ Q p v) ∧ Upd (· = g) w w' := by
  unfold pE pQ
  by_cases h : 0 ≤ p ∧ p < 4
  · rw [if_pos h, if_pos h]
    obtain ⟨P, rfl⟩ := Int.eq_ofNat_of_zero_le h.1
    exact hpat_in g P v w hm (by omega)
  · rw [if_neg h, if_neg h]
    exact (hpat_out g p v w hm h).mono fun _ _ ⟨he, hw⟩ => ⟨he, hw ▸ hm, hw ▸ Upd.refl _ _⟩
theorem rpat_any (hm : MonR w g H T Q) : Calls Try.prog 13 #[.pointer (some ⟨g, 0, none⟩), .int .i64 p, .int .i64 v] w fun r w' => r = .returned (.int .i64 (pE p v)) ∧ MonR w' g H T (pQ Q p v) ∧ Upd (· = g) w w' := by
  unfold pE pQ
  by_cases h : 0 ≤ p ∧ p < 4
  · rw [if_pos h, if_pos h]
    obtain ⟨P, rfl⟩ := Int.eq_ofNat_of_zero_le h.1
    exact rpat_in g P v w hm (by omega)
  · rw [if_neg h, if_neg h]
    exact (rpat_out g p v w h).mono fun _ _ ⟨he, hw⟩ => ⟨he, hw ▸ hm, hw ▸ Upd.refl _ _⟩
theorem hcount_any (hm : MonP w g H T Q) : Calls Try.prog 18 #[.pointer (some ⟨g, 0, none⟩), .int .i64 p, .int .i64 f] w fun r w' => r = .returned (.int .i64 (nT T p f)) ∧ w = w' := by
  unfold nT
  by_cases h : InR p f
  · rw [if_pos h]
    obtain ⟨P, F, rfl, rfl, h3⟩ := h.nat
    exact hcount_in g P F w hm h3
  · rw [if_neg h]
    exact hcount_out g p f w hm h
theorem rcount_any (hm : MonR w g H T Q) : Calls Try.prog 19 #[.pointer (some ⟨g, 0, none⟩), .int .i64 p, .int .i64 f] w fun r w' => r = .returned (.int .i64 (nT T p f)) ∧ w = w' := by
  unfold nT
  by_cases h : InR p f
  · rw [if_pos h]
    obtain ⟨P, F, rfl, rfl, h3⟩ := h.nat
    exact rcount_in g P F w hm h3
  · rw [if_neg h]
    exact rcount_out g p f w h
theorem hclear_any (hm : MonP w g H T Q) : Calls Try.prog 16 #[.pointer (some ⟨g, 0, none⟩), .int .i64 p] w fun r w' => r = .returned (.int .i64 (cE p)) ∧ MonP w' g H (cT T p) Q ∧ Upd (· = g) w w' := by
  unfold cE cT
  by_cases h : 0 ≤ p ∧ p < 4
  · rw [if_pos h, if_pos h]
    obtain ⟨P, rfl⟩ := Int.eq_ofNat_of_zero_le h.1
    exact hclear_in g P w hm (by omega)
  · rw [if_neg h, if_neg h]
    exact (hclear_out g p w hm h).mono fun _ _ ⟨he, hw⟩ => ⟨he, hw ▸ hm, hw ▸ Upd.refl _ _⟩
theorem rclear_any (hm : MonR w g H T Q) : Calls Try.prog 17 #[.pointer (some ⟨g, 0, none⟩), .int .i64 p] w fun r w' => r = .returned (.int .i64 (cE p)) ∧ MonR w' g H (cT T p) Q ∧ Upd (· = g) w w' := by
  unfold cE cT
  by_cases h : 0 ≤ p ∧ p < 4
  · rw [if_pos h, if_pos h]
    obtain ⟨P, rfl⟩ := Int.eq_ofNat_of_zero_le h.1
    exact rclear_in g P w hm (by omega)
  · rw [if_neg h, if_neg h]
    exact (rclear_out g p w h).mono fun _ _ ⟨he, hw⟩ => ⟨he, hw ▸ hm, hw ▸ Upd.refl _ _⟩
theorem htell_any (hm : MonP w g H T Q) (ht : Small T) : Calls Try.prog 14 #[.pointer (some ⟨g, 0, none⟩), .int .i64 p, .int .i64 f] w fun r w' => r = .returned (.tuple #[.int .i64 (tV H T Q p f), .int .i64 (tE p f)]) ∧ MonP w' g H (tT T p f) Q ∧ Upd (· = g) w w' := by
  unfold tV tE tT
  by_cases h : InR p f
  · rw [if_pos h, if_pos h, if_pos h]
    obtain ⟨P, F, rfl, rfl, h3⟩ := h.nat
    exact htell_in g P F w hm h3 ht
  · rw [if_neg h, if_neg h, if_neg h]
    exact (htell_out g p f w hm h).mono fun _ _ ⟨he, hw⟩ => ⟨he, hw ▸ hm, hw ▸ Upd.refl _ _⟩
theorem rtell_any {N : Int} (hm : MonR w g H T Q) (ht : Small T) (hg : Good N T) : Calls Try.prog 15 #[.pointer (some ⟨g, 0, none⟩), .int .i64 p, .int .i64 f] w fun r w' => r = .returned (.tuple #[.int .i64 (tV H T Q p f), .int .i64 (tE p f)]) ∧ MonR w' g H (tT T p f) Q ∧ Upd (· = g) w w' := by
  unfold tV tE tT
  by_cases h : InR p f
  · rw [if_pos h, if_pos h, if_pos h]
    obtain ⟨P, F, rfl, rfl, h3⟩ := h.nat
    have := rtell_in g P F w hm h3 ht
    rwa [tell_same hg h3.1 h3.2.1] at this
  · rw [if_neg h, if_neg h, if_neg h]
    exact (rtell_out g p f w h).mono fun _ _ ⟨he, hw⟩ => ⟨he, hw ▸ hm, hw ▸ Upd.refl _ _⟩
theorem hcount_q {w : World} {m : Nat} (hm : MonP w g H T Q) : Calls Try.prog 18 #[.pointer (some ⟨g, 0, none⟩), .int .i64 p, .int .i64 f] (w.drewN m) fun r w' => r = .returned (.int .i64 (nT T p f)) ∧ ∃ k, w' = w.drewN k :=
  (hcount_any g p f _ (hm.drewN m)).mono fun _ _ ⟨he, hw⟩ => ⟨he, m, hw.symm⟩
theorem rcount_q {w : World} {m : Nat} (hm : MonR w g H T Q) : Calls Try.prog 19 #[.pointer (some ⟨g, 0, none⟩), .int .i64 p, .int .i64 f] (w.drewN m) fun r w' => r = .returned (.int .i64 (nT T p f)) ∧ ∃ k, w' = w.drewN k :=
  (rcount_any g p f _ (hm.drewN m)).mono fun _ _ ⟨he, hw⟩ => ⟨he, m, hw.symm⟩
end
theorem MonR.alloc {w : World} {g : Nat} {H T Q : Nat → Int} (h : MonR w g H T Q) (o : Obj) : MonR (w.alloc o) g H T Q := h.upd (S := fun _ => False) ((Upd.refl _ _).alloc o) (fun h => h)
end Go.Proofs.Ythejgbagpnoadaa
