/- Contracts of package share: Sum, Test; and of the document's answer. -/
import Derived.Test.YtogdpkeojccpcaaShareSum
namespace Go.Proofs.Ytogdpkeojccpcaa
set_option linter.all false
open Go.RowKit

instance (P B : Nat → Int) (n : Nat) : Decidable (ShOk P B n) := by unfold ShOk; infer_instance
def smT (P B : Nat → Int) (n : Nat) : Int := if ShOk P B n then shT P B n else 0
def smD (P B : Nat → Int) (n : Nat) : Int := if ShOk P B n then shD P B n else 0
def smE (P B : Nat → Int) (n : Nat) : Int := if ShOk P B n then 0 else 2
def smV (P B : Nat → Int) (n : Nat) : Int := if ShOk P B n then (if shD P B n < shT P B n then 120 else 0) else 2

/-- The parts a slice holds. -/
structure Pts (w : World) (A : Option Addr) (n : Nat) (P B : Nat → Int) : Prop where
  rd : ∃ Z, Rd w A n [.int .i64, .int .i64, .any] Z ∧ ∀ i, i < n → Z i 0 = .int .i64 (P i) ∧ Z i 1 = .int .i64 (B i)
  len : n ≤ maxLen

theorem Pts.sum {w : World} {A : Option Addr} {n : Nat} {P B : Nat → Int} (h : Pts w A n P B) (c : Nat) :
    Calls Try.prog 54 #[.slice A n c] w fun r w' => SumRes P B n r ∧ Below w.heap.size w w' := by
  obtain ⟨Z, h1, h2⟩ := h.rd
  exact sum_any A n c Z P B w h.len h1 h2

theorem Pts.sumOk {w : World} {A : Option Addr} {n : Nat} {P B : Nat → Int} (h : Pts w A n P B) (c : Nat) (hk : ShOk P B n) :
    Calls Try.prog 54 #[.slice A n c] w fun r w' => r = .returned (.tuple #[.agg #[.int .i64 (shT P B n), .int .i64 (shD P B n)], .bool true]) ∧ Below w.heap.size w w' := by
  refine (h.sum c).mono ?_
  rintro r w1 ⟨⟨x, y, ok, rfl, h1, h2⟩, hb⟩
  have := h1.2 hk
  subst this
  obtain ⟨rfl, rfl⟩ := h2 rfl
  exact ⟨rfl, hb⟩
theorem Pts.sumNo {w : World} {A : Option Addr} {n : Nat} {P B : Nat → Int} (h : Pts w A n P B) (c : Nat) (hk : ¬ ShOk P B n) :
    Calls Try.prog 54 #[.slice A n c] w fun r w' => (∃ x y, r = .returned (.tuple #[.agg #[.int .i64 x, .int .i64 y], .bool false])) ∧ Below w.heap.size w w' := by
  refine (h.sum c).mono ?_
  rintro r w1 ⟨⟨x, y, ok, rfl, h1, h2⟩, hb⟩
  cases ok with
  | true => exact absurd (h1.1 rfl) hk
  | false => exact ⟨⟨x, y, rfl⟩, hb⟩

set_option maxRecDepth 100000 in
set_option maxHeartbeats 2000000 in
theorem Sum_any {A : Option Addr} {n : Nat} {P B : Nat → Int} {w : World} (h : Pts w A n P B) (c : Nat) :
    Calls Try.prog 16 #[.slice A n c] w fun r w' => r = .returned (.tuple #[.int .i64 (smT P B n), .int .i64 (smD P B n), .int .i64 (smE P B n)]) ∧ Below w.heap.size w w' := by
  have H := Lib.hid h
  clear h
  by_cases hk : ShOk P B n
  · rw [show smT P B n = shT P B n from if_pos hk, show smD P B n = shD P B n from if_pos hk, show smE P B n = 0 from if_pos hk]
    have HK := Lib.hid hk
    clear hk
    go_enter Try.func16, Try.ntmps16
    go_wp2_with (go_at_call 54; refine (H.out.sumOk c HK.out).mono ?_; rintro r w1 ⟨rfl, hb⟩; have HB := Lib.hid hb; clear hb)
    go_quiet (fail)
    go_wp2_with fail
    go_ret3
    have z := HB.out.size
    exact ⟨rfl, by repeat (first | exact HB.out | exact Below.refl _ _ | apply Below.setCell | apply Below.alloc | apply belowN | (simp; done) | assumption)⟩
  · rw [show smT P B n = 0 from if_neg hk, show smD P B n = 0 from if_neg hk, show smE P B n = 2 from if_neg hk]
    have HK := Lib.hid hk
    clear hk
    go_enter Try.func16, Try.ntmps16
    go_wp2_with (go_at_call 54; refine (H.out.sumNo c HK.out).mono ?_; rintro r w1 ⟨⟨x, y, rfl⟩, hb⟩; have HB := Lib.hid hb; clear hb)
    go_ret3
    have z := HB.out.size
    exact ⟨rfl, by repeat (first | exact HB.out | exact Below.refl _ _ | apply Below.setCell | apply Below.alloc | (simp; done) | assumption)⟩

set_option maxRecDepth 100000 in
set_option maxHeartbeats 2000000 in
theorem Test_any {A : Option Addr} {n : Nat} {P B : Nat → Int} {w : World} (h : Pts w A n P B) (c : Nat) :
    Calls Try.prog 18 #[.slice A n c] w fun r w' => r = .returned (.int .i64 (smV P B n)) ∧ Below w.heap.size w w' := by
  have H := Lib.hid h
  clear h
  by_cases hk : ShOk P B n
  · rw [show smV P B n = if shD P B n < shT P B n then 120 else 0 from if_pos hk]
    have HK := Lib.hid hk
    clear hk
    by_cases hc : shD P B n < shT P B n
    all_goals
      first | rw [if_pos hc] | rw [if_neg hc]
      have HC := Lib.hid hc
      clear hc
      go_enter Try.func18, Try.ntmps18
      go_wp2_with (first
        | (go_at_call 54; refine (H.out.sumOk c HK.out).mono ?_; rintro r w1 ⟨rfl, hb⟩; have HB := Lib.hid hb; clear hb)
        | (go_at_call 55; go_loud (refine (above_any _ _ _).mono ?_; rintro r w2 ⟨rfl, hb2⟩; (first | rw [decide_eq_true HC.out] | rw [decide_eq_false (Int.not_lt.mpr HC.out)]); have HB2 := Lib.hid hb2; clear hb2)))
      go_ret
      have z := HB.out.size
      exact ⟨rfl, Below.trans (by repeat (first | exact HB.out | exact Below.refl _ _ | apply Below.setCell | apply Below.alloc | (simp; done) | assumption)) (HB2.out.mono (by simp; omega))⟩
  · rw [show smV P B n = 2 from if_neg hk]
    have HK := Lib.hid hk
    clear hk
    go_enter Try.func18, Try.ntmps18
    go_wp2_with (go_at_call 54; refine (H.out.sumNo c HK.out).mono ?_; rintro r w1 ⟨⟨x, y, rfl⟩, hb⟩; have HB := Lib.hid hb; clear hb)
    go_ret
    have z := HB.out.size
    exact ⟨rfl, by repeat (first | exact HB.out | exact Below.refl _ _ | apply Below.setCell | apply Below.alloc | (simp; done) | assumption)⟩
end Go.Proofs.Ytogdpkeojccpcaa
