/- Rows of numbers compared. No condition. -/
import Derived.Test.YtlaakcgipecldaaRtJoin
namespace Go.Proofs.Ytlaakcgipecldaa
set_option linter.all false
open Go.RowKit

/-- n numbers in cells. -/
structure IntsW (w : World) (A : Option Addr) (n : Nat) (S : Nat → Int) : Prop where
  at_ : ∀ i, i < n → ∃ b o, A = some ⟨b, o, none⟩ ∧ b < w.heap.size ∧ w.cell? ⟨b, o + i, none⟩ = some (.int .i64 (S i))
theorem ints_own {w : World} {B n c : Nat} {A : Option Addr} {l : List Int} (h : w.ownsRow B 3 1 (.slice A n c) n (l.map (Value.int .i64))) : IntsW w A n (fun i => l.getD i 0) := by
  refine ⟨fun i hi => ?_⟩
  rcases h.2 with ⟨_, h0⟩ | ⟨g, cap, cur, hv, _, hb, h1, h2, h3, h4⟩
  · omega
  · injection hv with hA
    refine ⟨g, 0, hA, Blk.lt hb, ?_⟩
    have hl : l.length = n := by have := h.1; rw [List.length_map] at this; omega
    have hil : i < l.length := by omega
    rw [Nat.zero_add, Blk.cell hb]
    have e : cur[i]? = (cur.toList.take (n * 1))[i]? := by rw [List.getElem?_take, if_pos (by omega), Array.getElem?_toList]
    rw [e, h4, List.getElem?_map, List.getElem?_eq_getElem hil, List.getD_eq_getElem?_getD, List.getElem?_eq_getElem hil]
    rfl
theorem ints_blk {w : World} {g : Nat} {t : TypeId} {l : List Int} (hb : Blk w g t (l.map (Value.int .i64)).toArray) : IntsW w (some ⟨g, 0, none⟩) l.length (fun i => l.getD i 0) :=
  ⟨fun i hi => ⟨g, 0, rfl, hb.lt, by
    rw [Nat.zero_add, hb.cell]
    simp [hi]⟩⟩
theorem IntsW.nil (w : World) (A : Option Addr) (S : Nat → Int) : IntsW w A 0 S := ⟨fun i hi => absurd hi (by omega)⟩

set_option maxHeartbeats 2000000 in
theorem eqints_true {w : World} {A A' : Option Addr} {n : Nat} {S S' : Nat → Int} (h : IntsW w A n S) (h' : IntsW w A' n S') (c c' : Nat) (hS : ∀ i, i < n → S i = S' i) (hn : n ≤ maxLen) :
    Calls Try.prog 40 #[.slice A n c, .slice A' n c'] w fun r w' => r = .returned (.bool true) ∧ Below w.heap.size w w' := by
  have hnI : (n : Int) ≤ 9223372036854775807 := by simp [maxLen] at hn; omega
  have H := Lib.hid h
  have H' := Lib.hid h'
  have HS := Lib.hid hS
  clear h h' hS hn
  go_enter Try.func40, Try.ntmps40
  go_wp2_with fail
  go_loopw [5] (fun vi wr => ∃ k : Nat, k ≤ n ∧ vi = .int .i64 (k : Int) ∧ Hid (Below w.heap.size w wr)) (fun vi _ => n - (intOf vi).toNat)
  case atStart => exact ⟨0, by omega, rfl, Below.refl _ _⟩
  case round =>
    obtain ⟨k, hk, rfl, hb⟩ := hrel
    by_cases hkn : k < n
    · have hx0 : (0 : Int) ≤ k := by omega
      have hx1 : (k : Int) < n := by omega
      have w1 : IntKind.i64.wrap ((k : Int) + 1) = (k : Int) + 1 := IntWalk.i64_in _ (by omega)
      obtain ⟨b1, o1, rfl, hl1, d1⟩ := H.out.at_ k hkn
      obtain ⟨b2, o2, rfl, hl2, d2⟩ := H'.out.at_ k hkn
      rw [← hb.out.cell (p := ⟨b1, _, none⟩) hl1] at d1
      rw [← hb.out.cell (p := ⟨b2, _, none⟩) hl2] at d2
      rw [← HS.out k hkn] at d2
      obtain ⟨z, hz⟩ : ∃ z, S k = z := ⟨_, rfl⟩
      rw [hz] at d1 d2
      clear hz hl1 hl2
      go_wp2_with fail
      go_quiet (fail)
      go_wp2_with fail
      exact ⟨⟨k + 1, by omega, by go_num, belowN hb.out _⟩, by simp [intOf]; try omega⟩
    · obtain rfl : k = n := by omega
      go_wp2_with fail
      go_ret
      exact ⟨rfl, hb.out⟩

theorem IntsW.below {w w' : World} {A : Option Addr} {n : Nat} {S : Nat → Int} (h : IntsW w A n S) (hb : Below w.heap.size w w') : IntsW w' A n S := ⟨fun i hi => by
  obtain ⟨b, o, h1, h2, h3⟩ := h.at_ i hi
  exact ⟨b, o, h1, Nat.lt_of_lt_of_le h2 hb.size, (hb.cell (p := ⟨b, o + i, none⟩) h2).trans h3⟩⟩
end Go.Proofs.Ytlaakcgipecldaa
