/- The document's bells: Due, Same. -/
import Derived.Test.YtbfbahedbfjcoaaBelRef2
namespace Go.Proofs.Ytbfbahedbfjcoaa
set_option linter.all false
open Go.RowKit
attribute [local go_sem ↓] Go.wp_at_zero Go.wp_at_succ

set_option maxRecDepth 100000 in
set_option maxHeartbeats 4000000 in
theorem rbsame {w : World} {A B : Option Addr} {n c c' b1 b2 : Nat} {D : BL} (h1 : w.ownsRow b1 36 3 (.slice A n c) n (bellC D)) (h2 : w.ownsRow b2 36 3 (.slice B n c') n (bellC D)) (hn : n ≤ 64) :
    Calls Try.prog 21 #[.slice A n c, .slice B n c'] w fun r w' => r = .returned (.bool true) ∧ Below w.heap.size w w' := by
  have H1 := Lib.hid h1
  have H2 := Lib.hid h2
  have HN := Lib.hid hn
  clear h1 h2 hn
  go_enter Try.func21, Try.ntmps21
  go_wp2_with fail
  go_loopw [5] (fun vi wr => ∃ i : Nat, i ≤ n ∧ vi = .int .i64 (i : Int) ∧ Hid (Below w.heap.size w wr)) (fun vi _ => n - (intOf vi).toNat)
  case atStart => exact ⟨0, by omega, rfl, Below.refl _ _⟩
  case round =>
    obtain ⟨i, hi, rfl, HB⟩ := hrel
    have hx0 : (0 : Int) ≤ i := by omega
    have w1 : IntKind.i64.wrap ((i : Int) + 1) = (i : Int) + 1 := IntWalk.i64_in _ (by have := HN.out; omega)
    by_cases hin : i < n
    · have hx1 : (i : Int) < n := by omega
      obtain ⟨g, p, rfl, -, hg, hp, y0, y1, y2⟩ := bell_row H1.out i hin
      obtain ⟨g', p', rfl, -, hg', hp', z0, z1, z2⟩ := bell_row H2.out i hin
      rw [hp] at hp'
      cases hp'
      rw [← HB.out.cell (p := ⟨g, i * 3, none⟩) hg] at y0
      rw [← HB.out.cell (p := ⟨g, i * 3 + 1, none⟩) hg] at y1
      rw [← HB.out.cell (p := ⟨g, i * 3 + 2, none⟩) hg] at y2
      rw [← HB.out.cell (p := ⟨g', i * 3, none⟩) hg'] at z0
      rw [← HB.out.cell (p := ⟨g', i * 3 + 1, none⟩) hg'] at z1
      rw [← HB.out.cell (p := ⟨g', i * 3 + 2, none⟩) hg'] at z2
      obtain ⟨a, ha⟩ : ∃ a : Int, ((p.1 / 16 : Nat) : Int) = a := ⟨_, rfl⟩
      obtain ⟨b, hb⟩ : ∃ a : Int, ((p.1 % 16 : Nat) : Int) = a := ⟨_, rfl⟩
      obtain ⟨k, hk⟩ : ∃ k, p.2 = k := ⟨_, rfl⟩
      rw [hk] at y0 z0
      rw [ha] at y1 z1
      rw [hb] at y2 z2
      clear ha hb hk hp hg hg'
      go_wp2_with fail
      go_quiet (fail)
      go_wp2_with fail
      exact ⟨⟨i + 1, by omega, by go_num, belowN HB.out nq⟩, by simp [intOf]; try omega⟩
    · obtain rfl : i = n := by omega
      go_wp2_with fail
      go_ret
      exact ⟨rfl, HB.out⟩
end Go.Proofs.Ytbfbahedbfjcoaa
