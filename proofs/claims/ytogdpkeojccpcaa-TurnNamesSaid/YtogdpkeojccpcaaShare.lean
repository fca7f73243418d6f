/- Contracts of package share. -/
import Derived.Test.YtogdpkeojccpcaaGcd
import Derived.Test.YtogdpkeojccpcaaOwn
import Derived.Deep.QuietTactic
import Derived.BigQuiet
import Derived.BigRegion
import Derived.StillTailTactics
namespace Go.Proofs.Ytogdpkeojccpcaa
set_option linter.all false
open Go.RowKit

/-- A fraction in lowest terms. -/
def redT (T D : Int) : Int := T / Int.gcd T D
def redD (T D : Int) : Int := D / Int.gcd T D

set_option maxRecDepth 100000 in
set_option maxHeartbeats 2000000 in
theorem plus_any (t d b p : Int) (w : World) (ht : 0 ≤ t ∧ t ≤ 100000000) (hd : 1 ≤ d ∧ d ≤ 100000000) (hb : 1 ≤ b ∧ b ≤ p) (hp : p ≤ 64) :
    Calls Try.prog 67 #[.agg #[.int .i64 t, .int .i64 d], .agg #[.int .i64 b, .int .i64 p]] w fun r w' =>
      r = .returned (.agg #[.int .i64 (redT (t * p + b * d) (d * p)), .int .i64 (redD (t * p + b * d) (d * p))]) ∧ Below w.heap.size w w' := by
  have x1 : 0 ≤ t * p := Int.mul_nonneg ht.1 (by omega)
  have x2 : t * p ≤ 100000000 * p := Int.mul_le_mul_of_nonneg_right ht.2 (by omega)
  have x3 : 0 ≤ b * d := Int.mul_nonneg (by omega) (by omega)
  have x4 : b * d ≤ 64 * d := Int.mul_le_mul_of_nonneg_right (by omega) (by omega)
  have x5 : 1 * 1 ≤ d * p := Int.mul_le_mul hd.1 (by omega) (by omega) (by omega)
  have x6 : d * p ≤ 100000000 * p := Int.mul_le_mul_of_nonneg_right hd.2 (by omega)
  obtain ⟨N, hN⟩ : ∃ N, t * p + b * d = N := ⟨_, rfl⟩
  obtain ⟨E, hE⟩ : ∃ E, d * p = E := ⟨_, rfl⟩
  have n1 : 0 ≤ N ∧ N ≤ 12800000000 := by omega
  have n2 : 1 ≤ E ∧ E ≤ 6400000000 := by omega
  obtain ⟨G, hG⟩ : ∃ G : Nat, Int.gcd N E = G := ⟨_, rfl⟩
  have hG1 : 1 ≤ (G : Int) := by
    have : 0 < Int.gcd N E := Int.gcd_pos_of_ne_zero_right N (by omega)
    omega
  have HGG := Lib.hid hG
  have g1 : IntKind.i64.wrap (t * p) = t * p := IntWalk.i64_in _ (by omega)
  have g2 : IntKind.i64.wrap (b * d) = b * d := IntWalk.i64_in _ (by omega)
  have g3 : IntKind.i64.wrap (t * p + b * d) = N := by rw [IntWalk.i64_in _ (by omega), hN]
  have g4 : IntKind.i64.wrap (d * p) = E := by rw [IntWalk.i64_in _ (by omega), hE]
  have q1 : 0 ≤ N / (G : Int) := Int.ediv_nonneg n1.1 (by omega)
  have q2 : N / (G : Int) ≤ N := Int.ediv_le_self _ n1.1
  have q3 : 0 ≤ E / (G : Int) := Int.ediv_nonneg (by omega) (by omega)
  have q4 : E / (G : Int) ≤ E := Int.ediv_le_self _ (by omega)
  have hr : redT N E = N / (G : Int) ∧ redD N E = E / (G : Int) := by unfold redT redD; rw [hG]; exact ⟨rfl, rfl⟩
  rw [hN, hE, hr.1, hr.2]
  obtain ⟨nn1, nn2⟩ := n1
  obtain ⟨nn3, nn4⟩ := n2
  clear hN hE hG x1 x2 x3 x4 x5 x6 hr
  go_enter Try.func67, Try.ntmps67
  go_wp2_with fail
  go_quiet (fail)
  clear g1 g2 g3 g4
  go_wp2_with fail
  refine (gcd_any N E _ (by omega) (by omega)).mono ?_
  rintro r w1 ⟨rfl, hx⟩
  rw [HGG.out]
  have hb3 : Blk ((((w.alloc (.cells #[.int .i64 t, .int .i64 d] 83)).alloc (.cells #[.int .i64 b, .int .i64 p] 83)).alloc (.cells #[.int .i64 0, .int .i64 0] 83)).drewN nq) (w.heap.size + 1 + 1) 83 #[.int .i64 0, .int .i64 0] := by
    have := Blk.new ((w.alloc (.cells #[.int .i64 t, .int .i64 d] 83)).alloc (.cells #[.int .i64 b, .int .i64 p] 83)) 83 #[.int .i64 0, .int .i64 0]
    simp only [World.size_alloc] at this
    exact this.drewN nq
  have hb4 := hb3.below hx hb3.lt
  have e0 : w1.cell? ⟨w.heap.size + 1 + 1, 0, none⟩ = some (.int .i64 0) := by simpa using hb4.cell 0
  have e1 : w1.cell? ⟨w.heap.size + 1 + 1, 1, none⟩ = some (.int .i64 0) := by simpa using hb4.cell 1
  have f0 := hb4.frozen 0
  have f1 := hb4.frozen 1
  have hU0 : Below w.heap.size w ((((w.alloc (.cells #[.int .i64 t, .int .i64 d] 83)).alloc (.cells #[.int .i64 b, .int .i64 p] 83)).alloc (.cells #[.int .i64 0, .int .i64 0] 83)).drewN nq) :=
    belowN ((((Below.refl _ _).alloc (Nat.le_refl _) _).alloc (by simp) _).alloc (by simp; omega) _) nq
  have hU : Below w.heap.size w w1 := hU0.trans (hx.mono hU0.size)
  clear hU0
  have HU := Lib.hid hU
  clear hx hb3 hb4 hU
  go_wp2_with fail
  have hgz : ((G : Int) == 0) = false := by simp; omega
  have t1 : IntKind.i64.wrap (N.tdiv G) = N / G := by rw [Int.tdiv_eq_ediv_of_nonneg nn1]; exact IntWalk.i64_in _ (by omega)
  have t2 : IntKind.i64.wrap (E.tdiv G) = E / G := by rw [Int.tdiv_eq_ediv_of_nonneg (by omega)]; exact IntWalk.i64_in _ (by omega)
  go_region
  go_wp2
  exact bodyPost_ret (v := .agg #[.int .i64 (N / G), .int .i64 (E / G)]) (by simp [results, Try.results67, go_sem, e0, e1]) rfl ⟨rfl, by repeat (first | exact HU.out | exact HU.out.drew | apply Below.drew | apply Below.setCell | (show w.heap.size ≤ w.heap.size + 1 + 1; omega))⟩
end Go.Proofs.Ytogdpkeojccpcaa
