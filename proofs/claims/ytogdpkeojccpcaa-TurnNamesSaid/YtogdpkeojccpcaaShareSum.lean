/- Contracts of package share: above, sum. -/
import Derived.Test.YtogdpkeojccpcaaShareLaw
import Derived.Test.YtogdpkeojccpcaaArgs
namespace Go.Proofs.Ytogdpkeojccpcaa
set_option linter.all false
open Go.RowKit

def shT (P B : Nat → Int) (n : Nat) : Int := redT (fr P B n).1 (fr P B n).2
def shD (P B : Nat → Int) (n : Nat) : Int := redD (fr P B n).1 (fr P B n).2
def ShOk (P B : Nat → Int) (n : Nat) : Prop := n ≤ 4 ∧ ∀ i, i < n → OkP (P i) (B i)

theorem sh_bounds (P B : Nat → Int) (k : Nat) (h : ShOk P B k) : 0 ≤ shT P B k ∧ shT P B k ≤ 67108864 ∧ 1 ≤ shD P B k ∧ shD P B k ≤ 16777216 := by
  obtain ⟨b1, b2, b3, b4⟩ := fr_bounds P B k h.1 h.2
  obtain ⟨g, _, _, _, d1, d2, d3, d4⟩ := red_pos b3 b1
  unfold shT shD
  have hk := h.1
  have : (fr P B k).2 ≤ 16777216 := by
    have : (64 : Int) ^ k ≤ 16777216 := by
      match k, hk with
      | 0, _ => decide
      | 1, _ => decide
      | 2, _ => decide
      | 3, _ => decide
      | 4, _ => decide
    omega
  have : (k : Int) * (fr P B k).2 ≤ 4 * (fr P B k).2 := Int.mul_le_mul_of_nonneg_right (by omega) (by omega)
  refine ⟨d1, by omega, d3, by omega⟩
theorem sh_succ (P B : Nat → Int) (k : Nat) (h : ShOk P B k) : redT (shT P B k * P k + B k * shD P B k) (shD P B k * P k) = shT P B (k + 1) ∧ redD (shT P B k * P k + B k * shD P B k) (shD P B k * P k) = shD P B (k + 1) := by
  obtain ⟨b1, b2, b3, b4⟩ := fr_bounds P B k h.1 h.2
  exact red_step b3 b1

set_option maxHeartbeats 1000000 in
theorem above_any (t d : Int) (w : World) :
    Calls Try.prog 55 #[.agg #[.int .i64 t, .int .i64 d]] w fun r w' => r = .returned (.bool (decide (d < t))) ∧ Below w.heap.size w w' := by
  go_enter Try.func55, Try.ntmps55
  go_wp2_with fail
  all_goals go_ret
  all_goals exact ⟨ret_bool (by simp; omega), (Below.refl _ _).alloc (Nat.le_refl _) _⟩

def SumRes (P B : Nat → Int) (n : Nat) (r : Ending) : Prop :=
  ∃ x y, ∃ ok : Bool, r = .returned (.tuple #[.agg #[.int .i64 x, .int .i64 y], .bool ok]) ∧ (ok = true ↔ ShOk P B n) ∧ (ok = true → x = shT P B n ∧ y = shD P B n)

set_option maxRecDepth 100000 in
set_option maxHeartbeats 2000000 in
theorem sum_any (A : Option Addr) (n c : Nat) (Z : Nat → Nat → Value) (P B : Nat → Int) (w : World) (hn : n ≤ maxLen) (hr : Rd w A n [.int .i64, .int .i64, .any] Z)
    (hP : ∀ i, i < n → Z i 0 = .int .i64 (P i) ∧ Z i 1 = .int .i64 (B i)) :
    Calls Try.prog 54 #[.slice A n c] w fun r w' =>
      SumRes P B n r ∧ Below w.heap.size w w' := by
  have HR := Lib.hid hr
  have HP := Lib.hid hP
  have hm : (n : Int) ≤ 9223372036854775807 := by simp [maxLen] at hn; omega
  clear hr hP hn
  go_enter Try.func54, Try.ntmps54
  by_cases h4 : n ≤ 4
  · have hg : decide ((n : Int) > 4) = false := by simp; omega
    have hz : (0 : Int) ≤ n := by omega
    go_wp2_with fail
    go_loopw [14] (fun i wr => ∃ k : Nat, k ≤ n ∧ i = .int .i64 k ∧ Hid (ShOk P B k) ∧ Hid (Blk wr w.heap.size 83 #[.int .i64 0, .int .i64 0] ∧ Blk wr (w.heap.size + 1) 83 #[.int .i64 (shT P B k), .int .i64 (shD P B k)] ∧ Below w.heap.size w wr)) (fun i _ => n - (intOf i).toNat)
    case atStart =>
      refine ⟨0, by omega, rfl, ⟨by omega, fun i hi => absurd hi (by omega)⟩, ?_, ?_, ?_⟩
      · exact (Blk.new w _ _).alloc _
      · have := Blk.new (w.alloc (.cells #[.int .i64 0, .int .i64 0] 83)) 83 #[.int .i64 0, .int .i64 1]
        simp only [World.size_alloc] at this
        rw [show shT P B 0 = 0 from (by decide : redT 0 1 = 0), show shD P B 0 = 1 from (by decide : redD 0 1 = 1)]
        exact this
      · exact ((Below.refl _ _).alloc (Nat.le_refl _) _).alloc (by simp) _
    case round =>
      obtain ⟨k, hk, rfl, hok, hbs⟩ := hrel
      obtain ⟨b1, b2, b3⟩ := hbs.out
      have e0 := b2.cell 0
      have e1 := b2.cell 1
      simp at e0 e1
      by_cases hc : k < n
      · obtain ⟨b, off, rfl, hlt, hcell⟩ := HR.out k hc
        obtain ⟨p0, p1⟩ := HP.out k hc
        obtain ⟨c0, f0⟩ := hcell 0 _ rfl
        obtain ⟨c1, f1⟩ := hcell 1 _ rfl
        obtain ⟨c2, s0, s1, s2, hs⟩ := hcell 2 _ rfl
        rw [hs] at c2
        rw [← b3.cell hlt] at c0 c1 c2
        rw [p0] at c0 f0
        rw [p1] at c1 f1
        obtain ⟨_, hf0, hw0⟩ := f0
        obtain ⟨_, hf1, hw1⟩ := f1
        cases hf0
        cases hf1
        have hb0 := wf_bounds hw0
        have hb1 := wf_bounds hw1
        obtain ⟨pk, hpk⟩ : ∃ x, P k = x := ⟨_, rfl⟩
        obtain ⟨bk, hbk⟩ : ∃ x, B k = x := ⟨_, rfl⟩
        rw [hpk] at c0 hb0
        rw [hbk] at c1 hb1
        simp [← Nat.add_assoc] at c0 c1 c2
        have HK := Lib.hid (And.intro hpk hbk)
        have HB := Lib.hid (And.intro b1 (And.intro b2 b3))
        have hlk : (k : Int) < n := by omega
        have hx0 : (0 : Int) ≤ k := by omega
        have z1 : w.heap.size + 1 < wr.heap.size := b2.lt
        have z0 : w.heap.size < wr.heap.size := b1.lt
        have f0 := b1.frozen 0
        have f1 := b1.frozen 1
        have f2 := b2.frozen 0
        have f3 := b2.frozen 1
        have g0 := b1.cell 0
        have g1 := b1.cell 1
        simp at g0 g1
        have hsb := sh_bounds P B k hok.out
        clear hcell p0 p1 hw0 hw1 hpk hbk b1 b2 b3 hbs
        by_cases hkp : OkP pk bk
        · obtain ⟨k1, k2, k3, k4⟩ := hkp
          have d1 : decide (64 < pk) = false := by simp; omega
          have d2 : decide (bk < 1) = false := by simp; omega
          have d3 : decide (pk < bk) = false := by simp; omega
          go_wp2_with (first
            | (go_at_call 67; refine (plus_any _ _ _ _ _ (by omega) (by omega) (by omega) (by omega)).mono ?_; rintro r x1 ⟨rfl, hx1⟩
               have y2 := (HB.out.2.1.alloc (.cells #[.int .i64 pk, .int .i64 bk, .slice s0 s1 s2] 36)).below hx1 (by simp; omega)
               have q0 := y2.cell 0
               have q1 := y2.cell 1
               have q2 := y2.frozen 0
               have q3 := y2.frozen 1
               simp at q0 q1
               have HX := Lib.hid (And.intro hx1 y2)
               clear e0 e1 f0 f1 f2 f3 g0 g1 hx1 y2 c0 c1 c2))
          obtain ⟨rfl, rfl⟩ := HK.out
          obtain ⟨t1, t2⟩ := sh_succ P B k hok.out
          rw [t1, t2]
          have a0 : Below w.heap.size w x1 := (HB.out.2.2.alloc (by omega) _).trans (HX.out.1.mono (by simp; omega))
          refine ⟨⟨k + 1, by omega, by go_num, ⟨by omega, fun i hi => ?_⟩, ?_, ?_, ?_⟩, by simp [intOf]; omega⟩
          · by_cases hik : i < k
            · exact hok.out.2 i hik
            · obtain rfl : i = k := by omega
              exact ⟨k1, k2, k3, k4⟩
          · exact ((((HB.out.1.alloc _).below HX.out.1 (by simp; omega)).far (by simp) _).far (by simp) _)
          · have := (HX.out.2.set_ 0 (.int .i64 (shT P B (k + 1)))).set_ 1 (.int .i64 (shD P B (k + 1)))
            simpa using this
          · exact (a0.setCell (by simp) _).setCell (by simp) _
        · have bb := ((HB.out.1.set_ 0 (.int .i64 (shT P B k))).set_ 1 (.int .i64 (shD P B k))).alloc (.cells #[.int .i64 pk, .int .i64 bk, .slice s0 s1 s2] 36)
          have j0 := bb.cell 0
          have j1 := bb.cell 1
          simp at j0 j1
          clear bb
          have hno := Lib.hid (show ¬ ShOk P B n from fun h => hkp (by rw [← HK.out.1, ← HK.out.2]; exact h.2 k hc))
          go_wp2_with fail
          all_goals first
            | (exfalso; exact hkp ⟨by omega, by omega, by omega, by omega⟩)
            | (refine bodyPost_ret (v := .tuple #[.agg #[.int .i64 (shT P B k), .int .i64 (shD P B k)], .bool false]) (by simp [results, Try.results54, go_sem, j0, j1]) rfl ?_
               refine ⟨⟨_, _, _, rfl, (by constructor; (intro h; cases h); (intro h; exact absurd h hno.out)), (by intro h; cases h)⟩, ?_⟩
               repeat (first | exact HB.out.2.2 | exact Below.refl _ _ | exact Nat.le_refl _ | apply Below.setCell | apply Below.alloc | apply Below.drew | (simp; done) | (simp; omega)))
      · obtain rfl : k = n := by omega
        have g0 := b1.cell 0
        have g1 := b1.cell 1
        have f0 := b1.frozen 0
        have f1 := b1.frozen 1
        have z1 : w.heap.size + 1 < wr.heap.size := b2.lt
        have z0 : w.heap.size < wr.heap.size := b1.lt
        simp at g0 g1
        have bb := (b1.set_ 0 (.int .i64 (shT P B k))).set_ 1 (.int .i64 (shD P B k))
        have j0 := bb.cell 0
        have j1 := bb.cell 1
        simp at j0 j1
        clear bb
        have HB := Lib.hid (And.intro b1 (And.intro b2 b3))
        clear b1 b2 b3 hbs
        go_wp2_with fail
        exact bodyPost_ret (v := .tuple #[.agg #[.int .i64 (shT P B k), .int .i64 (shD P B k)], .bool true]) (by simp [results, Try.results54, go_sem, j0, j1]) rfl
                ⟨⟨_, _, _, rfl, (by constructor; (intro _; exact hok.out); (intro _; rfl)), (by intro _; exact ⟨rfl, rfl⟩)⟩, by repeat (first | exact Below.refl _ _ | exact Nat.le_refl _ | apply Below.setCell | apply Below.alloc | apply Below.drew | exact HB.out.2.2 | (simp; done) | (simp; omega))⟩
  · have hz : (4 : Int) < n := by omega
    go_wp2_with fail
    exact bodyPost_ret (v := .tuple #[.agg #[.int .i64 0, .int .i64 1], .bool false]) (by simp [results, Try.results54, go_sem]) rfl
      ⟨⟨_, _, _, rfl, (by constructor; (intro h; cases h); (intro h; exact absurd h.1 h4)), (by intro h; cases h)⟩, by repeat (first | exact Below.refl _ _ | exact Nat.le_refl _ | apply Below.setCell | apply Below.alloc | apply Below.drew | (simp; done))⟩
end Go.Proofs.Ytogdpkeojccpcaa
