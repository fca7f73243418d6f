/- Contracts of the document's answer for shares: Sum, Test. -/
import Derived.Test.YtogdpkeojccpcaaShareW
namespace Go.Proofs.Ytogdpkeojccpcaa
set_option linter.all false
open Go.RowKit

theorem fr_le (P B : Nat → Int) (k : Nat) (h : ShOk P B k) : 1 ≤ (fr P B k).2 ∧ (fr P B k).2 ≤ 16777216 ∧ 0 ≤ (fr P B k).1 ∧ (fr P B k).1 ≤ 67108864 := by
  obtain ⟨b1, b2, b3, b4⟩ := fr_bounds P B k h.1 h.2
  have hk := h.1
  have : (fr P B k).2 ≤ 16777216 := by
    have : (64 : Int) ^ k ≤ 16777216 := by
      match k, hk with
      | 0, _ => decide
      | 1, _ => decide
      | 2, _ => decide
      | 3, _ => decide
      | 4, _ => decide
    omega
  have : (k : Int) * (fr P B k).2 ≤ 4 * (fr P B k).2 := Int.mul_le_mul_of_nonneg_right (by omega) (by omega)
  refine ⟨b1, by omega, b3, by omega⟩

set_option maxRecDepth 100000 in
set_option maxHeartbeats 4000000 in
theorem refSum_any {A : Option Addr} {n : Nat} {P B : Nat → Int} {w : World} (h : Pts w A n P B) (c : Nat) :
    Calls Try.prog 17 #[.slice A n c] w fun r w' => r = .returned (.tuple #[.int .i64 (smT P B n), .int .i64 (smD P B n), .int .i64 (smE P B n)]) ∧ Below w.heap.size w w' := by
  obtain ⟨Z, hr, hP⟩ := h.rd
  have hn := h.len
  have HR := Lib.hid hr
  have HP := Lib.hid hP
  have hm : (n : Int) ≤ 9223372036854775807 := by simp [maxLen] at hn; omega
  clear hr hP hn h
  have hbad : ¬ ShOk P B n → smT P B n = 0 ∧ smD P B n = 0 ∧ smE P B n = 2 := fun hh => ⟨if_neg hh, if_neg hh, if_neg hh⟩
  have HBAD := Lib.hid hbad
  clear hbad
  by_cases h4 : n ≤ 4
  · have hg : decide ((n : Int) > 4) = false := by simp; omega
    have hz : (0 : Int) ≤ n := by omega
    obtain ⟨sT, hsT⟩ : ∃ s, smT P B n = s := ⟨_, rfl⟩
    obtain ⟨sD, hsD⟩ : ∃ s, smD P B n = s := ⟨_, rfl⟩
    obtain ⟨sE, hsE⟩ : ∃ s, smE P B n = s := ⟨_, rfl⟩
    rw [hsT, hsD, hsE]
    rw [hsT, hsD, hsE] at HBAD
    have HS := Lib.hid (And.intro hsT (And.intro hsD hsE))
    clear hsT hsD hsE
    go_enter Try.func17, Try.ntmps17
    go_wp2_with fail
    go_loopw [5, 6, 7] (fun t d i wr => ∃ k : Nat, k ≤ n ∧ i = .int .i64 k ∧ t = .int .i64 (fr P B k).1 ∧ d = .int .i64 (fr P B k).2 ∧ Hid (ShOk P B k) ∧ Hid (Below w.heap.size w wr)) (fun _ _ i _ => n - (intOf i).toNat)
    case atStart => exact ⟨0, by omega, rfl, rfl, rfl, ⟨by omega, fun i hi => absurd hi (by omega)⟩, Below.refl _ _⟩
    case round =>
      obtain ⟨k, hk, rfl, rfl, rfl, hok, hb⟩ := hrel
      obtain ⟨q1, q2, q3, q4⟩ := fr_le P B k hok.out
      obtain ⟨T, hT⟩ : ∃ T, (fr P B k).1 = T := ⟨_, rfl⟩
      obtain ⟨D, hD⟩ : ∃ D, (fr P B k).2 = D := ⟨_, rfl⟩
      rw [hT, hD]
      rw [hT] at q3 q4
      rw [hD] at q1 q2
      have HTD := Lib.hid (And.intro hT hD)
      clear hT hD
      by_cases hc : k < n
      · obtain ⟨b, off, rfl, hlt, hcell⟩ := HR.out k hc
        obtain ⟨p0, p1⟩ := HP.out k hc
        obtain ⟨c0, f0⟩ := hcell 0 _ rfl
        obtain ⟨c1, f1⟩ := hcell 1 _ rfl
        obtain ⟨c2, s0, s1, s2, hs⟩ := hcell 2 _ rfl
        rw [hs] at c2
        rw [← hb.out.cell hlt] at c0 c1 c2
        rw [p0] at c0 f0
        rw [p1] at c1 f1
        obtain ⟨_, hf0, hw0⟩ := f0
        obtain ⟨_, hf1, hw1⟩ := f1
        cases hf0
        cases hf1
        have hb0 := wf_bounds hw0
        have hb1 := wf_bounds hw1
        obtain ⟨pk, hpk⟩ : ∃ x, P k = x := ⟨_, rfl⟩
        obtain ⟨bk, hbk⟩ : ∃ x, B k = x := ⟨_, rfl⟩
        rw [hpk] at c0 hb0
        rw [hbk] at c1 hb1
        simp [← Nat.add_assoc] at c0 c1 c2
        have HK := Lib.hid (And.intro hpk hbk)
        have hlk : (k : Int) < n := by omega
        have hx0 : (0 : Int) ≤ k := by omega
        have HNU := Lib.hid (show wr.heap.size ≥ w.heap.size from hb.out.size)
        clear hcell p0 p1 hw0 hw1 hpk hbk
        by_cases hkp : OkP pk bk
        · obtain ⟨k1, k2, k3, k4⟩ := hkp
          have d0 : decide (pk < 1) = false := by simp; omega
          have d1 : decide (64 < pk) = false := by simp; omega
          have d2 : decide (bk < 1) = false := by simp; omega
          have d3 : decide (pk < bk) = false := by simp; omega
          have x1 : 0 ≤ T * pk := Int.mul_nonneg q3 (by omega)
          have x2 : T * pk ≤ 67108864 * pk := Int.mul_le_mul_of_nonneg_right q4 (by omega)
          have x3 : 0 ≤ bk * D := Int.mul_nonneg (by omega) (by omega)
          have x4 : bk * D ≤ 64 * D := Int.mul_le_mul_of_nonneg_right (by omega) (by omega)
          have x5 : 0 ≤ D * pk := Int.mul_nonneg (by omega) (by omega)
          have x6 : D * pk ≤ 16777216 * pk := Int.mul_le_mul_of_nonneg_right q2 (by omega)
          have g1 : IntKind.i64.wrap (T * pk) = T * pk := IntWalk.i64_in _ (by omega)
          have g2 : IntKind.i64.wrap (bk * D) = bk * D := IntWalk.i64_in _ (by omega)
          have g3 : IntKind.i64.wrap (T * pk + bk * D) = T * pk + bk * D := IntWalk.i64_in _ (by omega)
          have g4 : IntKind.i64.wrap (D * pk) = D * pk := IntWalk.i64_in _ (by omega)
          go_wp2_with fail
          obtain ⟨rfl, rfl⟩ := HK.out
          obtain ⟨rfl, rfl⟩ := HTD.out
          refine ⟨⟨k + 1, by omega, by go_num, rfl, rfl, ⟨by omega, fun i hi => ?_⟩, hb.out.alloc HNU.out _⟩, by simp [intOf]; omega⟩
          by_cases hik : i < k
          · exact hok.out.2 i hik
          · obtain rfl : i = k := by omega
            exact ⟨k1, k2, k3, k4⟩
        · have hno := Lib.hid (show ¬ ShOk P B n from fun h => hkp (by rw [← HK.out.1, ← HK.out.2]; exact h.2 k hc))
          obtain ⟨r1, r2, r3⟩ := HBAD.out hno.out
          subst r1 r2 r3
          go_wp2_with fail
          all_goals first
            | (exfalso; exact hkp ⟨by omega, by omega, by omega, by omega⟩)
            | (go_ret3; exact ⟨rfl, hb.out.alloc HNU.out _⟩)
      · obtain rfl : k = n := by omega
        have hG : ∃ G : Nat, Int.gcd T D = G := ⟨_, rfl⟩
        obtain ⟨G, hG⟩ := hG
        have hG1 : 1 ≤ (G : Int) := by
          have : 0 < Int.gcd T D := Int.gcd_pos_of_ne_zero_right T (by omega)
          omega
        have HG := Lib.hid hG
        clear hG
        go_wp2_with fail
        go_loopw [9, 10] (fun sa sb wr => ∃ x y : Int, 0 ≤ x ∧ x ≤ 1099511627776 ∧ 0 ≤ y ∧ y ≤ 1099511627776 ∧ sa = .int .i64 x ∧ sb = .int .i64 y ∧ Hid (Int.gcd x y = G ∧ Below w.heap.size w wr)) (fun _ sb _ => (intOf sb).toNat)
        case atStart => exact ⟨T, D, by omega, by omega, by omega, by omega, rfl, rfl, ⟨HG.out, hb.out⟩⟩
        case round =>
          obtain ⟨x, y, hx0, hx1, hy0, hy1, rfl, rfl, hw⟩ := hrel
          by_cases hy : y = 0
          · subst hy
            have hz := gcd_zero hx0
            rw [hw.out.1] at hz
            subst hz
            have ht0 : 0 ≤ T / (G : Int) := Int.ediv_nonneg q3 (by omega)
            have ht1 : T / (G : Int) ≤ T := Int.ediv_le_self _ q3
            have hd0 : 0 ≤ D / (G : Int) := Int.ediv_nonneg (by omega) (by omega)
            have hd1 : D / (G : Int) ≤ D := Int.ediv_le_self _ (by omega)
            have hgz : ((G : Int) == 0) = false := by simp; omega
            have t1 : IntKind.i64.wrap (T.tdiv G) = T / G := by rw [Int.tdiv_eq_ediv_of_nonneg q3]; exact IntWalk.i64_in _ (by omega)
            have t2 : IntKind.i64.wrap (D.tdiv G) = D / G := by rw [Int.tdiv_eq_ediv_of_nonneg (by omega)]; exact IntWalk.i64_in _ (by omega)
            go_wp2_with fail
            go_region
            all_goals
              go_wp2
              go_ret3
              obtain ⟨rfl, rfl, rfl⟩ := HS.out
              obtain ⟨rfl, rfl⟩ := HTD.out
              have e1 := HG.out
              refine ⟨?_, by repeat (first | exact hw.out.2 | exact Below.drew hw.out.2 | apply Below.drew)⟩
              rw [show smT P B k = shT P B k from if_pos hok.out, show smD P B k = shD P B k from if_pos hok.out, show smE P B k = 0 from if_pos hok.out]
              unfold shT shD redT redD
              rw [e1]; rfl
          · have hz : (y == 0) = false := by simpa using hy
            have hp : 0 < y := by omega
            have m0 := Int.emod_nonneg x (b := y) (by omega)
            have m1 := Int.emod_lt_of_pos x hp
            have GS := Lib.hid (gcd_step hx0 hp)
            go_wp2_with fail
            go_region
            all_goals
              go_wp2
              refine ⟨⟨y, x % y, by omega, by omega, by omega, by omega, rfl, by first | rfl | go_num, ⟨GS.out.trans hw.out.1, hw.out.2.drew⟩⟩, by simp [intOf]; omega⟩
  · have hno : ¬ ShOk P B n := fun h => h4 h.1
    obtain ⟨r1, r2, r3⟩ := HBAD.out hno
    rw [r1, r2, r3]
    clear r1 r2 r3 hno
    go_enter Try.func17, Try.ntmps17
    go_wp2_with fail
    go_ret3
    exact ⟨rfl, Below.refl _ _⟩

set_option maxRecDepth 100000 in
set_option maxHeartbeats 2000000 in
theorem refTest_any {A : Option Addr} {n : Nat} {P B : Nat → Int} {w : World} (h : Pts w A n P B) (c : Nat) :
    Calls Try.prog 19 #[.slice A n c] w fun r w' => r = .returned (.int .i64 (smV P B n)) ∧ Below w.heap.size w w' := by
  have H := Lib.hid h
  clear h
  by_cases hk : ShOk P B n
  · have e1 : smT P B n = shT P B n := if_pos hk
    have e2 : smD P B n = shD P B n := if_pos hk
    have e3 : smE P B n = 0 := if_pos hk
    rw [show smV P B n = if shD P B n < shT P B n then 120 else 0 from if_pos hk]
    have hs := Sum_any H.out c
    have HE := Lib.hid (And.intro e1 (And.intro e2 e3))
    clear hs hk e1 e2 e3
    by_cases hc : shD P B n < shT P B n
    all_goals
      first | rw [if_pos hc] | rw [if_neg hc]
      go_enter Try.func19, Try.ntmps19
      go_wp2_with (go_at_call 17; refine (refSum_any H.out c).mono ?_; rintro r w1 ⟨rfl, hb⟩; rw [HE.out.1, HE.out.2.1, HE.out.2.2]; have HB := Lib.hid hb; clear hb)
      go_ret
      exact ⟨rfl, HB.out⟩
  · have e3 : smE P B n = 2 := if_neg hk
    rw [show smV P B n = 2 from if_neg hk]
    have HE := Lib.hid e3
    clear hk e3
    go_enter Try.func19, Try.ntmps19
    go_wp2_with (go_at_call 17; refine (refSum_any H.out c).mono ?_; rintro r w1 ⟨rfl, hb⟩; rw [HE.out]; have HB := Lib.hid hb; clear hb)
    go_ret
    exact ⟨rfl, HB.out⟩
end Go.Proofs.Ytogdpkeojccpcaa
