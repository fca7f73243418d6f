/- RoutePlays: the walk of the law. -/
import Derived.Test.YtlaakcgipecldaaRtPorts3
import Derived.Deep.QuietTactic
import Derived.BigQuiet
namespace Go.Proofs.Ytlaakcgipecldaa
set_option linter.all false
open Go.RowKit
attribute [local go_sem ↓] Go.wp_at_zero Go.wp_at_succ

theorem mj_in {w w1 : World} {A : Option Addr} {Ps : List PV} (h : Cpy w w1 A Ps) {w' : World} (hb : Below w1.heap.size w1 w') : 0 < Ps.length → ∃ g cur, A = some ⟨g, 0, none⟩ ∧ w.heap.size ≤ g ∧ g < w1.heap.size ∧ IR w' g Ps 0 cur := fun hn => by
  obtain ⟨g, cur, h1, h2, h3⟩ := h.r hn
  exact ⟨g, cur, h1, h2, h3.b.lt, h3.b.below hb h3.b.lt, h3.sz, h3.at_⟩

set_option maxRecDepth 100000 in
set_option maxHeartbeats 8000000 in
theorem routePlays_core (w : World) (A0 : Option Addr) (n0 c0 : Nat) (Z0 : Nat → Nat → Value) (m0 : n0 ≤ maxLen) (q0 : n0 ≤ c0) (r0 : Rd w A0 n0 [.int .i64, .int .i64, .int .i64, .int .i64, .int .i64, .int .i64] Z0) (A1 : Option Addr) (n1 c1 : Nat) (Z1 : Nat → Nat → Value) (m1 : n1 ≤ maxLen) (r1 : Rd w A1 n1 [.int .i64, .int .i64, .int .i64, .int .i64, .str] Z1) :
    Calls Try.prog 7 #[.slice A0 n0 c0, .slice A1 n1 c1] w (Holds w) := by
  have hm : (n1 : Int) ≤ 9223372036854775807 := by simp [maxLen] at m1; omega
  have hm0 : (n0 : Int) ≤ 9223372036854775807 := by simp [maxLen] at m0; omega
  obtain ⟨Ps, hPl, hP⟩ := prd_of_rd (show Rd w A0 n0 pLeaves Z0 from r0) (min n0 10) (Nat.min_le_left _ _)
  have R1 := Lib.hid r1
  clear r0 r1 m0 m1
  have HP := Lib.hid hP
  clear hP
  obtain ⟨n, hn⟩ : ∃ n, min n0 10 = n := ⟨_, rfl⟩
  have hn10 : n ≤ 10 := by omega
  have hnc : n ≤ c0 := by omega
  have hminI : min (n0 : Int) 10 = (n : Int) := by omega
  rw [hn] at hPl
  subst hPl
  clear hn hm0 q0
  obtain ⟨E, hE⟩ : ∃ E, newE Ps = E := ⟨_, rfl⟩
  have HE := Lib.hid hE
  clear hE
  by_cases hE0 : E = 0
  · subst hE0
    go_enter Try.func7, Try.ntmps7
    go_wp2_with (first
      | (at_builtin
         refine wpList_append_in (by rfl) _ _ (by rfl) (by rfl) (by rfl) HP.out hn10 ?_
         intro A2 k2 w1 hc
         have HC := Lib.hid hc
         clear hc)
      | (go_at_call 23; refine (new_case _ _ _ Ps HC.out.p HE.out).mono ?_; rintro r x1 ⟨R, rfl, h1, -, hb⟩
         obtain ⟨rp, rfl, hF⟩ := h1 rfl
         have HN1 := Lib.hid (And.intro hF hb)
         clear h1 hF hb)
      | (go_at_call 24; refine (mnew_case _ _ _ Ps ((HP.out.below HC.out.b).below HN1.out.2) HE.out).mono ?_; rintro r x2 ⟨R, rfl, h1, -, hb⟩
         obtain ⟨rp', rfl, hF⟩ := h1 rfl
         have HN2 := Lib.hid (And.intro hF hb)
         clear h1 hF hb))
    have HB2 := Lib.hid ((HC.out.b.trans (HN1.out.2.mono HC.out.b.size)).trans (HN2.out.2.mono (Nat.le_trans HC.out.b.size HN1.out.2.size)))
    have HIN := Lib.hid (mj_in HC.out (HN1.out.2.trans (HN2.out.2.mono HN1.out.2.size)))
    have hlI : (Ps.length : Int) ≤ 10 := by omega
    go_loopw [10] (fun p wr => ∃ i : Nat, i ≤ Ps.length ∧ p = .int .i64 (i : Int) ∧ Hid (Upd (fun k => w.heap.size ≤ k ∧ k < w1.heap.size) x2 wr ∧ (0 < Ps.length → ∃ g cur, A2 = some ⟨g, 0, none⟩ ∧ w.heap.size ≤ g ∧ g < w1.heap.size ∧ IR wr g Ps i cur))) (fun p _ => Ps.length - (intOf p).toNat)
    case atStart => exact ⟨0, by omega, rfl, Upd.refl _ _, HIN.out⟩
    case round =>
      obtain ⟨i, hi, rfl, HR⟩ := hrel
      by_cases hi2 : i < Ps.length
      · have d1 : decide (i < Ps.length) = true := decide_eq_true hi2
        obtain ⟨g, cur, hA2, hg1, hg2, hIR⟩ := HR.out.2 (by omega)
        subst hA2
        obtain ⟨b, o, hA0, hb, p0, p1, p2, p3, p4, p5⟩ := HP.out i hi2
        subst hA0
        have kc : ∀ r u, w.cell? ⟨b, o + i * 6 + r, none⟩ = some u → wr.cell? ⟨b, o + i * 6 + r, none⟩ = some u := fun r u h =>
          (HR.out.1.cell (p := ⟨b, o + i * 6 + r, none⟩) (Nat.lt_of_lt_of_le hb HB2.out.size) (fun hx => by have h7 : w.heap.size ≤ b := hx.1; omega)).trans ((HB2.out.cell (p := ⟨b, o + i * 6 + r, none⟩) hb).trans h)
        have t0 := kc 0 _ p0
        have t1 := kc 1 _ p1
        have t2 := kc 2 _ p2
        have t3 := kc 3 _ p3
        have t4 := kc 4 _ p4
        have t5 := kc 5 _ p5
        simp only [Nat.add_zero] at t0
        have ke : ∀ r, r < 6 → wr.cell? ⟨g, i * 6 + r, none⟩ = (pc Ps[i])[r]? := fun r hr => (hIR.b.cell _).trans (hIR.at_ i hi2 (Nat.le_refl _) r hr)
        have s0 := ke 0 (by omega)
        have s1 := ke 1 (by omega)
        have s2 := ke 2 (by omega)
        have s3 := ke 3 (by omega)
        have s4 := ke 4 (by omega)
        have s5 := ke 5 (by omega)
        simp only [pc, List.getElem?_cons_zero, List.getElem?_cons_succ, Nat.add_zero] at s0 s1 s2 s3 s4 s5
        have f0 := hIR.b.frozen (i * 6)
        have f1 := hIR.b.frozen (i * 6 + 1)
        have f2 := hIR.b.frozen (i * 6 + 2)
        have f3 := hIR.b.frozen (i * 6 + 3)
        have f4 := hIR.b.frozen (i * 6 + 4)
        have f5 := hIR.b.frozen (i * 6 + 5)
        have HIR := Lib.hid (And.intro hg1 (And.intro hg2 hIR))
        clear p0 p1 p2 p3 p4 p5 kc ke hIR hg1 hg2 hb
        go_wp2_with fail
        go_quiet (fail)
        go_wp2_with fail
        have hz9 := ir_zero (HR.out.1.drewN nq) (show w.heap.size ≤ g ∧ g < w1.heap.size from ⟨HIR.out.1, HIR.out.2.1⟩) (show IR (wr.drewN nq) g Ps i cur from ⟨HIR.out.2.2.b.drewN nq, HIR.out.2.2.sz, HIR.out.2.2.at_⟩)
        exact ⟨⟨i + 1, by omega, rfl, hz9.1, fun _ => ⟨g, hz9.2.choose, rfl, HIR.out.1, HIR.out.2.1, hz9.2.choose_spec⟩⟩, by simp [intOf]; omega⟩
      · have d1 : decide (i < Ps.length) = false := decide_eq_false hi2
        have hJ0 : Hid (JS w wr rp rp' (Ps.map freshE)) := js_of HC.out.b HN1.out.1 HN1.out.2 HN2.out.1 HN2.out.2 HR.out.1 (sound_fresh (newE_ok HE.out).1) (by rw [List.length_map]; exact (newE_ok HE.out).2)
        clear HC HN1 HN2 HIN HB2 HR
        go_wp2_with fail
        obtain ⟨wE, hE⟩ : ∃ wE, wE = wr := ⟨_, rfl⟩
        subst hE
        go_loopw [11] (fun p wr => ∃ (k : Nat) (L : List RE), k ≤ n1 ∧ k ≤ 100 ∧ p = .int .i64 (k : Int) ∧ Hid (JS w wr rp rp' L)) (fun p _ => 100 - (intOf p).toNat)
        case atStart => exact ⟨0, _, by omega, by omega, rfl, hJ0.out⟩
        case round =>
          obtain ⟨k, L, hk, hk2, rfl, HJ⟩ := hrel
          clear hJ0
          by_cases hc : k < n1 ∧ k < 100
          · obtain ⟨b, off, rfl, hlt, hz⟩ := R1.out k hc.1
            obtain ⟨hz0, z0, e0, w0⟩ := hz 0 _ rfl
            obtain ⟨hz1, z1, e1, w1'⟩ := hz 1 _ rfl
            obtain ⟨hz2, z2, e2, w2⟩ := hz 2 _ rfl
            obtain ⟨hz3, z3, e3, w3⟩ := hz 3 _ rfl
            obtain ⟨hz4, z4, e4, w4⟩ := hz 4 _ rfl
            rw [e0] at hz0
            rw [e1] at hz1
            rw [e2] at hz2
            rw [e3] at hz3
            rw [e4] at hz4
            rw [← HJ.out.j.b.cell (p := ⟨b, _, none⟩) hlt] at hz0 hz1 hz2 hz3 hz4
            simp [← Nat.add_assoc] at hz0 hz1 hz2 hz3 hz4
            have hk1 := hc.1
            have hk3 := hc.2
            have hkk : (k : Int) < 100 := by omega
            have hx0 : (0 : Int) ≤ k := by omega
            have hx1 : (k : Int) < n1 := by omega
            have d2 : decide (k < n1) = true := decide_eq_true hc.1
            have d3 : decide (k < 100) = true := decide_eq_true hc.2
            have HW0 := Lib.hid (wf_bounds w0)
            have HZ4 := Lib.hid w4
            clear hz e0 e1 e2 e3 e4 w0 w1' w2 w3 w4
            go_wp2_with (go_at_call 25; refine (step_any HJ.out z0 z1 z2 z3 HW0.out z4 HZ4.out).mono ?_; rintro r x3 ⟨rfl, L', hJ, hll⟩; have HJ1 := Lib.hid hJ; clear hJ hll)
            obtain ⟨wF, hF⟩ : ∃ wF, wF = x3 := ⟨_, rfl⟩
            subst hF
            obtain ⟨wG, hG⟩ : ∃ wG, wG = wr := ⟨_, rfl⟩
            subst hG
            go_loopw [12] (fun p wr => ∃ j : Nat, j ≤ 10 ∧ p = .int .i64 ((j : Int) - 1) ∧ wF = wr) (fun p _ => 10 - (intOf p + 1).toNat)
            case atStart => exact ⟨0, by omega, rfl, rfl⟩
            case round =>
              obtain ⟨j, hj, rfl, rfl⟩ := hrel
              by_cases hj2 : j < 10
              · have d4 : decide ((j : Int) - 1 < 9) = true := decide_eq_true (by omega)
                have hj9 : (j : Int) - 1 < 9 := by omega
                have d5 : ((lenV L' ((j : Int) - 1)) != (lenV L' ((j : Int) - 1))) = false := by simp
                go_wp2_with (first
                  | (go_at_call 26; refine (js_len_p HJ1.out.j HJ1.out.o _).mono ?_; rintro r y5 ⟨rfl, rfl⟩)
                  | (go_at_call 27; refine (js_len_r HJ1.out _).mono ?_; rintro r y5 ⟨rfl, rfl⟩))
                exact ⟨⟨j + 1, by omega, by congr 1; omega, trivial⟩, by simp [intOf]; omega⟩
              · have d4 : decide ((j : Int) - 1 < 9) = false := decide_eq_false (by omega)
                have hj9 : ¬ ((j : Int) - 1 < 9) := by omega
                go_wp2_with fail
                exact ⟨⟨k + 1, L', by omega, by omega, rfl, HJ1.out⟩, by simp [intOf]; omega⟩
          · have HB := Lib.hid HJ.out.j.b
            by_cases hk1 : k < n1
            · have hk3 : ¬ (k : Int) < 100 := by omega
              have hx1 : (k : Int) < n1 := by omega
              go_wp2_with (go_at_call 28; refine (route_works _).mono ?_; rintro r y1 ⟨rfl, hx⟩)
              go_ret
              exact ⟨rfl, HB.out.trans (hx.mono HB.out.size)⟩
            · have hx1 : ¬ (k : Int) < n1 := by omega
              go_wp2_with (go_at_call 28; refine (route_works _).mono ?_; rintro r y1 ⟨rfl, hx⟩)
              go_ret
              exact ⟨rfl, HB.out.trans (hx.mono HB.out.size)⟩
  · have HE0 := Lib.hid hE0
    have e1 : (E == 0) = false := by simpa using hE0
    have e2 : (E != 0) = true := by simpa using hE0
    clear hE0
    go_enter Try.func7, Try.ntmps7
    go_wp2_with (first
      | (at_builtin
         refine wpList_append_in (by rfl) _ _ (by rfl) (by rfl) (by rfl) HP.out hn10 ?_
         intro A2 k2 w1 hc
         have HC := Lib.hid hc
         clear hc)
      | (go_at_call 23; refine (new_case _ _ _ Ps HC.out.p HE.out).mono ?_; rintro r x1 ⟨R, rfl, -, h1, hb⟩
         obtain rfl := h1 HE0.out
         have HN1 := Lib.hid (And.intro True.intro hb)
         clear h1 hb)
      | (go_at_call 24; refine (mnew_case _ _ _ Ps ((HP.out.below HC.out.b).below HN1.out.2) HE.out).mono ?_; rintro r x2 ⟨R, rfl, -, h1, hb⟩
         obtain rfl := h1 HE0.out
         have HN2 := Lib.hid (And.intro True.intro hb)
         clear h1 hb))
    have HB2 := Lib.hid ((HC.out.b.trans (HN1.out.2.mono HC.out.b.size)).trans (HN2.out.2.mono (Nat.le_trans HC.out.b.size HN1.out.2.size)))
    have HIN := Lib.hid (mj_in HC.out (HN1.out.2.trans (HN2.out.2.mono HN1.out.2.size)))
    have hlI : (Ps.length : Int) ≤ 10 := by omega
    go_loopw [10] (fun p wr => ∃ i : Nat, i ≤ Ps.length ∧ p = .int .i64 (i : Int) ∧ Hid (Upd (fun k => w.heap.size ≤ k ∧ k < w1.heap.size) x2 wr ∧ (0 < Ps.length → ∃ g cur, A2 = some ⟨g, 0, none⟩ ∧ w.heap.size ≤ g ∧ g < w1.heap.size ∧ IR wr g Ps i cur))) (fun p _ => Ps.length - (intOf p).toNat)
    case atStart => exact ⟨0, by omega, rfl, Upd.refl _ _, HIN.out⟩
    case round =>
      obtain ⟨i, hi, rfl, HR⟩ := hrel
      by_cases hi2 : i < Ps.length
      · have d1 : decide (i < Ps.length) = true := decide_eq_true hi2
        obtain ⟨g, cur, hA2, hg1, hg2, hIR⟩ := HR.out.2 (by omega)
        subst hA2
        obtain ⟨b, o, hA0, hb, p0, p1, p2, p3, p4, p5⟩ := HP.out i hi2
        subst hA0
        have kc : ∀ r u, w.cell? ⟨b, o + i * 6 + r, none⟩ = some u → wr.cell? ⟨b, o + i * 6 + r, none⟩ = some u := fun r u h =>
          (HR.out.1.cell (p := ⟨b, o + i * 6 + r, none⟩) (Nat.lt_of_lt_of_le hb HB2.out.size) (fun hx => by have h7 : w.heap.size ≤ b := hx.1; omega)).trans ((HB2.out.cell (p := ⟨b, o + i * 6 + r, none⟩) hb).trans h)
        have t0 := kc 0 _ p0
        have t1 := kc 1 _ p1
        have t2 := kc 2 _ p2
        have t3 := kc 3 _ p3
        have t4 := kc 4 _ p4
        have t5 := kc 5 _ p5
        simp only [Nat.add_zero] at t0
        have ke : ∀ r, r < 6 → wr.cell? ⟨g, i * 6 + r, none⟩ = (pc Ps[i])[r]? := fun r hr => (hIR.b.cell _).trans (hIR.at_ i hi2 (Nat.le_refl _) r hr)
        have s0 := ke 0 (by omega)
        have s1 := ke 1 (by omega)
        have s2 := ke 2 (by omega)
        have s3 := ke 3 (by omega)
        have s4 := ke 4 (by omega)
        have s5 := ke 5 (by omega)
        simp only [pc, List.getElem?_cons_zero, List.getElem?_cons_succ, Nat.add_zero] at s0 s1 s2 s3 s4 s5
        have f0 := hIR.b.frozen (i * 6)
        have f1 := hIR.b.frozen (i * 6 + 1)
        have f2 := hIR.b.frozen (i * 6 + 2)
        have f3 := hIR.b.frozen (i * 6 + 3)
        have f4 := hIR.b.frozen (i * 6 + 4)
        have f5 := hIR.b.frozen (i * 6 + 5)
        have HIR := Lib.hid (And.intro hg1 (And.intro hg2 hIR))
        clear p0 p1 p2 p3 p4 p5 kc ke hIR hg1 hg2 hb
        go_wp2_with fail
        go_quiet (fail)
        go_wp2_with fail
        have hz9 := ir_zero (HR.out.1.drewN nq) (show w.heap.size ≤ g ∧ g < w1.heap.size from ⟨HIR.out.1, HIR.out.2.1⟩) (show IR (wr.drewN nq) g Ps i cur from ⟨HIR.out.2.2.b.drewN nq, HIR.out.2.2.sz, HIR.out.2.2.at_⟩)
        exact ⟨⟨i + 1, by omega, rfl, hz9.1, fun _ => ⟨g, hz9.2.choose, rfl, HIR.out.1, HIR.out.2.1, hz9.2.choose_spec⟩⟩, by simp [intOf]; omega⟩
      · have d1 : decide (i < Ps.length) = false := decide_eq_false hi2
        have HBW := Lib.hid (below_upd HB2.out HR.out.1 (fun k hk => hk.1))
        clear HC HN1 HN2 HIN HB2 HR
        go_wp2_with fail
        obtain ⟨wE, hE⟩ : ∃ wE, wE = wr := ⟨_, rfl⟩
        subst hE
        go_loopw [11] (fun p wr => p = .int .i64 0 ∧ wE = wr) (fun p _ => 0)
        case atStart => exact ⟨rfl, rfl⟩
        case round =>
          obtain ⟨rfl, rfl⟩ := hrel
          by_cases hk1 : 0 < n1
          · have hx1 : (0 : Int) < n1 := by omega
            go_wp2_with (go_at_call 28; refine (route_works _).mono ?_; rintro r y1 ⟨rfl, hx⟩)
            go_ret
            exact ⟨rfl, HBW.out.trans (hx.mono HBW.out.size)⟩
          · have hx1 : ¬ (0 : Int) < n1 := by omega
            go_wp2_with (go_at_call 28; refine (route_works _).mono ?_; rintro r y1 ⟨rfl, hx⟩)
            go_ret
            exact ⟨rfl, HBW.out.trans (hx.mono HBW.out.size)⟩
end Go.Proofs.Ytlaakcgipecldaa
