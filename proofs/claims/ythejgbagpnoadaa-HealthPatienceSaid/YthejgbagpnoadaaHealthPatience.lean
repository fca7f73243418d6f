/- HealthPatience: the walk of the law. -/
import Derived.Test.YthejgbagpnoadaaHealthSet
namespace Go.Proofs.Ythejgbagpnoadaa
set_option linter.all false
open Go.RowKit

theorem sH_get {H : Nat → Int} {f v : Int} (hf : 1 ≤ f ∧ f ≤ 4) (hv : 1 ≤ v ∧ v ≤ 3) : sE 2 f v = 0 ∧ ∀ j : Nat, 1 ≤ j → j ≤ 4 → sH H 2 f v (10 + j) = if (j : Int) = f then v else H (10 + j) := by
  have hr : InR 2 f := by unfold InR; omega
  have hc : (if f = 4 then (0 : Int) else 1) ≤ v ∧ v ≤ 3 := by split <;> omega
  have hc' : (if ((f.toNat : Nat) : Int) = 4 then (0 : Int) else 1) ≤ v ∧ v ≤ 3 := by split <;> omega
  refine ⟨?_, fun j h1 h2 => ?_⟩
  · unfold sE setE; rw [if_pos hr, if_pos hc]
  · unfold sH setH
    rw [if_pos hr, if_pos hc']
    unfold updF
    by_cases e : (j : Int) = f
    · rw [if_pos e, if_pos (by show 10 + j = 2 * 5 + f.toNat; omega)]
    · rw [if_neg e, if_neg (by show ¬ 10 + j = 2 * 5 + f.toNat; omega)]

theorem tell_sum {N : Int} {T : Nat → Int} (h : Good N T) {f : Int} (hf : 1 ≤ f ∧ f ≤ 4) : sum5 (tT T 2 f) 2 = sum5 T 2 + 1 := by
  have hr : InR 2 f := by unfold InR; omega
  unfold tT
  rw [if_pos hr]
  have h4 : f.toNat = 1 ∨ f.toNat = 2 ∨ f.toNat = 3 ∨ f.toNat = 4 := by omega
  rcases h4 with e | e | e | e <;> rw [e] <;> simp [tellT, sum5, updF] <;> omega

theorem tV_two {N : Int} {H T Q : Nat → Int} {heal : Int} (h : Good N T) {f : Int} (hf : 1 ≤ f ∧ f ≤ 4) (hH : ∀ j : Nat, 1 ≤ j → j ≤ 4 → H (10 + j) = heal) :
    tV H T Q 2 f = if 0 < Q 2 ∧ Q 2 < sum5 T 2 + 1 then 3 else heal := by
  have hr : InR 2 f := by unfold InR; omega
  have hs := tell_sum h hf
  unfold tT at hs
  rw [if_pos hr] at hs
  unfold tV tellV
  rw [if_pos hr]
  have e2 : (2 : Int).toNat = 2 := rfl
  rw [e2] at hs ⊢
  rw [hs, show 2 * 5 + f.toNat = 10 + f.toNat from rfl, hH f.toNat (by omega) (by omega)]

set_option maxRecDepth 100000 in
set_option maxHeartbeats 4000000 in
theorem healthPatience_core (w : World) (a0 : Int) (h0 : -9223372036854775808 ≤ a0 ∧ a0 ≤ 9223372036854775807) (a1 : Int) (h1 : -9223372036854775808 ≤ a1 ∧ a1 ≤ 9223372036854775807) (A2 : Option Addr) (n2 c2 : Nat) (Z2 : Nat → Nat → Value) (m2 : n2 ≤ maxLen) (r2 : Rd w A2 n2 [.int .i64] Z2) :
    Calls Try.prog 5 #[.int .i64 a0, .int .i64 a1, .slice A2 n2 c2] w (Holds w) := by
  unfold maxLen at m2
  have R2 := Lib.hid r2
  clear r2
  have p0 := Int.emod_nonneg a0 (b := 31) (by decide)
  have p1 := Int.emod_lt_of_pos a0 (b := 31) (by decide)
  have p2 := Int.emod_nonneg a1 (b := 3) (by decide)
  have p3 := Int.emod_lt_of_pos a1 (b := 3) (by decide)
  go_enter Try.func5, Try.ntmps5
  go_wp2_with (first
    | (go_at_call 9; refine (bring_any _ _ _ (by assumption) (by omega)).mono ?_; rintro r x1 ⟨rfl, -, rfl⟩)
    | (go_at_call 7; refine (hnew_any _).mono ?_; rintro r x ⟨rfl, h1, h2⟩; have M0 := Lib.hid h1; have HU := Lib.hid h2; clear h1 h2))
  go_loopw [8] (fun i wr => ∃ (k : Nat) (H : Nat → Int), 1 ≤ k ∧ k ≤ 5 ∧ i = .int .i64 k ∧ Hid (MonP wr w.heap.size H (fun _ => 0) (fun _ => 0) ∧ (∀ j : Nat, 1 ≤ j → j < k → H (10 + j) = 1 + a1 % 3) ∧ Below w.heap.size w wr)) (fun i _ => 5 - (intOf i).toNat)
  case atStart => exact ⟨1, newH, by omega, by omega, rfl, ⟨M0.out, fun j hj1 hj2 => absurd hj2 (by omega), HU.out⟩⟩
  case round =>
    obtain ⟨k, H, hk1, hk5, rfl, hw⟩ := hrel
    clear M0 HU
    by_cases hc : k < 5
    · have hg := sH_get (H := H) (f := k) (v := 1 + a1 % 3) (by omega) (by omega)
      have E := Lib.hid hg.1
      have G := Lib.hid hg.2
      clear hg
      go_wp2_with (go_at_call 10; refine (hset_any _ _ _ _ _ hw.out.1).mono ?_; rintro r y1 ⟨rfl, h1, h2⟩; rw [E.out]; have M1 := Lib.hid h1; have U1 := Lib.hid h2; clear h1 h2)
      refine ⟨⟨k + 1, _, by omega, by omega, by go_num, ⟨M1.out, fun j hj1 hj2 => ?_, hw.out.2.2.trans (U1.out.below hw.out.2.2.size (fun i hi => by omega))⟩⟩, by simp [intOf]; omega⟩
      rw [G.out j hj1 (by omega)]
      by_cases e : (j : Int) = k
      · rw [if_pos e]
      · rw [if_neg e]; exact hw.out.2.1 j hj1 (by omega)
    · have hd5 : decide ((k : Int) < 5) = false := by simp; omega
      have HH : Hid (∀ j : Nat, 1 ≤ j → j ≤ 4 → H (10 + j) = 1 + a1 % 3) := fun j hj1 hj2 => hw.out.2.1 j hj1 (by omega)
      have e0 : pE 2 (a0 % 31) = 0 := by unfold pE patE; rw [if_pos (by omega), if_pos (by omega)]
      have eq : pQ (fun _ => 0) 2 (a0 % 31) 2 = a0 % 31 := by
        unfold pQ patQ
        rw [if_pos (by omega), if_pos (by omega)]
        rfl
      obtain ⟨Q, hQ⟩ : ∃ Q, pQ (fun _ => 0) 2 (a0 % 31) = Q := ⟨_, rfl⟩
      rw [hQ] at eq
      have E0 := Lib.hid e0
      have EQ := Lib.hid eq
      have HQ := Lib.hid hQ
      clear e0 eq hQ
      go_wp2_with (go_at_call 12; refine (hpat_any _ _ _ _ hw.out.1).mono ?_; rintro r y1 ⟨rfl, h1, h2⟩; rw [E0.out]; rw [HQ.out] at h1; have M1 := Lib.hid h1; have HU := Lib.hid (hw.out.2.2.trans (h2.below hw.out.2.2.size (fun i hi => by omega))); clear h1 h2)
      obtain ⟨wo, rfl⟩ : ∃ wo : World, wo = wr := ⟨_, rfl⟩
      go_loopw [9] (fun i wr => ∃ (k : Nat) (T : Nat → Int), k ≤ n2 ∧ k ≤ 60 ∧ i = .int .i64 k ∧ Hid (MonP wr w.heap.size H T Q ∧ Good k T ∧ sum5 T 2 = k ∧ Below w.heap.size w wr)) (fun i _ => 60 - (intOf i).toNat)
      case atStart => exact ⟨0, fun _ => 0, by omega, by omega, rfl, ⟨M1.out, ⟨fun i hi => by simp, fun p hp => rfl⟩, rfl, HU.out⟩⟩
      case round =>
        obtain ⟨t, T, ht1, ht2, rfl, hv⟩ := hrel
        clear M1 HU hw
        by_cases hct : t < n2 ∧ t < 60
        · obtain ⟨b, off, rfl, hlt, hz⟩ := R2.out t hct.1
          obtain ⟨hz0, z0, e0, w0⟩ := hz 0 _ rfl
          rw [e0] at hz0
          have d0 : wr.cell? ⟨b, off + t, none⟩ = some (.int .i64 z0) := by have := (hv.out.2.2.2.cell (by exact hlt)).trans hz0; simpa using this
          have hk1 := hct.1
          have hk3 := hct.2
          have q7 := Int.emod_nonneg z0 (b := 4) (by decide)
          have q8 := Int.emod_lt_of_pos z0 (b := 4) (by decide)
          have hV := tV_two (Q := Q) hv.out.2.1 (f := 1 + z0 % 4) (by omega) HH.out
          rw [EQ.out, hv.out.2.2.1] at hV
          have hR : InR 2 (1 + z0 % 4) := by unfold InR; omega
          have TS := Lib.hid (tell_sum hv.out.2.1 (f := 1 + z0 % 4) (by omega))
          have SM := Lib.hid (hv.out.2.1.small (by omega))
          have RR := Lib.hid hR
          clear hz hz0 e0 hR
          have fin : ∀ y2 : World, MonP y2 w.heap.size H (tT T 2 (1 + z0 % 4)) Q → Upd (· = w.heap.size) wr y2 → MonP y2 w.heap.size H (tT T 2 (1 + z0 % 4)) Q ∧ Good ((t + 1 : Nat) : Int) (tT T 2 (1 + z0 % 4)) ∧ sum5 (tT T 2 (1 + z0 % 4)) 2 = ((t + 1 : Nat) : Int) ∧ Below w.heap.size w y2 := by
            intro y2 m1 u1
            refine ⟨m1, ?_, ?_, hv.out.2.2.2.trans (u1.below hv.out.2.2.2.size (fun i hi => by omega))⟩
            · have := hv.out.2.1.tell 2 (1 + z0 % 4)
              rwa [show (t : Int) + 1 = ((t + 1 : Nat) : Int) from by omega] at this
            · rw [TS.out, hv.out.2.2.1]; omega
          have FIN := Lib.hid fin
          clear fin
          by_cases hn : 0 < a0 % 31 ∧ a0 % 31 ≤ t
          · rw [if_pos (by omega)] at hV
            have V := Lib.hid hV
            have hn1 := hn.1
            have hn2 := hn.2
            clear hV
            go_wp2_with (first
              | (go_at_call 9; refine (bring_any _ _ _ (wf_bounds w0) (by omega)).mono ?_; rintro r x1 ⟨rfl, -, rfl⟩)
              | (go_at_call 22; refine (tells_any _ _ _ _ _ hv.out.1 RR.out SM.out).mono ?_; rintro r y2 ⟨rfl, h1, h2⟩; rw [V.out]; have M2 := Lib.hid h1; have U2 := Lib.hid h2; clear h1 h2))
            exact ⟨⟨t + 1, _, by omega, by omega, by go_num, FIN.out _ M2.out U2.out⟩, by simp [intOf]; omega⟩
          · rw [if_neg (by omega)] at hV
            have V := Lib.hid hV
            clear hV
            by_cases hn1 : 0 < a0 % 31
            · have hn2 : ¬ a0 % 31 ≤ (t : Int) := by omega
              clear hn
              go_wp2_with (first
                | (go_at_call 9; refine (bring_any _ _ _ (wf_bounds w0) (by omega)).mono ?_; rintro r x1 ⟨rfl, -, rfl⟩)
                | (go_at_call 22; refine (tells_any _ _ _ _ _ hv.out.1 RR.out SM.out).mono ?_; rintro r y2 ⟨rfl, h1, h2⟩; rw [V.out]; have M2 := Lib.hid h1; have U2 := Lib.hid h2; clear h1 h2))
              exact ⟨⟨t + 1, _, by omega, by omega, by go_num, FIN.out _ M2.out U2.out⟩, by simp [intOf]; omega⟩
            · clear hn
              go_wp2_with (first
                | (go_at_call 9; refine (bring_any _ _ _ (wf_bounds w0) (by omega)).mono ?_; rintro r x1 ⟨rfl, -, rfl⟩)
                | (go_at_call 22; refine (tells_any _ _ _ _ _ hv.out.1 RR.out SM.out).mono ?_; rintro r y2 ⟨rfl, h1, h2⟩; rw [V.out]; have M2 := Lib.hid h1; have U2 := Lib.hid h2; clear h1 h2))
              exact ⟨⟨t + 1, _, by omega, by omega, by go_num, FIN.out _ M2.out U2.out⟩, by simp [intOf]; omega⟩
        · by_cases hk1 : t < n2
          · have hk3 : ¬ (t : Int) < 60 := by omega
            have hz1 := hv.out.2.1.lo 11 (by omega)
            have hz2 := hv.out.2.1.lo 12 (by omega)
            have hz3 := hv.out.2.1.lo 13 (by omega)
            have hz4 := hv.out.2.1.lo 14 (by omega)
            have hs := hv.out.2.2.1
            have h00 := hv.out.2.1.zero 2 (by omega)
            have e1 : nT T 2 1 = T 11 := by unfold nT; rw [if_pos (by unfold InR; omega)]; rfl
            have e2 : nT T 2 2 = T 12 := by unfold nT; rw [if_pos (by unfold InR; omega)]; rfl
            have e3 : nT T 2 3 = T 13 := by unfold nT; rw [if_pos (by unfold InR; omega)]; rfl
            have e4 : nT T 2 4 = T 14 := by unfold nT; rw [if_pos (by unfold InR; omega)]; rfl
            have e5 : nT (cT T 2) 2 1 = 0 := by unfold nT; rw [if_pos (by unfold InR; omega)]; rfl
            have e6 : cE 2 = 0 := rfl
            obtain ⟨g1, q1⟩ : ∃ g, T 11 = g := ⟨_, rfl⟩
            obtain ⟨g2, q2⟩ : ∃ g, T 12 = g := ⟨_, rfl⟩
            obtain ⟨g3, q3⟩ : ∃ g, T 13 = g := ⟨_, rfl⟩
            obtain ⟨g4, q4⟩ : ∃ g, T 14 = g := ⟨_, rfl⟩
            rw [q1] at e1 hz1
            rw [q2] at e2 hz2
            rw [q3] at e3 hz3
            rw [q4] at e4 hz4
            have hsum : g1 + g2 + g3 + g4 = t := by
              have hs' : T 10 + T 11 + T 12 + T 13 + T 14 = (t : Int) := hs
              have h0' : T 10 = 0 := h00
              omega
            have hmin : ((t : Int) == min (n2 : Int) 60) = true := by simp; omega
            have E1 := Lib.hid e1
            have E2 := Lib.hid e2
            have E3 := Lib.hid e3
            have E4 := Lib.hid e4
            have E5 := Lib.hid e5
            have E6 := Lib.hid e6
            clear e1 e2 e3 e4 e5 e6 q1 q2 q3 q4 hs h00
            go_wp2_with fail
            refine wp_loop_rounds 5 ?_
            rw [rounds_succ]
            go_wp2_with (go_at_call 18; refine (hcount_any _ _ _ _ hv.out.1).mono ?_; rintro r y3 ⟨rfl, rfl⟩; rw [E1.out])
            rw [rounds_succ]
            go_wp2_with (go_at_call 18; refine (hcount_any _ _ _ _ hv.out.1).mono ?_; rintro r y3 ⟨rfl, rfl⟩; rw [E2.out])
            rw [rounds_succ]
            go_wp2_with (go_at_call 18; refine (hcount_any _ _ _ _ hv.out.1).mono ?_; rintro r y3 ⟨rfl, rfl⟩; rw [E3.out])
            rw [rounds_succ]
            go_wp2_with (go_at_call 18; refine (hcount_any _ _ _ _ hv.out.1).mono ?_; rintro r y3 ⟨rfl, rfl⟩; rw [E4.out])
            rw [rounds_succ]
            have HB := Lib.hid hv.out.2.2.2
            go_wp2_with (first
              | (go_at_call 16; refine (hclear_any _ _ _ hv.out.1).mono ?_; rintro r y4 ⟨rfl, h1, h2⟩; rw [E6.out]; have M4 := Lib.hid h1; have HB4 := Lib.hid (HB.out.trans (h2.below HB.out.size (fun i hi => by omega))); clear h1 h2)
              | (go_at_call 18; refine (hcount_any _ _ _ _ M4.out).mono ?_; rintro r y5 ⟨rfl, rfl⟩; rw [E5.out])
              | (go_at_call 20; refine (health_works _).mono ?_; rintro r y6 ⟨rfl, hx⟩; have HB6 := Lib.hid (HB4.out.trans (hx.mono HB4.out.size)); clear hx))
            go_ret
            exact ⟨rfl, HB6.out⟩
          · have hk3 : ¬ (t : Int) < n2 := by omega
            have hz1 := hv.out.2.1.lo 11 (by omega)
            have hz2 := hv.out.2.1.lo 12 (by omega)
            have hz3 := hv.out.2.1.lo 13 (by omega)
            have hz4 := hv.out.2.1.lo 14 (by omega)
            have hs := hv.out.2.2.1
            have h00 := hv.out.2.1.zero 2 (by omega)
            have e1 : nT T 2 1 = T 11 := by unfold nT; rw [if_pos (by unfold InR; omega)]; rfl
            have e2 : nT T 2 2 = T 12 := by unfold nT; rw [if_pos (by unfold InR; omega)]; rfl
            have e3 : nT T 2 3 = T 13 := by unfold nT; rw [if_pos (by unfold InR; omega)]; rfl
            have e4 : nT T 2 4 = T 14 := by unfold nT; rw [if_pos (by unfold InR; omega)]; rfl
            have e5 : nT (cT T 2) 2 1 = 0 := by unfold nT; rw [if_pos (by unfold InR; omega)]; rfl
            have e6 : cE 2 = 0 := rfl
            obtain ⟨g1, q1⟩ : ∃ g, T 11 = g := ⟨_, rfl⟩
            obtain ⟨g2, q2⟩ : ∃ g, T 12 = g := ⟨_, rfl⟩
            obtain ⟨g3, q3⟩ : ∃ g, T 13 = g := ⟨_, rfl⟩
            obtain ⟨g4, q4⟩ : ∃ g, T 14 = g := ⟨_, rfl⟩
            rw [q1] at e1 hz1
            rw [q2] at e2 hz2
            rw [q3] at e3 hz3
            rw [q4] at e4 hz4
            have hsum : g1 + g2 + g3 + g4 = t := by
              have hs' : T 10 + T 11 + T 12 + T 13 + T 14 = (t : Int) := hs
              have h0' : T 10 = 0 := h00
              omega
            have hmin : ((t : Int) == min (n2 : Int) 60) = true := by simp; omega
            have E1 := Lib.hid e1
            have E2 := Lib.hid e2
            have E3 := Lib.hid e3
            have E4 := Lib.hid e4
            have E5 := Lib.hid e5
            have E6 := Lib.hid e6
            clear e1 e2 e3 e4 e5 e6 q1 q2 q3 q4 hs h00
            go_wp2_with fail
            refine wp_loop_rounds 5 ?_
            rw [rounds_succ]
            go_wp2_with (go_at_call 18; refine (hcount_any _ _ _ _ hv.out.1).mono ?_; rintro r y3 ⟨rfl, rfl⟩; rw [E1.out])
            rw [rounds_succ]
            go_wp2_with (go_at_call 18; refine (hcount_any _ _ _ _ hv.out.1).mono ?_; rintro r y3 ⟨rfl, rfl⟩; rw [E2.out])
            rw [rounds_succ]
            go_wp2_with (go_at_call 18; refine (hcount_any _ _ _ _ hv.out.1).mono ?_; rintro r y3 ⟨rfl, rfl⟩; rw [E3.out])
            rw [rounds_succ]
            go_wp2_with (go_at_call 18; refine (hcount_any _ _ _ _ hv.out.1).mono ?_; rintro r y3 ⟨rfl, rfl⟩; rw [E4.out])
            rw [rounds_succ]
            have HB := Lib.hid hv.out.2.2.2
            go_wp2_with (first
              | (go_at_call 16; refine (hclear_any _ _ _ hv.out.1).mono ?_; rintro r y4 ⟨rfl, h1, h2⟩; rw [E6.out]; have M4 := Lib.hid h1; have HB4 := Lib.hid (HB.out.trans (h2.below HB.out.size (fun i hi => by omega))); clear h1 h2)
              | (go_at_call 18; refine (hcount_any _ _ _ _ M4.out).mono ?_; rintro r y5 ⟨rfl, rfl⟩; rw [E5.out])
              | (go_at_call 20; refine (health_works _).mono ?_; rintro r y6 ⟨rfl, hx⟩; have HB6 := Lib.hid (HB4.out.trans (hx.mono HB4.out.size)); clear hx))
            go_ret
            exact ⟨rfl, HB6.out⟩
end Go.Proofs.Ythejgbagpnoadaa
