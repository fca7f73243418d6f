/- The contract of set: a monitor to which calls are done, those at one partition left out. -/
import Derived.Test.YthejgbagpnoadaaHealthW
import Derived.Test.YthejgbagpnoadaaArgs
namespace Go.Proofs.Ythejgbagpnoadaa
set_option linter.all false
open Go.RowKit

/-- What is set, told, and borne. -/
structure HS where
  H : Nat → Int
  T : Nat → Int
  Q : Nat → Int

def hsStep (s : HS) (kind part fault n but : Int) : HS :=
  if part % 4 = but then s
  else if kind % 4 = 0 then ⟨sH s.H (part % 4) (1 + fault % 4) (n % 4), s.T, s.Q⟩
  else if kind % 4 = 1 then ⟨s.H, s.T, pQ s.Q (part % 4) (n % 20)⟩
  else if kind % 4 = 2 then ⟨s.H, tT s.T (part % 4) (1 + fault % 4), s.Q⟩
  else ⟨s.H, cT s.T (part % 4), s.Q⟩

theorem hsStep_good {N : Int} {s : HS} (h : Good N s.T) (hN : 0 ≤ N) (kind part fault n but : Int) : Good (N + 1) (hsStep s kind part fault n but).T := by
  unfold hsStep
  by_cases h0 : part % 4 = but
  · rw [if_pos h0]; exact h.more (by omega)
  · rw [if_neg h0]
    by_cases h1 : kind % 4 = 0
    · rw [if_pos h1]; exact h.more (by omega)
    · rw [if_neg h1]
      by_cases h2 : kind % 4 = 1
      · rw [if_pos h2]; exact h.more (by omega)
      · rw [if_neg h2]
        by_cases h3 : kind % 4 = 2
        · rw [if_pos h3]; exact h.tell _ _
        · rw [if_neg h3]; exact (h.clear hN _).more (by omega)

def hsRun (Z : Nat → Nat → Value) (but : Int) : Nat → HS
  | 0 => ⟨newH, fun _ => 0, fun _ => 0⟩
  | k + 1 => hsStep (hsRun Z but k) (intOf (Z k 0)) (intOf (Z k 1)) (intOf (Z k 2)) (intOf (Z k 3)) but

theorem hsRun_good (Z : Nat → Nat → Value) (but : Int) (k : Nat) : Good k (hsRun Z but k).T := by
  induction k with
  | zero => exact ⟨fun i hi => by simp [hsRun], fun p hp => rfl⟩
  | succ k ih =>
    have := hsStep_good ih (by omega) (intOf (Z k 0)) (intOf (Z k 1)) (intOf (Z k 2)) (intOf (Z k 3)) but
    unfold hsRun
    rwa [show ((k + 1 : Nat) : Int) = k + 1 from by omega]

theorem MonP.below' {w w' : World} {g : Nat} {H T Q : Nat → Int} (h : MonP w g H T Q) (hb : Below w.heap.size w w') : MonP w' g H T Q := h.upd (Upd.of_below hb) (by have := h.lt; omega)

theorem Below.trans' {B : Nat} {a b c : World} (k : Below B b c) (h : Below B a b) : Below B a c := h.trans k

def SetPost (Z : Nat → Nat → Value) (but : Int) (n : Nat) (w : World) (r : Ending) (w' : World) : Prop :=
  r = .returned (.pointer (some ⟨w.heap.size, 0, none⟩)) ∧ MonP w' w.heap.size (hsRun Z but (min n 100)).H (hsRun Z but (min n 100)).T (hsRun Z but (min n 100)).Q ∧ Below w.heap.size w w'

set_option maxRecDepth 100000 in
set_option maxHeartbeats 4000000 in
theorem set_any (A0 : Option Addr) (n0 c0 : Nat) (Z0 : Nat → Nat → Value) (but : Int) (w : World) (m0 : n0 ≤ maxLen) (r0 : Rd w A0 n0 [.int .i64, .int .i64, .int .i64, .int .i64] Z0) :
    Calls Try.prog 21 #[.slice A0 n0 c0, .int .i64 but] w (SetPost Z0 but n0 w) := by
  unfold maxLen at m0
  have R0 := Lib.hid r0
  clear r0
  go_enter Try.func21, Try.ntmps21
  go_wp2_with (go_at_call 7; refine (hnew_any _).mono ?_; rintro r x ⟨rfl, h1, h2⟩; have M0 := Lib.hid h1; have HU := Lib.hid h2; clear h1 h2)
  go_loopw [6] (fun i wr => ∃ (k : Nat), k ≤ n0 ∧ k ≤ 100 ∧ i = .int .i64 k ∧ Hid (MonP wr w.heap.size (hsRun Z0 but k).H (hsRun Z0 but k).T (hsRun Z0 but k).Q ∧ Below w.heap.size w wr)) (fun i _ => 100 - (intOf i).toNat)
  case atStart => exact ⟨0, by omega, by omega, rfl, ⟨M0.out, HU.out⟩⟩
  case round =>
    obtain ⟨k, hk, hk2, rfl, hw⟩ := hrel
    clear M0 HU
    by_cases hc : k < n0 ∧ k < 100
    · obtain ⟨b, off, rfl, hlt, hz⟩ := R0.out k hc.1
      obtain ⟨hz0, z0, e0, w0⟩ := hz 0 _ rfl
      obtain ⟨hz1, z1, e1, w1⟩ := hz 1 _ rfl
      obtain ⟨hz2, z2, e2, w2⟩ := hz 2 _ rfl
      obtain ⟨hz3, z3, e3, w3⟩ := hz 3 _ rfl
      have hrun : hsRun Z0 but (k + 1) = hsStep (hsRun Z0 but k) z0 z1 z2 z3 but := by rw [hsRun, e0, e1, e2, e3]; rfl
      have hgood := hsRun_good Z0 but k
      rw [e0] at hz0
      rw [e1] at hz1
      rw [e2] at hz2
      rw [e3] at hz3
      have d0 : wr.cell? ⟨b, off + k * 4, none⟩ = some (.int .i64 z0) := (hw.out.2.cell (by exact hlt)).trans hz0
      have d1 : wr.cell? ⟨b, off + k * 4 + 1, none⟩ = some (.int .i64 z1) := (hw.out.2.cell (by exact hlt)).trans hz1
      have d2 : wr.cell? ⟨b, off + k * 4 + 2, none⟩ = some (.int .i64 z2) := (hw.out.2.cell (by exact hlt)).trans hz2
      have d3 : wr.cell? ⟨b, off + k * 4 + 3, none⟩ = some (.int .i64 z3) := (hw.out.2.cell (by exact hlt)).trans hz3
      have hk1 := hc.1
      have hk3 := hc.2
      have hi0 : (0 : Int) ≤ (k : Int) := by omega
      have hi1 : (k : Int) < (n0 : Int) := by omega
      have dd0 : decide ((k : Int) < n0) = true := by simp; omega
      have dd1 : decide ((k : Int) < 100) = true := by simp; omega
      clear hz hz0 hz1 hz2 hz3 e0 e1 e2 e3
      obtain ⟨st, hst⟩ : ∃ st, hsRun Z0 but k = st := ⟨_, rfl⟩
      rw [hst] at hw hrun hgood
      have RUN := Lib.hid hrun
      have SM := Lib.hid (hgood.small (by omega))
      clear hst hrun hgood
      have u0 := Int.emod_nonneg z1 (b := 4) (by decide)
      have u1 := Int.emod_lt_of_pos z1 (b := 4) (by decide)
      have v0 := Int.emod_nonneg z2 (b := 4) (by decide)
      have v1 := Int.emod_lt_of_pos z2 (b := 4) (by decide)
      have g1 : IntKind.i64.wrap (1 + z2 % 4) = 1 + z2 % 4 := IntWalk.i64_in _ (by omega)
      go_wp2_with fail
      go_quiet (first | (go_at_call 9; exact bring_q _ _ (by first | exact wf_bounds w1 | exact wf_bounds w2) (by omega)))
      clear g1
      by_cases hp : z1 % 4 = but
      · have hpb : (z1 % 4 == but) = true := by simpa using hp
        have e : hsStep st z0 z1 z2 z3 but = st := by unfold hsStep; rw [if_pos hp]
        have E := Lib.hid e
        clear hp e
        go_wp2_with fail
        refine ⟨⟨k + 1, by omega, by omega, by go_num, ?_⟩, by simp [intOf]; omega⟩
        show MonP _ _ _ _ _ ∧ _
        rw [RUN.out, E.out]
        exact ⟨hw.out.1.drewN _, hw.out.2.trans ⟨rfl, rfl, rfl, Nat.le_refl _, fun _ _ => rfl⟩⟩
      · have hpb : (z1 % 4 == but) = false := by simpa using hp
        have HP := Lib.hid hp
        clear hp
        go_wp2_with (first
          | (go_at_call 9; refine (bring_any _ _ _ (by first | exact wf_bounds w0 | exact wf_bounds w3) (by omega)).mono ?_; rintro r x1 ⟨rfl, -, rfl⟩)
          | (go_at_call 10; refine (hset_any _ _ _ _ _ (hw.out.1.drewN _)).mono ?_; rintro r x1 ⟨rfl, h1, h2⟩; have M1 := Lib.hid h1; have U1 := Lib.hid h2; clear h1 h2)
          | (go_at_call 12; refine (hpat_any _ _ _ _ (hw.out.1.drewN _)).mono ?_; rintro r x1 ⟨rfl, h1, h2⟩; have M1 := Lib.hid h1; have U1 := Lib.hid h2; clear h1 h2)
          | (go_at_call 14; refine (htell_any _ _ _ _ (hw.out.1.drewN _) SM.out).mono ?_; rintro r x1 ⟨rfl, h1, h2⟩; have M1 := Lib.hid h1; have U1 := Lib.hid h2; clear h1 h2)
          | (go_at_call 16; refine (hclear_any _ _ _ (hw.out.1.drewN _)).mono ?_; rintro r x1 ⟨rfl, h1, h2⟩; have M1 := Lib.hid h1; have U1 := Lib.hid h2; clear h1 h2))
        · have e : hsStep st z0 z1 z2 z3 but = ⟨sH st.H (z1 % 4) (1 + z2 % 4) (z3 % 4), st.T, st.Q⟩ := by unfold hsStep; rw [if_neg HP.out, if_pos (by simpa using (by assumption : (z0 % 4 == 0) = true))]
          refine ⟨⟨k + 1, by omega, by omega, by go_num, ?_⟩, by simp [intOf]; omega⟩
          show MonP _ _ _ _ _ ∧ _
          rw [RUN.out, e]
          exact ⟨M1.out, hw.out.2.trans (Below.trans' (Upd.below U1.out (by exact hw.out.2.size) (fun q hq => by omega)) ⟨rfl, rfl, rfl, Nat.le_refl _, fun _ _ => rfl⟩)⟩
        · have e : hsStep st z0 z1 z2 z3 but = ⟨st.H, st.T, pQ st.Q (z1 % 4) (z3 % 20)⟩ := by unfold hsStep; rw [if_neg HP.out, if_neg (by simpa using (by assumption : (z0 % 4 == 0) = false)), if_pos (by simpa using (by assumption : (z0 % 4 == 1) = true))]
          refine ⟨⟨k + 1, by omega, by omega, by go_num, ?_⟩, by simp [intOf]; omega⟩
          show MonP _ _ _ _ _ ∧ _
          rw [RUN.out, e]
          exact ⟨M1.out, hw.out.2.trans (Below.trans' (Upd.below U1.out (by exact hw.out.2.size) (fun q hq => by omega)) ⟨rfl, rfl, rfl, Nat.le_refl _, fun _ _ => rfl⟩)⟩
        · have e : hsStep st z0 z1 z2 z3 but = ⟨st.H, tT st.T (z1 % 4) (1 + z2 % 4), st.Q⟩ := by unfold hsStep; rw [if_neg HP.out, if_neg (by simpa using (by assumption : (z0 % 4 == 0) = false)), if_neg (by simpa using (by assumption : (z0 % 4 == 1) = false)), if_pos (by simpa using (by assumption : (z0 % 4 == 2) = true))]
          refine ⟨⟨k + 1, by omega, by omega, by go_num, ?_⟩, by simp [intOf]; omega⟩
          show MonP _ _ _ _ _ ∧ _
          rw [RUN.out, e]
          exact ⟨M1.out, hw.out.2.trans (Below.trans' (Upd.below U1.out (by exact hw.out.2.size) (fun q hq => by omega)) ⟨rfl, rfl, rfl, Nat.le_refl _, fun _ _ => rfl⟩)⟩
        · have e : hsStep st z0 z1 z2 z3 but = ⟨st.H, cT st.T (z1 % 4), st.Q⟩ := by unfold hsStep; rw [if_neg HP.out, if_neg (by simpa using (by assumption : (z0 % 4 == 0) = false)), if_neg (by simpa using (by assumption : (z0 % 4 == 1) = false)), if_neg (by simpa using (by assumption : (z0 % 4 == 2) = false))]
          refine ⟨⟨k + 1, by omega, by omega, by go_num, ?_⟩, by simp [intOf]; omega⟩
          show MonP _ _ _ _ _ ∧ _
          rw [RUN.out, e]
          exact ⟨M1.out, hw.out.2.trans (Below.trans' (Upd.below U1.out (by exact hw.out.2.size) (fun q hq => by omega)) ⟨rfl, rfl, rfl, Nat.le_refl _, fun _ _ => rfl⟩)⟩
    · have hmin : min n0 100 = k := by omega
      have HW := hw
      clear hw
      by_cases hk1 : k < n0
      · have hk3 : ¬ (k : Int) < 100 := by omega
        go_wp2_with fail
        go_ret
        unfold SetPost
        rw [hmin]
        exact ⟨rfl, HW.out.1, HW.out.2⟩
      · go_wp2_with fail
        go_ret
        unfold SetPost
        rw [hmin]
        exact ⟨rfl, HW.out.1, HW.out.2⟩
end Go.Proofs.Ythejgbagpnoadaa
