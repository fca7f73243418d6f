/- TurnPlans: the walk of the law. -/
import Derived.Test.YtogdpkeojccpcaaTurnServ
namespace Go.Proofs.Ytogdpkeojccpcaa
set_option linter.all false
open Go.RowKit

theorem ints_of_rd {w : World} {A : Option Addr} {n : Nat} {Z : Nat → Nat → Value} (hr : Rd w A n [.int .i64] Z) : ∃ S, IntsW w A n S ∧ ∀ i, i < n → I64 (S i) := by
  refine ⟨fun i => match Z i 0 with | .int _ z => z | _ => 0, ⟨fun i hi => ?_⟩, fun i hi => ?_⟩
  · obtain ⟨b, off, h1, h2, h3⟩ := hr i hi
    obtain ⟨h4, z, h5, _⟩ := h3 0 _ rfl
    refine ⟨b, off, h1, h2, ?_⟩
    rw [h5] at h4
    simp only [h5]
    have e : off + (i * [Leaf.int .i64].length + 0) = off + i := by simp
    rw [e] at h4
    exact h4
  · obtain ⟨b, off, h1, h2, h3⟩ := hr i hi
    obtain ⟨h4, z, h5, h6⟩ := h3 0 _ rfl
    simp only [h5]
    exact wf_bounds h6

theorem ask_ex (P B S : Nat → Int) (m mb : Nat) (n : Int) : ∃ E, AskIs P B S m mb n E := by
  by_cases h4 : 4 < m ∨ n < 0 ∨ 1000 < n
  · exact ⟨5, Or.inl ⟨rfl, h4⟩⟩
  · have h0 : m ≤ 4 ∧ 0 ≤ n ∧ n ≤ 1000 := ⟨by omega, by omega, by omega⟩
    by_cases h : mb = m ∧ AskOk P B S m
    · exact ⟨0, Or.inr ⟨h0, Or.inr ⟨rfl, h.1, h.2⟩⟩⟩
    · refine ⟨2, Or.inr ⟨h0, Or.inl ⟨rfl, ?_⟩⟩⟩
      by_cases hm : mb = m
      · exact Or.inr fun ha => h ⟨hm, ha⟩
      · exact Or.inl hm
theorem plan_res {P B S : Nat → Int} {m mb : Nat} {n E : Int} {w w' : World} {r : Ending} (h : PlanPost P B S m mb n w r w') (hE : AskIs P B S m mb n E) :
    ∃ A c, r = .returned (.tuple #[.slice A (if E = 0 then n.toNat else 0) c, .int .i64 E]) ∧ IntsW w' A (if E = 0 then n.toNat else 0) (fun i => (runT P B S m n.toNat).2.getD i 0) := by
  obtain ⟨v, E', rfl, h1, h2, h3⟩ := h
  obtain rfl := h1.fun_ hE
  by_cases h0 : E' = 0
  · have ho := h3 h0
    obtain ⟨A, c, rfl⟩ := own_form ho
    rw [if_pos h0]
    exact ⟨A, c, rfl, ints_own ho⟩
  · rw [h2 h0, if_neg h0]
    exact ⟨none, 0, rfl, IntsW.nil _ _ _⟩
theorem ask_len {P B S : Nat → Int} {m mb : Nat} {n E : Int} (hE : AskIs P B S m mb n E) : (if E = 0 then n.toNat else 0) ≤ 1000 := by
  rcases hE with ⟨h, _⟩ | ⟨⟨_, h1, h2⟩, _⟩
  · rw [if_neg (by omega)]; omega
  · split <;> omega

set_option maxRecDepth 100000 in
set_option maxHeartbeats 4000000 in
theorem turnPlans_core (w : World) (A0 : Option Addr) (n0 c0 : Nat) (Z0 : Nat → Nat → Value) (m0 : n0 ≤ maxLen) (r0 : Rd w A0 n0 [.int .i64, .int .i64, .any] Z0) (A1 : Option Addr) (n1 c1 : Nat) (Z1 : Nat → Nat → Value) (m1 : n1 ≤ maxLen) (b1 : n1 * 8 ≤ 140737488355328) (r1 : Rd w A1 n1 [.int .i64] Z1) (a2 : Int) (h2 : -9223372036854775808 ≤ a2 ∧ a2 ≤ 9223372036854775807) :
    Calls Try.prog 11 #[.slice A0 n0 c0, .slice A1 n1 c1, .int .i64 a2] w (Holds w) := by
  obtain ⟨P, B, hp, hI⟩ := pts_of_rd m0 r0
  obtain ⟨S, hs, hsI⟩ := ints_of_rd r1
  obtain ⟨E, hE⟩ := ask_ex P B S n0 n1 a2
  obtain ⟨K, hK⟩ : ∃ K, (if E = 0 then a2.toNat else 0) = K := ⟨_, rfl⟩
  have hK2 : K ≤ maxLen := by have := ask_len hE; unfold maxLen; omega
  have HP := Lib.hid hp
  have HI := Lib.hid hI
  have HS := Lib.hid hs
  have HE := Lib.hid hE
  have HK := Lib.hid (And.intro hK hK2)
  have HM := Lib.hid (And.intro m1 b1)
  have T1 := Lib.hid True.intro
  clear hp hI hs hsI hE hK hK2 m0 m1 b1 r0 r1
  go_enter Try.func11, Try.ntmps11
  go_wp2_with (first
    | (go_at_call 44; refine (copyints_any HS.out c1 HM.out.1 HM.out.2).mono ?_; rintro r y1 ⟨⟨Ai, ci, rfl, hi⟩, hb⟩; have HW := Lib.hid hb; have HI1 := Lib.hid hi; clear hb hi)
    | (go_at_call 45; refine (plan_any (HP.out.keep HW.out) HI.out HI1.out c0 _ a2).mono ?_; rintro r y2 ⟨hpp, hb⟩
       obtain ⟨Aa, ca, rfl, ha⟩ := plan_res hpp HE.out
       rw [HK.out.1] at ha ⊢
       have HW2 := Lib.hid (HW.out.trans (hb.mono HW.out.size))
       have HI2 := Lib.hid (HI1.out.keep hb)
       have HA2 := Lib.hid ha
       clear hb hpp ha)
    | (go_at_call 46; refine (rplan_any (HP.out.keep HW2.out) HI.out (HS.out.keep HW2.out) c0 _ a2).mono ?_; rintro r y3 ⟨hpp, hb⟩
       obtain ⟨Ab, cb, rfl, hb3⟩ := plan_res hpp HE.out
       rw [HK.out.1] at hb3 ⊢
       have HW3 := Lib.hid (HW2.out.trans (hb.mono HW2.out.size))
       have HI3 := Lib.hid (HI2.out.keep hb)
       have HA3 := Lib.hid (HA2.out.keep hb)
       have HB3 := Lib.hid hb3
       clear hb hpp hb3)
    | (go_at_call 47; first
        | (have _tk := T1; refine (eqints_true HA3.out HB3.out _ _ (fun _ _ => rfl) HK.out.2).mono ?_; rintro r y4 ⟨rfl, hb⟩; have HW4 := Lib.hid (HW3.out.trans (hb.mono HW3.out.size)); have HI4 := Lib.hid (HI3.out.keep hb); clear hb T1 _tk)
        | (refine (eqints_true HI4.out (HS.out.keep HW4.out) _ _ (fun _ _ => rfl) HM.out.1).mono ?_; rintro r y5 ⟨rfl, hb⟩; have HW5 := Lib.hid (HW4.out.trans (hb.mono HW4.out.size)); clear hb))
    | (go_at_call 48; refine (turn_works _).mono ?_; rintro r y6 ⟨rfl, hb⟩; have HW6 := Lib.hid (HW5.out.trans (hb.mono HW5.out.size)); clear hb))
  go_ret
  exact ⟨ret_bool (by simp), HW6.out⟩
end Go.Proofs.Ytogdpkeojccpcaa
