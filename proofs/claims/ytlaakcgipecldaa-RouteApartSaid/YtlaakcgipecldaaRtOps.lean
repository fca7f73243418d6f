/- The calls of package route at ports that lie in memory. Conditions: the ports are sound (WOk). -/
import Derived.Test.YtlaakcgipecldaaRtWays
import Derived.BigQuiet
namespace Go.Proofs.Ytlaakcgipecldaa
set_option linter.all false
open Go.RowKit

def Sound (L : List RE) : Prop := ∀ i (h : i < L.length), WOk L[i].s ∧ (L[i].s.kind = 1 ∨ L[i].s.kind = 2) ∧ 0 ≤ L[i].f ∧ L[i].f ≤ 3 ∧ 0 ≤ L[i].t ∧ L[i].t ≤ 3

/-- What a call has done to the ways' blocks. -/
structure Mv (w w' : World) (F F' : Nat → Nat → Prop) (n : Nat) : Prop where
  sub : ∀ j, j < n → ∀ k, F' j k → growF (F j) w w' k
  upd : Upd (fun k => ∃ j, j < n ∧ F j k) w w'
theorem Mv.refl (w : World) (F : Nat → Nat → Prop) (n : Nat) : Mv w w F F n := ⟨fun _ _ _ h => Or.inl h, Upd.refl _ _⟩
theorem Mv.one {w w' : World} {F : Nat → Nat → Prop} {n i : Nat} {F' : Nat → Prop} (hi : i < n) (hF : ∀ k, F' k → growF (F i) w w' k) (hu : Upd (F i) w w') : Mv w w' F (onF F i F') n :=
  ⟨fun j hj k hk => by
    by_cases e : j = i
    · subst e; rw [onF_same] at hk; exact hF k hk
    · rw [onF_other _ _ _ _ e] at hk; exact Or.inl hk, hu.mono fun k hk => ⟨i, hi, hk⟩⟩

section
variable {w : World} {S : Nat → Prop} {F : Nat → Nat → Prop} {rp : Nat} {L : List RE} {A : Option Addr} {hs gs : Nat → Nat}

set_option maxHeartbeats 1000000 in
theorem of_in (h : RtP w S F rp L A hs gs) (k : Nat) (hk : k < L.length) :
    Calls Try.prog 42 #[.pointer (some ⟨rp, 0, none⟩), .int .i64 (k : Int)] w fun e w' => e = .returned (.pointer (some ⟨hs k, 0, none⟩)) ∧ w' = w := by
  obtain ⟨c, hc⟩ := h.rt
  have c0 := hc.cell 0
  simp at c0
  obtain ⟨b, o, rfl, _, c3⟩ := h.row k hk
  obtain ⟨n, hn⟩ : ∃ n, L.length = n := ⟨_, rfl⟩
  rw [hn] at hk c0
  clear hc h hn
  have d1 : decide (k < n) = true := decide_eq_true hk
  have d2 : decide (n ≤ k) = false := decide_eq_false (by omega)
  go_enter Try.func42, Try.ntmps42
  go_wp2
  all_goals (go_ret; simp)
set_option maxHeartbeats 1000000 in
theorem of_out (h : RtP w S F rp L A hs gs) (p : Int) (hp : ¬ (0 ≤ p ∧ p < L.length)) :
    Calls Try.prog 42 #[.pointer (some ⟨rp, 0, none⟩), .int .i64 p] w fun e w' => e = .returned (.pointer none) ∧ w' = w := by
  obtain ⟨c, hc⟩ := h.rt
  have c0 := hc.cell 0
  simp at c0
  obtain ⟨n, hn⟩ : ∃ n, L.length = n := ⟨_, rfl⟩
  rw [hn] at hp c0
  clear hc h hn
  by_cases h0 : p < 0
  · have d0 : decide (p < 0) = true := decide_eq_true h0
    go_enter Try.func42, Try.ntmps42
    go_wp2
    all_goals (go_ret; simp)
  · have d0 : decide (p < 0) = false := decide_eq_false h0
    have d1 : decide ((n : Int) ≤ p) = true := decide_eq_true (by omega)
    go_enter Try.func42, Try.ntmps42
    go_wp2
    all_goals (go_ret; simp)

theorem none_p (h : RtP w S F rp L A hs gs) : Calls Try.prog 44 #[.pointer (some ⟨rp, 0, none⟩)] w fun e w' => e = .returned (.bool false) ∧ w' = w := by
  obtain ⟨c, hc⟩ := h.rt
  have c1 := hc.cell 1
  simp at c1
  exact rnone_any rp w c1

set_option maxHeartbeats 2000000 in
theorem send_no (h : RtP w S F rp L A hs gs) (part p t : Int) (m : ByteArray) (hp : ∀ i (hi : i < L.length), p = i → L[i].f ≠ part) :
    Calls Try.prog 30 #[.pointer (some ⟨rp, 0, none⟩), .int .i64 part, .int .i64 p, .string m, .int .i64 t] w fun e w' => e = .returned (.int .i64 220) ∧ w' = w := by
  by_cases hin : 0 ≤ p ∧ p < L.length
  · obtain ⟨k, rfl⟩ : ∃ k : Nat, p = k := ⟨p.toNat, by omega⟩
    have hk : k < L.length := by omega
    have hne := hp k hk rfl
    obtain ⟨_, h5, _⟩ := h.way k hk
    have c1 := h5.cell 1
    simp at c1
    obtain ⟨fr, hfr⟩ : ∃ x, L[k].f = x := ⟨_, rfl⟩
    rw [hfr] at hne c1
    have d1 : (fr == part) = false := by simpa using hne
    have d2 : (fr != part) = true := by simpa using hne
    have H := Lib.hid h
    clear h h5 hp hin
    go_enter Try.func30, Try.ntmps30
    go_wp2_with (first
      | (go_at_call 44; refine (none_p H.out).mono ?_; rintro e w' ⟨rfl, rfl⟩)
      | (go_at_call 42; refine (of_in H.out k hk).mono ?_; rintro e w' ⟨rfl, rfl⟩))
    all_goals (go_ret; simp)
  · have H := Lib.hid h
    clear h
    go_enter Try.func30, Try.ntmps30
    go_wp2_with (first
      | (go_at_call 44; refine (none_p H.out).mono ?_; rintro e w' ⟨rfl, rfl⟩)
      | (go_at_call 42; refine (of_out H.out p hin).mono ?_; rintro e w' ⟨rfl, rfl⟩))
    all_goals (go_ret; simp)
end
end Go.Proofs.Ytlaakcgipecldaa
