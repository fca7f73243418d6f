/- Contracts of package health. -/
import Derived.Test.YthejgbagpnoadaaHealthBase
namespace Go.Proofs.Ythejgbagpnoadaa
set_option linter.all false
open Go.RowKit

set_option maxHeartbeats 400000 in
theorem hasked_in (g : Nat) (part fault : Int) (w : World) (h0 : w.cell? ⟨g, 0, none⟩ = some (.bool true)) (h : InR part fault) :
    Calls Try.prog 23 #[.pointer (some ⟨g, 0, none⟩), .int .i64 part, .int .i64 fault] w fun r w' => r = .returned (.int .i64 0) ∧ w = w' := by
  obtain ⟨h1, h2, h3, h4⟩ := h
  go_enter Try.func23, Try.ntmps23
  go_wp2
  go_ret
  exact ⟨rfl, rfl⟩

set_option maxHeartbeats 400000 in
theorem hasked_out (g : Nat) (part fault : Int) (w : World) (h0 : w.cell? ⟨g, 0, none⟩ = some (.bool true)) (h : ¬ InR part fault) :
    Calls Try.prog 23 #[.pointer (some ⟨g, 0, none⟩), .int .i64 part, .int .i64 fault] w fun r w' => r = .returned (.int .i64 9) ∧ w = w' := by
  unfold InR at h
  go_enter Try.func23, Try.ntmps23
  go_wp2
  all_goals
    go_ret
    first
      | exact ⟨rfl, rfl⟩
      | (exfalso; omega)

def setOk (fault heal : Int) : Prop := (if fault = 4 then 0 else 1) ≤ heal ∧ heal ≤ 3

set_option maxHeartbeats 1000000 in
theorem hset_out (g : Nat) (part fault heal : Int) (w : World) {H T Q : Nat → Int} (hm : MonP w g H T Q) (h : ¬ InR part fault) :
    Calls Try.prog 10 #[.pointer (some ⟨g, 0, none⟩), .int .i64 part, .int .i64 fault, .int .i64 heal] w fun r w' => r = .returned (.int .i64 9) ∧ w = w' := by
  have HM := Lib.hid hm
  have HI := Lib.hid h
  clear hm h
  go_enter Try.func10, Try.ntmps10
  go_wp2_with (go_at_call 23; refine (hasked_out g _ _ _ HM.out.made HI.out).mono ?_; rintro r w1 ⟨rfl, rfl⟩)
  go_ret
  exact ⟨rfl, rfl⟩

def setE (fault heal : Int) : Int := if (if fault = 4 then 0 else 1) ≤ heal ∧ heal ≤ 3 then 0 else 2
def setH (H : Nat → Int) (part fault : Nat) (heal : Int) : Nat → Int := if (if (fault : Int) = 4 then 0 else 1) ≤ heal ∧ heal ≤ 3 then updF H (part * 5 + fault) heal else H

set_option maxHeartbeats 1000000 in
theorem hset_in (g : Nat) (part fault : Nat) (heal : Int) (w : World) {H T Q : Nat → Int} (hm : MonP w g H T Q) (h : part < 4 ∧ 1 ≤ fault ∧ fault ≤ 4) :
    Calls Try.prog 10 #[.pointer (some ⟨g, 0, none⟩), .int .i64 part, .int .i64 fault, .int .i64 heal] w fun r w' => r = .returned (.int .i64 (setE fault heal)) ∧
      MonP w' g (setH H part fault heal) T Q ∧ Upd (· = g) w w' := by
  obtain ⟨h1, h2, h3⟩ := h
  have HI := Lib.hid (show InR part fault by unfold InR; omega)
  have hc := hm.cH (i := part * 5 + fault) (by omega)
  have hc1 : w.cell? ⟨g, 1 + part * 5 + fault, none⟩ = some (.int .i64 (H (part * 5 + fault))) := by rw [Nat.add_assoc]; exact hc
  have hf := hm.free (1 + part * 5 + fault)
  have HM := Lib.hid hm
  clear hm hc
  by_cases h4 : fault = 4
  · subst h4
    go_enter Try.func10, Try.ntmps10
    go_wp2_with (go_at_call 23; refine (hasked_in g _ _ _ HM.out.made HI.out).mono ?_; rintro r w1 ⟨rfl, rfl⟩)
    all_goals
      go_ret
      first
        | (have hx : 0 ≤ heal ∧ heal ≤ 3 := by omega
           refine ⟨by simp [setE, hx], ?_, Upd.set1 _ _ _⟩
           have := HM.out.setH (k := part * 5 + 4) (by omega) heal
           rw [← Nat.add_assoc] at this
           simpa [setH, hx] using this)
        | (have hx : ¬ (0 ≤ heal ∧ heal ≤ 3) := by omega
           exact ⟨by simp [setE, hx], by simpa [setH, hx] using HM.out, Upd.refl _ _⟩)
  · have hn4 : ¬ (fault : Int) = 4 := by omega
    have hd4 : ((fault : Int) == 4) = false := by simpa using hn4
    go_enter Try.func10, Try.ntmps10
    go_wp2_with (go_at_call 23; refine (hasked_in g _ _ _ HM.out.made HI.out).mono ?_; rintro r w1 ⟨rfl, rfl⟩)
    all_goals
      go_ret
      first
        | (have hx : 1 ≤ heal ∧ heal ≤ 3 := by omega
           refine ⟨by simp [setE, hx, hn4], ?_, Upd.set1 _ _ _⟩
           have := HM.out.setH (k := part * 5 + fault) (by omega) heal
           rw [← Nat.add_assoc] at this
           simpa [setH, hx, hn4] using this)
        | (have hx : ¬ (1 ≤ heal ∧ heal ≤ 3) := by omega
           exact ⟨by simp [setE, hx, hn4], by simpa [setH, hx, hn4] using HM.out, Upd.refl _ _⟩)

def patE (n : Int) : Int := if 0 ≤ n ∧ n ≤ 255 then 0 else 2
def patQ (Q : Nat → Int) (part : Nat) (n : Int) : Nat → Int := if 0 ≤ n ∧ n ≤ 255 then updF Q part n else Q

set_option maxHeartbeats 1000000 in
theorem hpat_out (g : Nat) (part n : Int) (w : World) {H T Q : Nat → Int} (hm : MonP w g H T Q) (h : ¬ (0 ≤ part ∧ part < 4)) :
    Calls Try.prog 12 #[.pointer (some ⟨g, 0, none⟩), .int .i64 part, .int .i64 n] w fun r w' => r = .returned (.int .i64 9) ∧ w = w' := by
  have HM := Lib.hid hm
  have HI := Lib.hid (show ¬ InR part 1 by unfold InR; omega)
  clear hm h
  go_enter Try.func12, Try.ntmps12
  go_wp2_with (go_at_call 23; refine (hasked_out g _ _ _ HM.out.made HI.out).mono ?_; rintro r w1 ⟨rfl, rfl⟩)
  go_ret
  exact ⟨rfl, rfl⟩

set_option maxHeartbeats 1000000 in
theorem hpat_in (g : Nat) (part : Nat) (n : Int) (w : World) {H T Q : Nat → Int} (hm : MonP w g H T Q) (h : part < 4) :
    Calls Try.prog 12 #[.pointer (some ⟨g, 0, none⟩), .int .i64 part, .int .i64 n] w fun r w' => r = .returned (.int .i64 (patE n)) ∧ MonP w' g H T (patQ Q part n) ∧ Upd (· = g) w w' := by
  have HI := Lib.hid (show InR part 1 by unfold InR; omega)
  have hc := hm.cQ h
  have hf := hm.free (41 + part)
  have HM := Lib.hid hm
  clear hm
  go_enter Try.func12, Try.ntmps12
  go_wp2_with (go_at_call 23; refine (hasked_in g _ _ _ HM.out.made HI.out).mono ?_; rintro r w1 ⟨rfl, rfl⟩)
  all_goals
    go_ret
    first
      | (have hx : 0 ≤ n ∧ n ≤ 255 := by omega
         refine ⟨by simp [patE, hx], ?_, Upd.set1 _ _ _⟩
         have := HM.out.setQ h n
         simpa [patQ, hx] using this)
      | (have hx : ¬ (0 ≤ n ∧ n ≤ 255) := by omega
         exact ⟨by simp [patE, hx], by simpa [patQ, hx] using HM.out, Upd.refl _ _⟩)

set_option maxHeartbeats 1000000 in
theorem hcount_out (g : Nat) (part fault : Int) (w : World) {H T Q : Nat → Int} (hm : MonP w g H T Q) (h : ¬ InR part fault) :
    Calls Try.prog 18 #[.pointer (some ⟨g, 0, none⟩), .int .i64 part, .int .i64 fault] w fun r w' => r = .returned (.int .i64 0) ∧ w = w' := by
  have HM := Lib.hid hm
  have HI := Lib.hid h
  clear hm h
  go_enter Try.func18, Try.ntmps18
  go_wp2_with (go_at_call 23; refine (hasked_out g _ _ _ HM.out.made HI.out).mono ?_; rintro r w1 ⟨rfl, rfl⟩)
  go_ret
  exact ⟨rfl, rfl⟩

set_option maxHeartbeats 1000000 in
theorem hcount_in (g : Nat) (part fault : Nat) (w : World) {H T Q : Nat → Int} (hm : MonP w g H T Q) (h : part < 4 ∧ 1 ≤ fault ∧ fault ≤ 4) :
    Calls Try.prog 18 #[.pointer (some ⟨g, 0, none⟩), .int .i64 part, .int .i64 fault] w fun r w' => r = .returned (.int .i64 (T (part * 5 + fault))) ∧ w = w' := by
  obtain ⟨h1, h2, h3⟩ := h
  have HI := Lib.hid (show InR part fault by unfold InR; omega)
  have hc := hm.cT (i := part * 5 + fault) (by omega)
  have hc1 : w.cell? ⟨g, 21 + part * 5 + fault, none⟩ = some (.int .i64 (T (part * 5 + fault))) := by rw [Nat.add_assoc]; exact hc
  have HM := Lib.hid hm
  clear hm hc
  go_enter Try.func18, Try.ntmps18
  go_wp2_with (go_at_call 23; refine (hasked_in g _ _ _ HM.out.made HI.out).mono ?_; rintro r w1 ⟨rfl, rfl⟩)
  go_ret
  exact ⟨rfl, rfl⟩

set_option maxHeartbeats 1000000 in
theorem hclear_out (g : Nat) (part : Int) (w : World) {H T Q : Nat → Int} (hm : MonP w g H T Q) (h : ¬ (0 ≤ part ∧ part < 4)) :
    Calls Try.prog 16 #[.pointer (some ⟨g, 0, none⟩), .int .i64 part] w fun r w' => r = .returned (.int .i64 9) ∧ w = w' := by
  have HM := Lib.hid hm
  have HI := Lib.hid (show ¬ InR part 1 by unfold InR; omega)
  clear hm h
  go_enter Try.func16, Try.ntmps16
  go_wp2_with (go_at_call 23; refine (hasked_out g _ _ _ HM.out.made HI.out).mono ?_; rintro r w1 ⟨rfl, rfl⟩)
  go_ret
  exact ⟨rfl, rfl⟩

def clrT (T : Nat → Int) (part : Nat) : Nat → Int := updF (updF (updF (updF (updF T (part * 5) 0) (part * 5 + 1) 0) (part * 5 + 2) 0) (part * 5 + 3) 0) (part * 5 + 4) 0

set_option maxHeartbeats 1000000 in
theorem hclear_in (g : Nat) (part : Nat) (w : World) {H T Q : Nat → Int} (hm : MonP w g H T Q) (h : part < 4) :
    Calls Try.prog 16 #[.pointer (some ⟨g, 0, none⟩), .int .i64 part] w fun r w' => r = .returned (.int .i64 0) ∧ MonP w' g H (clrT T part) Q ∧ Upd (· = g) w w' := by
  have HI := Lib.hid (show InR part 1 by unfold InR; omega)
  have c0 := hm.cT (i := part * 5) (by omega)
  have c1 := hm.cT (i := part * 5 + 1) (by omega)
  have c2 := hm.cT (i := part * 5 + 2) (by omega)
  have c3 := hm.cT (i := part * 5 + 3) (by omega)
  have c4 := hm.cT (i := part * 5 + 4) (by omega)
  have f0 := hm.free (21 + part * 5)
  have f1 := hm.free (21 + part * 5 + 1)
  have f2 := hm.free (21 + part * 5 + 2)
  have f3 := hm.free (21 + part * 5 + 3)
  have f4 := hm.free (21 + part * 5 + 4)
  rw [← Nat.add_assoc] at c1 c2 c3 c4
  have HM := Lib.hid hm
  clear hm
  go_enter Try.func16, Try.ntmps16
  go_wp2_with (go_at_call 23; refine (hasked_in g _ _ _ HM.out.made HI.out).mono ?_; rintro r w1 ⟨rfl, rfl⟩)
  go_ret
  refine ⟨rfl, ?_, ?_⟩
  · have := ((((HM.out.setT (k := part * 5) (by omega) 0).setT (k := part * 5 + 1) (by omega) 0).setT (k := part * 5 + 2) (by omega) 0).setT (k := part * 5 + 3) (by omega) 0).setT (k := part * 5 + 4) (by omega) 0
    simp only [← Nat.add_assoc] at this
    exact this
  · exact (((((Upd.refl (· = g) w).setCell (p := ⟨g, _, none⟩) (fun _ => rfl) _).setCell (p := ⟨g, _, none⟩) (fun _ => rfl) _).setCell (p := ⟨g, _, none⟩) (fun _ => rfl) _).setCell (p := ⟨g, _, none⟩) (fun _ => rfl) _).setCell (p := ⟨g, _, none⟩) (fun _ => rfl) _
end Go.Proofs.Ythejgbagpnoadaa
