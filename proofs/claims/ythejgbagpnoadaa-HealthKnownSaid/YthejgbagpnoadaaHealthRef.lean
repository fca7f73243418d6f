/- Contracts of the document's monitor. -/
import Derived.Test.YthejgbagpnoadaaHealthNew
namespace Go.Proofs.Ythejgbagpnoadaa
set_option linter.all false
open Go.RowKit

set_option maxHeartbeats 400000 in
theorem rthere_in (part fault : Int) (w : World) (h : InR part fault) : Calls Try.prog 24 #[.int .i64 part, .int .i64 fault] w fun r w' => r = .returned (.bool true) ∧ w = w' := by
  obtain ⟨h1, h2, h3, h4⟩ := h
  have d4 : decide (fault ≤ 4) = true := by simpa using h4
  go_enter Try.func24, Try.ntmps24
  go_wp2
  go_ret
  exact ⟨rfl, rfl⟩

set_option maxHeartbeats 400000 in
theorem rthere_out (part fault : Int) (w : World) (h : ¬ InR part fault) : Calls Try.prog 24 #[.int .i64 part, .int .i64 fault] w fun r w' => r = .returned (.bool false) ∧ w = w' := by
  unfold InR at h
  by_cases h4 : fault ≤ 4
  · have d4 : decide (fault ≤ 4) = true := by simpa using h4
    go_enter Try.func24, Try.ntmps24
    go_wp2
    all_goals first
      | (exfalso; omega)
      | (go_ret; exact ⟨rfl, rfl⟩)
  · have d4 : decide (fault ≤ 4) = false := by simpa using h4
    clear h
    go_enter Try.func24, Try.ntmps24
    go_wp2
    all_goals
      go_ret
      exact ⟨rfl, rfl⟩

set_option maxHeartbeats 1000000 in
theorem rset_out (g : Nat) (part fault heal : Int) (w : World) (h : ¬ InR part fault) :
    Calls Try.prog 11 #[.pointer (some ⟨g, 0, none⟩), .int .i64 part, .int .i64 fault, .int .i64 heal] w fun r w' => r = .returned (.int .i64 9) ∧ w = w' := by
  have HI := Lib.hid h
  clear h
  go_enter Try.func11, Try.ntmps11
  go_wp2_with (go_at_call 24; refine (rthere_out _ _ _ HI.out).mono ?_; rintro r w1 ⟨rfl, rfl⟩)
  go_ret
  exact ⟨rfl, rfl⟩

set_option maxHeartbeats 1000000 in
theorem rset_in (g : Nat) (part fault : Nat) (heal : Int) (w : World) {H T Q : Nat → Int} (hm : MonR w g H T Q) (h : part < 4 ∧ 1 ≤ fault ∧ fault ≤ 4) :
    Calls Try.prog 11 #[.pointer (some ⟨g, 0, none⟩), .int .i64 part, .int .i64 fault, .int .i64 heal] w fun r w' => r = .returned (.int .i64 (setE fault heal)) ∧
      MonR w' g (setH H part fault heal) T Q ∧ Upd (· = g) w w' := by
  obtain ⟨h1, h2, h3⟩ := h
  have HI := Lib.hid (show InR part fault by unfold InR; omega)
  have hc1 := hm.cH (i := part * 5 + fault) (by omega)
  have hf := hm.free (part * 5 + fault)
  have HM := Lib.hid hm
  clear hm
  by_cases h4 : fault = 4
  · subst h4
    by_cases hz : heal = 0
    · subst hz
      go_enter Try.func11, Try.ntmps11
      go_wp2_with (go_at_call 24; refine (rthere_in _ _ _ HI.out).mono ?_; rintro r w1 ⟨rfl, rfl⟩)
      all_goals
        go_ret
        first
          | (have hx : 0 ≤ (0 : Int) ∧ (0 : Int) ≤ 3 := by omega
             refine ⟨by simp [setE, hx], ?_, Upd.set1 _ _ _⟩
             have := HM.out.setH (k := part * 5 + 4) (by omega) (0 : Int)
             simpa [setH, hx] using this)
          | (have hx : ¬ (0 ≤ (0 : Int) ∧ (0 : Int) ≤ 3) := by omega
             exact ⟨by simp [setE, hx], by simpa [setH, hx] using HM.out, Upd.refl _ _⟩)
    · have hz0 : (heal == 0) = false := by simpa using hz
      go_enter Try.func11, Try.ntmps11
      go_wp2_with (go_at_call 24; refine (rthere_in _ _ _ HI.out).mono ?_; rintro r w1 ⟨rfl, rfl⟩)
      all_goals
        go_ret
        first
          | (have hx : 0 ≤ heal ∧ heal ≤ 3 := by omega
             refine ⟨by simp [setE, hx], ?_, Upd.set1 _ _ _⟩
             have := HM.out.setH (k := part * 5 + 4) (by omega) heal
             simpa [setH, hx] using this)
          | (have hx : ¬ (0 ≤ heal ∧ heal ≤ 3) := by omega
             exact ⟨by simp [setE, hx], by simpa [setH, hx] using HM.out, Upd.refl _ _⟩)
  · have hn4 : ¬ (fault : Int) = 4 := by omega
    have hd4 : ((fault : Int) != 4) = true := by simpa using hn4
    go_enter Try.func11, Try.ntmps11
    go_wp2_with (go_at_call 24; refine (rthere_in _ _ _ HI.out).mono ?_; rintro r w1 ⟨rfl, rfl⟩)
    all_goals
      go_ret
      first
        | (have hx : 1 ≤ heal ∧ heal ≤ 3 := by omega
           refine ⟨by simp [setE, hx, hn4], ?_, Upd.set1 _ _ _⟩
           have := HM.out.setH (k := part * 5 + fault) (by omega) heal
           simpa [setH, hx, hn4] using this)
        | (have hx : ¬ (1 ≤ heal ∧ heal ≤ 3) := by omega
           exact ⟨by simp [setE, hx, hn4], by simpa [setH, hx, hn4] using HM.out, Upd.refl _ _⟩)

set_option maxHeartbeats 1000000 in
theorem rpat_out (g : Nat) (part n : Int) (w : World) (h : ¬ (0 ≤ part ∧ part < 4)) :
    Calls Try.prog 13 #[.pointer (some ⟨g, 0, none⟩), .int .i64 part, .int .i64 n] w fun r w' => r = .returned (.int .i64 9) ∧ w = w' := by
  have HI := Lib.hid (show ¬ InR part 1 by unfold InR; omega)
  clear h
  go_enter Try.func13, Try.ntmps13
  go_wp2_with (go_at_call 24; refine (rthere_out _ _ _ HI.out).mono ?_; rintro r w1 ⟨rfl, rfl⟩)
  go_ret
  exact ⟨rfl, rfl⟩

set_option maxHeartbeats 1000000 in
theorem rpat_in (g : Nat) (part : Nat) (n : Int) (w : World) {H T Q : Nat → Int} (hm : MonR w g H T Q) (h : part < 4) :
    Calls Try.prog 13 #[.pointer (some ⟨g, 0, none⟩), .int .i64 part, .int .i64 n] w fun r w' => r = .returned (.int .i64 (patE n)) ∧ MonR w' g H T (patQ Q part n) ∧ Upd (· = g) w w' := by
  have HI := Lib.hid (show InR part 1 by unfold InR; omega)
  have hc := hm.cQ h
  have hf := hm.free (40 + part)
  have HM := Lib.hid hm
  clear hm
  go_enter Try.func13, Try.ntmps13
  go_wp2_with (go_at_call 24; refine (rthere_in _ _ _ HI.out).mono ?_; rintro r w1 ⟨rfl, rfl⟩)
  all_goals
    go_ret
    first
      | (have hx : 0 ≤ n ∧ n ≤ 255 := by omega
         refine ⟨by simp [patE, hx], ?_, Upd.set1 _ _ _⟩
         have := HM.out.setQ h n
         simpa [patQ, hx] using this)
      | (have hx : ¬ (0 ≤ n ∧ n ≤ 255) := by omega
         exact ⟨by simp [patE, hx], by simpa [patQ, hx] using HM.out, Upd.refl _ _⟩)

set_option maxHeartbeats 1000000 in
theorem rcount_out (g : Nat) (part fault : Int) (w : World) (h : ¬ InR part fault) :
    Calls Try.prog 19 #[.pointer (some ⟨g, 0, none⟩), .int .i64 part, .int .i64 fault] w fun r w' => r = .returned (.int .i64 0) ∧ w = w' := by
  have HI := Lib.hid h
  clear h
  go_enter Try.func19, Try.ntmps19
  go_wp2_with (go_at_call 24; refine (rthere_out _ _ _ HI.out).mono ?_; rintro r w1 ⟨rfl, rfl⟩)
  go_ret
  exact ⟨rfl, rfl⟩

set_option maxHeartbeats 1000000 in
theorem rcount_in (g : Nat) (part fault : Nat) (w : World) {H T Q : Nat → Int} (hm : MonR w g H T Q) (h : part < 4 ∧ 1 ≤ fault ∧ fault ≤ 4) :
    Calls Try.prog 19 #[.pointer (some ⟨g, 0, none⟩), .int .i64 part, .int .i64 fault] w fun r w' => r = .returned (.int .i64 (T (part * 5 + fault))) ∧ w = w' := by
  obtain ⟨h1, h2, h3⟩ := h
  have HI := Lib.hid (show InR part fault by unfold InR; omega)
  have hc := hm.cT (i := part * 5 + fault) (by omega)
  have hc1 : w.cell? ⟨g, 20 + part * 5 + fault, none⟩ = some (.int .i64 (T (part * 5 + fault))) := by rw [Nat.add_assoc]; exact hc
  clear hm hc
  go_enter Try.func19, Try.ntmps19
  go_wp2_with (go_at_call 24; refine (rthere_in _ _ _ HI.out).mono ?_; rintro r w1 ⟨rfl, rfl⟩)
  go_ret
  exact ⟨rfl, rfl⟩

set_option maxHeartbeats 1000000 in
theorem rclear_out (g : Nat) (part : Int) (w : World) (h : ¬ (0 ≤ part ∧ part < 4)) :
    Calls Try.prog 17 #[.pointer (some ⟨g, 0, none⟩), .int .i64 part] w fun r w' => r = .returned (.int .i64 9) ∧ w = w' := by
  have HI := Lib.hid (show ¬ InR part 1 by unfold InR; omega)
  clear h
  go_enter Try.func17, Try.ntmps17
  go_wp2_with (go_at_call 24; refine (rthere_out _ _ _ HI.out).mono ?_; rintro r w1 ⟨rfl, rfl⟩)
  go_ret
  exact ⟨rfl, rfl⟩

set_option maxHeartbeats 1000000 in
theorem rclear_in (g : Nat) (part : Nat) (w : World) {H T Q : Nat → Int} (hm : MonR w g H T Q) (h : part < 4) :
    Calls Try.prog 17 #[.pointer (some ⟨g, 0, none⟩), .int .i64 part] w fun r w' => r = .returned (.int .i64 0) ∧ MonR w' g H (clrT T part) Q ∧ Upd (· = g) w w' := by
  have HI := Lib.hid (show InR part 1 by unfold InR; omega)
  have c0 := hm.cT (i := part * 5) (by omega)
  have c1 := hm.cT (i := part * 5 + 1) (by omega)
  have c2 := hm.cT (i := part * 5 + 2) (by omega)
  have c3 := hm.cT (i := part * 5 + 3) (by omega)
  have c4 := hm.cT (i := part * 5 + 4) (by omega)
  have f0 := hm.free (20 + part * 5)
  have f1 := hm.free (20 + part * 5 + 1)
  have f2 := hm.free (20 + part * 5 + 2)
  have f3 := hm.free (20 + part * 5 + 3)
  have f4 := hm.free (20 + part * 5 + 4)
  rw [← Nat.add_assoc] at c1 c2 c3 c4
  have HM := Lib.hid hm
  clear hm
  go_enter Try.func17, Try.ntmps17
  go_wp2_with (go_at_call 24; refine (rthere_in _ _ _ HI.out).mono ?_; rintro r w1 ⟨rfl, rfl⟩)
  go_ret
  refine ⟨rfl, ?_, ?_⟩
  · have := ((((HM.out.setT (k := part * 5) (by omega) 0).setT (k := part * 5 + 1) (by omega) 0).setT (k := part * 5 + 2) (by omega) 0).setT (k := part * 5 + 3) (by omega) 0).setT (k := part * 5 + 4) (by omega) 0
    simp only [← Nat.add_assoc] at this
    exact this
  · exact (((((Upd.refl (· = g) w).setCell (p := ⟨g, _, none⟩) (fun _ => rfl) _).setCell (p := ⟨g, _, none⟩) (fun _ => rfl) _).setCell (p := ⟨g, _, none⟩) (fun _ => rfl) _).setCell (p := ⟨g, _, none⟩) (fun _ => rfl) _).setCell (p := ⟨g, _, none⟩) (fun _ => rfl) _
def sum4 (T : Nat → Int) (p : Nat) : Int := T (p * 5 + 1) + T (p * 5 + 2) + T (p * 5 + 3) + T (p * 5 + 4)

set_option maxRecDepth 100000 in
set_option maxHeartbeats 2000000 in
theorem rall_any (g : Nat) (part : Nat) (w : World) {H T Q : Nat → Int} (hm : MonR w g H T Q) (h : part < 4) (ht : ∀ i, i < 20 → 0 ≤ T i ∧ T i ≤ 2000000) :
    Calls Try.prog 25 #[.pointer (some ⟨g, 0, none⟩), .int .i64 part] w fun r w' => r = .returned (.int .i64 (sum4 T part)) ∧ w = w' := by
  have c1 := hm.cT (i := part * 5 + 1) (by omega)
  have c2 := hm.cT (i := part * 5 + 2) (by omega)
  have c3 := hm.cT (i := part * 5 + 3) (by omega)
  have c4 := hm.cT (i := part * 5 + 4) (by omega)
  have t1 := ht (part * 5 + 1) (by omega)
  have t2 := ht (part * 5 + 2) (by omega)
  have t3 := ht (part * 5 + 3) (by omega)
  have t4 := ht (part * 5 + 4) (by omega)
  rw [← Nat.add_assoc] at c1 c2 c3 c4
  have e1 : ((part : Int) < 4) := by omega
  clear hm ht
  go_enter Try.func25, Try.ntmps25
  go_wp2_with fail
  refine wp_loop_rounds 5 ?_
  rw [rounds_succ]
  go_wp2_with fail
  rw [rounds_succ]
  go_wp2_with fail
  rw [rounds_succ]
  go_wp2_with fail
  rw [rounds_succ]
  go_wp2_with fail
  rw [rounds_succ]
  go_wp2_with fail
  go_ret
  exact ⟨ret_int (by unfold sum4; omega), rfl⟩

theorem rall_q {w : World} {m : Nat} (g part : Nat) {H T Q : Nat → Int} (hm : MonR w g H T Q) (h : part < 4) (ht : ∀ i, i < 20 → 0 ≤ T i ∧ T i ≤ 2000000) :
    Calls Try.prog 25 #[.pointer (some ⟨g, 0, none⟩), .int .i64 part] (w.drewN m) fun e w'' => e = .returned (.int .i64 (sum4 T part)) ∧ ∃ k, w'' = w.drewN k :=
  (rall_any g part _ (hm.drewN m) h ht).mono fun _ _ ⟨he, hw⟩ => ⟨he, m, hw.symm⟩

def tellR (H T Q : Nat → Int) (p f : Nat) : Int := if 0 < Q p ∧ Q p < sum4 (tellT T p f) p then 3 else H (p * 5 + f)

set_option maxHeartbeats 1000000 in
theorem rtell_out (g : Nat) (part fault : Int) (w : World) (h : ¬ InR part fault) :
    Calls Try.prog 15 #[.pointer (some ⟨g, 0, none⟩), .int .i64 part, .int .i64 fault] w fun r w' => r = .returned (.tuple #[.int .i64 0, .int .i64 9]) ∧ w = w' := by
  have HI := Lib.hid h
  clear h
  go_enter Try.func15, Try.ntmps15
  go_wp2_with (go_at_call 24; refine (rthere_out _ _ _ HI.out).mono ?_; rintro r w1 ⟨rfl, rfl⟩)
  go_ret2
  exact ⟨rfl, rfl⟩

theorem small_tell {T : Nat → Int} (ht : Small T) (p f : Nat) : ∀ i, i < 20 → 0 ≤ tellT T p f i ∧ tellT T p f i ≤ 2000000 := fun i hi => by
  have := ht i hi
  unfold tellT updF
  split
  · rename_i h; subst h; omega
  · omega

set_option maxRecDepth 100000 in
set_option maxHeartbeats 2000000 in
theorem rtell_in (g : Nat) (part fault : Nat) (w : World) {H T Q : Nat → Int} (hm : MonR w g H T Q) (h : part < 4 ∧ 1 ≤ fault ∧ fault ≤ 4) (ht : Small T) :
    Calls Try.prog 15 #[.pointer (some ⟨g, 0, none⟩), .int .i64 part, .int .i64 fault] w fun r w' => r = .returned (.tuple #[.int .i64 (tellR H T Q part fault), .int .i64 0]) ∧ MonR w' g H (tellT T part fault) Q ∧ Upd (· = g) w w' := by
  obtain ⟨h1, h2, h3⟩ := h
  have HI := Lib.hid (show InR part fault by unfold InR; omega)
  have c1 := hm.cT (i := part * 5 + fault) (by omega)
  have f1 := hm.free (20 + part * 5 + fault)
  have t1 := ht (part * 5 + fault) (by omega)
  rw [← Nat.add_assoc] at c1
  have HM := Lib.hid hm
  have HT := Lib.hid (small_tell ht part fault)
  have e1 : ((part : Int) < 4) := by omega
  have e2 : ((fault : Int) < 5) := by omega
  have e3 : ((0 : Int) ≤ part) := by omega
  have e4 : ((0 : Int) ≤ fault) := by omega
  clear hm ht
  go_enter Try.func15, Try.ntmps15
  go_wp2_with (go_at_call 24; refine (rthere_in _ _ _ HI.out).mono ?_; rintro r w1 ⟨rfl, rfl⟩)
  go_still_tail 16, (by kernel_rfl)
  have hm2 := HM.out.setT (k := part * 5 + fault) (by omega) (T (part * 5 + fault) + 1)
  rw [← Nat.add_assoc] at hm2
  have HM2 : Hid (MonR (w.setCell ⟨g, 20 + part * 5 + fault, none⟩ (.int .i64 (T (part * 5 + fault) + 1))).drew g H (tellT T part fault) Q) := hm2.drew
  have HU := Lib.hid ((Upd.set1 (w := w) g (20 + part * 5 + fault) (.int .i64 (T (part * 5 + fault) + 1))).drew)
  clear hm2
  go_wp2_with fail
  generalize (w.setCell ⟨g, 20 + part * 5 + fault, none⟩ (.int .i64 (T (part * 5 + fault) + 1))).drew = w2 at HM2 HU ⊢
  have cq := HM2.out.cQ h1
  have ch := HM2.out.cH (i := part * 5 + fault) (by omega)
  by_cases hq : 0 < Q part
  · by_cases hq2 : Q part < sum4 (tellT T part fault) part
    · have hv : tellR H T Q part fault = 3 := by unfold tellR; rw [if_pos ⟨hq, hq2⟩]
      have HV := Lib.hid hv
      clear hv
      go_quiet ((go_at_call 25; exact rall_q g part HM2.out h1 HT.out))
      go_wp2
      go_ret2
      exact ⟨ret_tup HV.out.symm, HM2.out.drewN _, HU.out.drewN _⟩
    · have hv : tellR H T Q part fault = H (part * 5 + fault) := by unfold tellR; rw [if_neg (by omega)]
      have HV := Lib.hid hv
      have hd : decide (Q part < sum4 (tellT T part fault) part) = false := by simpa using hq2
      clear hv
      go_quiet ((go_at_call 25; exact rall_q g part HM2.out h1 HT.out))
      go_wp2
      go_ret2
      exact ⟨ret_tup HV.out.symm, HM2.out.drewN _, HU.out.drewN _⟩
  · have hv : tellR H T Q part fault = H (part * 5 + fault) := by unfold tellR; rw [if_neg (by omega)]
    have HV := Lib.hid hv
    have hd : decide (0 < Q part) = false := by simpa using hq
    clear hv
    go_quiet (fail)
    go_wp2
    go_ret2
    exact ⟨ret_tup HV.out.symm, HM2.out.drewN _, HU.out.drewN _⟩
end Go.Proofs.Ythejgbagpnoadaa
