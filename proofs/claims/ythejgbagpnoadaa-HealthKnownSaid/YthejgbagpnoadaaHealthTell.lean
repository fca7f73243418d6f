/- The contract of Tell. -/
import Derived.Test.YthejgbagpnoadaaHealth
namespace Go.Proofs.Ythejgbagpnoadaa
set_option linter.all false
open Go.RowKit

def sum5 (T : Nat → Int) (p : Nat) : Int := T (p * 5) + T (p * 5 + 1) + T (p * 5 + 2) + T (p * 5 + 3) + T (p * 5 + 4)
def Small (T : Nat → Int) : Prop := ∀ i, i < 20 → 0 ≤ T i ∧ T i ≤ 1000000
def tellT (T : Nat → Int) (p f : Nat) : Nat → Int := updF T (p * 5 + f) (T (p * 5 + f) + 1)
def tellV (H T Q : Nat → Int) (p f : Nat) : Int := if 0 < Q p ∧ Q p < sum5 (tellT T p f) p then 3 else H (p * 5 + f)

set_option maxHeartbeats 1000000 in
theorem htell_out (g : Nat) (part fault : Int) (w : World) {H T Q : Nat → Int} (hm : MonP w g H T Q) (h : ¬ InR part fault) :
    Calls Try.prog 14 #[.pointer (some ⟨g, 0, none⟩), .int .i64 part, .int .i64 fault] w fun r w' => r = .returned (.tuple #[.int .i64 0, .int .i64 9]) ∧ w = w' := by
  have HM := Lib.hid hm
  have HI := Lib.hid h
  clear hm h
  go_enter Try.func14, Try.ntmps14
  go_wp2_with (go_at_call 23; refine (hasked_out g _ _ _ HM.out.made HI.out).mono ?_; rintro r w1 ⟨rfl, rfl⟩)
  go_ret2
  exact ⟨rfl, rfl⟩

set_option maxRecDepth 100000 in
set_option maxHeartbeats 2000000 in
theorem htell1 (g : Nat) (part : Nat) (w : World) {H T Q : Nat → Int} (hm : MonP w g H T Q) (h : part < 4) (ht : Small T) :
    Calls Try.prog 14 #[.pointer (some ⟨g, 0, none⟩), .int .i64 part, .int .i64 1] w fun r w' => r = .returned (.tuple #[.int .i64 (tellV H T Q part 1), .int .i64 0]) ∧ MonP w' g H (tellT T part 1) Q ∧ Upd (· = g) w w' := by
  have HI := Lib.hid (show InR part 1 by unfold InR; omega)
  have c0 := hm.cT (i := part * 5) (by omega)
  have c1 := hm.cT (i := part * 5 + 1) (by omega)
  have c2 := hm.cT (i := part * 5 + 2) (by omega)
  have c3 := hm.cT (i := part * 5 + 3) (by omega)
  have c4 := hm.cT (i := part * 5 + 4) (by omega)
  have cq := hm.cQ h
  have ch := hm.cH (i := part * 5 + 1) (by omega)
  have f1 := hm.free (21 + part * 5 + 1)
  have t0 := ht (part * 5) (by omega)
  have t1 := ht (part * 5 + 1) (by omega)
  have t2 := ht (part * 5 + 2) (by omega)
  have t3 := ht (part * 5 + 3) (by omega)
  have t4 := ht (part * 5 + 4) (by omega)
  rw [← Nat.add_assoc] at c1 c2 c3 c4 ch
  have HM := Lib.hid hm
  have e1 : ((part : Int) < 4) := by omega
  have hs : sum5 (tellT T part 1) part = T (part * 5) + (T (part * 5 + 1) + 1) + T (part * 5 + 2) + T (part * 5 + 3) + T (part * 5 + 4) := by
    simp [sum5, tellT, updF]
  have HSUM := Lib.hid hs
  clear hm ht hs
  go_enter Try.func14, Try.ntmps14
  go_wp2_with (go_at_call 23; refine (hasked_in g _ _ _ HM.out.made HI.out).mono ?_; rintro r w1 ⟨rfl, rfl⟩)
  go_still_tail 13, (by kernel_rfl)
  go_wp2_with fail
  have i0 : ∀ w, (Instr.index 44 (.agg #[.int .i64 (T (part * 5)), .int .i64 (T (part * 5 + 1) + 1), .int .i64 (T (part * 5 + 2)), .int .i64 (T (part * 5 + 3)), .int .i64 (T (part * 5 + 4))]) (.int .i64 0)).run Try.prog w = .ok (.int .i64 (T (part * 5))) w := fun _ => by kernel_rfl
  have i1 : ∀ w, (Instr.index 44 (.agg #[.int .i64 (T (part * 5)), .int .i64 (T (part * 5 + 1) + 1), .int .i64 (T (part * 5 + 2)), .int .i64 (T (part * 5 + 3)), .int .i64 (T (part * 5 + 4))]) (.int .i64 1)).run Try.prog w = .ok (.int .i64 (T (part * 5 + 1) + 1)) w := fun _ => by kernel_rfl
  have i2 : ∀ w, (Instr.index 44 (.agg #[.int .i64 (T (part * 5)), .int .i64 (T (part * 5 + 1) + 1), .int .i64 (T (part * 5 + 2)), .int .i64 (T (part * 5 + 3)), .int .i64 (T (part * 5 + 4))]) (.int .i64 2)).run Try.prog w = .ok (.int .i64 (T (part * 5 + 2))) w := fun _ => by kernel_rfl
  have i3 : ∀ w, (Instr.index 44 (.agg #[.int .i64 (T (part * 5)), .int .i64 (T (part * 5 + 1) + 1), .int .i64 (T (part * 5 + 2)), .int .i64 (T (part * 5 + 3)), .int .i64 (T (part * 5 + 4))]) (.int .i64 3)).run Try.prog w = .ok (.int .i64 (T (part * 5 + 3))) w := fun _ => by kernel_rfl
  have i4 : ∀ w, (Instr.index 44 (.agg #[.int .i64 (T (part * 5)), .int .i64 (T (part * 5 + 1) + 1), .int .i64 (T (part * 5 + 2)), .int .i64 (T (part * 5 + 3)), .int .i64 (T (part * 5 + 4))]) (.int .i64 4)).run Try.prog w = .ok (.int .i64 (T (part * 5 + 4))) w := fun _ => by kernel_rfl
  refine wp_loop_rounds 6 ?_
  rw [rounds_succ]
  go_wp2_with fail
  rw [rounds_succ]
  go_wp2_with fail
  rw [rounds_succ]
  go_wp2_with fail
  rw [rounds_succ]
  go_wp2_with fail
  rw [rounds_succ]
  go_wp2_with fail
  rw [rounds_succ]
  go_wp2_with fail
  all_goals
    go_ret2
    refine ⟨ret_tup ?_, ?_, ((Upd.set1 _ _ _).drew)⟩
    · unfold tellV
      rw [HSUM.out]
      first
        | (rw [if_pos (by omega)]; done)
        | (rw [if_neg (by omega)]; done)
    · have := HM.out.setT (k := part * 5 + 1) (by omega) (T (part * 5 + 1) + 1)
      rw [← Nat.add_assoc] at this
      exact this.drew

set_option maxRecDepth 100000 in
set_option maxHeartbeats 2000000 in
theorem htell2 (g : Nat) (part : Nat) (w : World) {H T Q : Nat → Int} (hm : MonP w g H T Q) (h : part < 4) (ht : Small T) :
    Calls Try.prog 14 #[.pointer (some ⟨g, 0, none⟩), .int .i64 part, .int .i64 2] w fun r w' => r = .returned (.tuple #[.int .i64 (tellV H T Q part 2), .int .i64 0]) ∧ MonP w' g H (tellT T part 2) Q ∧ Upd (· = g) w w' := by
  have HI := Lib.hid (show InR part 2 by unfold InR; omega)
  have c0 := hm.cT (i := part * 5) (by omega)
  have c1 := hm.cT (i := part * 5 + 1) (by omega)
  have c2 := hm.cT (i := part * 5 + 2) (by omega)
  have c3 := hm.cT (i := part * 5 + 3) (by omega)
  have c4 := hm.cT (i := part * 5 + 4) (by omega)
  have cq := hm.cQ h
  have ch := hm.cH (i := part * 5 + 2) (by omega)
  have f1 := hm.free (21 + part * 5 + 2)
  have t0 := ht (part * 5) (by omega)
  have t1 := ht (part * 5 + 1) (by omega)
  have t2 := ht (part * 5 + 2) (by omega)
  have t3 := ht (part * 5 + 3) (by omega)
  have t4 := ht (part * 5 + 4) (by omega)
  rw [← Nat.add_assoc] at c1 c2 c3 c4 ch
  have HM := Lib.hid hm
  have e1 : ((part : Int) < 4) := by omega
  have hs : sum5 (tellT T part 2) part = T (part * 5) + T (part * 5 + 1) + (T (part * 5 + 2) + 1) + T (part * 5 + 3) + T (part * 5 + 4) := by
    simp [sum5, tellT, updF]
  have HSUM := Lib.hid hs
  clear hm ht hs
  go_enter Try.func14, Try.ntmps14
  go_wp2_with (go_at_call 23; refine (hasked_in g _ _ _ HM.out.made HI.out).mono ?_; rintro r w1 ⟨rfl, rfl⟩)
  go_still_tail 13, (by kernel_rfl)
  go_wp2_with fail
  have i0 : ∀ w, (Instr.index 44 (.agg #[.int .i64 (T (part * 5)), .int .i64 (T (part * 5 + 1)), .int .i64 (T (part * 5 + 2) + 1), .int .i64 (T (part * 5 + 3)), .int .i64 (T (part * 5 + 4))]) (.int .i64 0)).run Try.prog w = .ok (.int .i64 (T (part * 5))) w := fun _ => by kernel_rfl
  have i1 : ∀ w, (Instr.index 44 (.agg #[.int .i64 (T (part * 5)), .int .i64 (T (part * 5 + 1)), .int .i64 (T (part * 5 + 2) + 1), .int .i64 (T (part * 5 + 3)), .int .i64 (T (part * 5 + 4))]) (.int .i64 1)).run Try.prog w = .ok (.int .i64 (T (part * 5 + 1))) w := fun _ => by kernel_rfl
  have i2 : ∀ w, (Instr.index 44 (.agg #[.int .i64 (T (part * 5)), .int .i64 (T (part * 5 + 1)), .int .i64 (T (part * 5 + 2) + 1), .int .i64 (T (part * 5 + 3)), .int .i64 (T (part * 5 + 4))]) (.int .i64 2)).run Try.prog w = .ok (.int .i64 (T (part * 5 + 2) + 1)) w := fun _ => by kernel_rfl
  have i3 : ∀ w, (Instr.index 44 (.agg #[.int .i64 (T (part * 5)), .int .i64 (T (part * 5 + 1)), .int .i64 (T (part * 5 + 2) + 1), .int .i64 (T (part * 5 + 3)), .int .i64 (T (part * 5 + 4))]) (.int .i64 3)).run Try.prog w = .ok (.int .i64 (T (part * 5 + 3))) w := fun _ => by kernel_rfl
  have i4 : ∀ w, (Instr.index 44 (.agg #[.int .i64 (T (part * 5)), .int .i64 (T (part * 5 + 1)), .int .i64 (T (part * 5 + 2) + 1), .int .i64 (T (part * 5 + 3)), .int .i64 (T (part * 5 + 4))]) (.int .i64 4)).run Try.prog w = .ok (.int .i64 (T (part * 5 + 4))) w := fun _ => by kernel_rfl
  refine wp_loop_rounds 6 ?_
  rw [rounds_succ]
  go_wp2_with fail
  rw [rounds_succ]
  go_wp2_with fail
  rw [rounds_succ]
  go_wp2_with fail
  rw [rounds_succ]
  go_wp2_with fail
  rw [rounds_succ]
  go_wp2_with fail
  rw [rounds_succ]
  go_wp2_with fail
  all_goals
    go_ret2
    refine ⟨ret_tup ?_, ?_, ((Upd.set1 _ _ _).drew)⟩
    · unfold tellV
      rw [HSUM.out]
      first
        | (rw [if_pos (by omega)]; done)
        | (rw [if_neg (by omega)]; done)
    · have := HM.out.setT (k := part * 5 + 2) (by omega) (T (part * 5 + 2) + 1)
      rw [← Nat.add_assoc] at this
      exact this.drew

set_option maxRecDepth 100000 in
set_option maxHeartbeats 2000000 in
theorem htell3 (g : Nat) (part : Nat) (w : World) {H T Q : Nat → Int} (hm : MonP w g H T Q) (h : part < 4) (ht : Small T) :
    Calls Try.prog 14 #[.pointer (some ⟨g, 0, none⟩), .int .i64 part, .int .i64 3] w fun r w' => r = .returned (.tuple #[.int .i64 (tellV H T Q part 3), .int .i64 0]) ∧ MonP w' g H (tellT T part 3) Q ∧ Upd (· = g) w w' := by
  have HI := Lib.hid (show InR part 3 by unfold InR; omega)
  have c0 := hm.cT (i := part * 5) (by omega)
  have c1 := hm.cT (i := part * 5 + 1) (by omega)
  have c2 := hm.cT (i := part * 5 + 2) (by omega)
  have c3 := hm.cT (i := part * 5 + 3) (by omega)
  have c4 := hm.cT (i := part * 5 + 4) (by omega)
  have cq := hm.cQ h
  have ch := hm.cH (i := part * 5 + 3) (by omega)
  have f1 := hm.free (21 + part * 5 + 3)
  have t0 := ht (part * 5) (by omega)
  have t1 := ht (part * 5 + 1) (by omega)
  have t2 := ht (part * 5 + 2) (by omega)
  have t3 := ht (part * 5 + 3) (by omega)
  have t4 := ht (part * 5 + 4) (by omega)
  rw [← Nat.add_assoc] at c1 c2 c3 c4 ch
  have HM := Lib.hid hm
  have e1 : ((part : Int) < 4) := by omega
  have hs : sum5 (tellT T part 3) part = T (part * 5) + T (part * 5 + 1) + T (part * 5 + 2) + (T (part * 5 + 3) + 1) + T (part * 5 + 4) := by
    simp [sum5, tellT, updF]
  have HSUM := Lib.hid hs
  clear hm ht hs
  go_enter Try.func14, Try.ntmps14
  go_wp2_with (go_at_call 23; refine (hasked_in g _ _ _ HM.out.made HI.out).mono ?_; rintro r w1 ⟨rfl, rfl⟩)
  go_still_tail 13, (by kernel_rfl)
  go_wp2_with fail
  have i0 : ∀ w, (Instr.index 44 (.agg #[.int .i64 (T (part * 5)), .int .i64 (T (part * 5 + 1)), .int .i64 (T (part * 5 + 2)), .int .i64 (T (part * 5 + 3) + 1), .int .i64 (T (part * 5 + 4))]) (.int .i64 0)).run Try.prog w = .ok (.int .i64 (T (part * 5))) w := fun _ => by kernel_rfl
  have i1 : ∀ w, (Instr.index 44 (.agg #[.int .i64 (T (part * 5)), .int .i64 (T (part * 5 + 1)), .int .i64 (T (part * 5 + 2)), .int .i64 (T (part * 5 + 3) + 1), .int .i64 (T (part * 5 + 4))]) (.int .i64 1)).run Try.prog w = .ok (.int .i64 (T (part * 5 + 1))) w := fun _ => by kernel_rfl
  have i2 : ∀ w, (Instr.index 44 (.agg #[.int .i64 (T (part * 5)), .int .i64 (T (part * 5 + 1)), .int .i64 (T (part * 5 + 2)), .int .i64 (T (part * 5 + 3) + 1), .int .i64 (T (part * 5 + 4))]) (.int .i64 2)).run Try.prog w = .ok (.int .i64 (T (part * 5 + 2))) w := fun _ => by kernel_rfl
  have i3 : ∀ w, (Instr.index 44 (.agg #[.int .i64 (T (part * 5)), .int .i64 (T (part * 5 + 1)), .int .i64 (T (part * 5 + 2)), .int .i64 (T (part * 5 + 3) + 1), .int .i64 (T (part * 5 + 4))]) (.int .i64 3)).run Try.prog w = .ok (.int .i64 (T (part * 5 + 3) + 1)) w := fun _ => by kernel_rfl
  have i4 : ∀ w, (Instr.index 44 (.agg #[.int .i64 (T (part * 5)), .int .i64 (T (part * 5 + 1)), .int .i64 (T (part * 5 + 2)), .int .i64 (T (part * 5 + 3) + 1), .int .i64 (T (part * 5 + 4))]) (.int .i64 4)).run Try.prog w = .ok (.int .i64 (T (part * 5 + 4))) w := fun _ => by kernel_rfl
  refine wp_loop_rounds 6 ?_
  rw [rounds_succ]
  go_wp2_with fail
  rw [rounds_succ]
  go_wp2_with fail
  rw [rounds_succ]
  go_wp2_with fail
  rw [rounds_succ]
  go_wp2_with fail
  rw [rounds_succ]
  go_wp2_with fail
  rw [rounds_succ]
  go_wp2_with fail
  all_goals
    go_ret2
    refine ⟨ret_tup ?_, ?_, ((Upd.set1 _ _ _).drew)⟩
    · unfold tellV
      rw [HSUM.out]
      first
        | (rw [if_pos (by omega)]; done)
        | (rw [if_neg (by omega)]; done)
    · have := HM.out.setT (k := part * 5 + 3) (by omega) (T (part * 5 + 3) + 1)
      rw [← Nat.add_assoc] at this
      exact this.drew

set_option maxRecDepth 100000 in
set_option maxHeartbeats 2000000 in
theorem htell4 (g : Nat) (part : Nat) (w : World) {H T Q : Nat → Int} (hm : MonP w g H T Q) (h : part < 4) (ht : Small T) :
    Calls Try.prog 14 #[.pointer (some ⟨g, 0, none⟩), .int .i64 part, .int .i64 4] w fun r w' => r = .returned (.tuple #[.int .i64 (tellV H T Q part 4), .int .i64 0]) ∧ MonP w' g H (tellT T part 4) Q ∧ Upd (· = g) w w' := by
  have HI := Lib.hid (show InR part 4 by unfold InR; omega)
  have c0 := hm.cT (i := part * 5) (by omega)
  have c1 := hm.cT (i := part * 5 + 1) (by omega)
  have c2 := hm.cT (i := part * 5 + 2) (by omega)
  have c3 := hm.cT (i := part * 5 + 3) (by omega)
  have c4 := hm.cT (i := part * 5 + 4) (by omega)
  have cq := hm.cQ h
  have ch := hm.cH (i := part * 5 + 4) (by omega)
  have f1 := hm.free (21 + part * 5 + 4)
  have t0 := ht (part * 5) (by omega)
  have t1 := ht (part * 5 + 1) (by omega)
  have t2 := ht (part * 5 + 2) (by omega)
  have t3 := ht (part * 5 + 3) (by omega)
  have t4 := ht (part * 5 + 4) (by omega)
  rw [← Nat.add_assoc] at c1 c2 c3 c4 ch
  have HM := Lib.hid hm
  have e1 : ((part : Int) < 4) := by omega
  have hs : sum5 (tellT T part 4) part = T (part * 5) + T (part * 5 + 1) + T (part * 5 + 2) + T (part * 5 + 3) + (T (part * 5 + 4) + 1) := by
    simp [sum5, tellT, updF]
  have HSUM := Lib.hid hs
  clear hm ht hs
  go_enter Try.func14, Try.ntmps14
  go_wp2_with (go_at_call 23; refine (hasked_in g _ _ _ HM.out.made HI.out).mono ?_; rintro r w1 ⟨rfl, rfl⟩)
  go_still_tail 13, (by kernel_rfl)
  go_wp2_with fail
  have i0 : ∀ w, (Instr.index 44 (.agg #[.int .i64 (T (part * 5)), .int .i64 (T (part * 5 + 1)), .int .i64 (T (part * 5 + 2)), .int .i64 (T (part * 5 + 3)), .int .i64 (T (part * 5 + 4) + 1)]) (.int .i64 0)).run Try.prog w = .ok (.int .i64 (T (part * 5))) w := fun _ => by kernel_rfl
  have i1 : ∀ w, (Instr.index 44 (.agg #[.int .i64 (T (part * 5)), .int .i64 (T (part * 5 + 1)), .int .i64 (T (part * 5 + 2)), .int .i64 (T (part * 5 + 3)), .int .i64 (T (part * 5 + 4) + 1)]) (.int .i64 1)).run Try.prog w = .ok (.int .i64 (T (part * 5 + 1))) w := fun _ => by kernel_rfl
  have i2 : ∀ w, (Instr.index 44 (.agg #[.int .i64 (T (part * 5)), .int .i64 (T (part * 5 + 1)), .int .i64 (T (part * 5 + 2)), .int .i64 (T (part * 5 + 3)), .int .i64 (T (part * 5 + 4) + 1)]) (.int .i64 2)).run Try.prog w = .ok (.int .i64 (T (part * 5 + 2))) w := fun _ => by kernel_rfl
  have i3 : ∀ w, (Instr.index 44 (.agg #[.int .i64 (T (part * 5)), .int .i64 (T (part * 5 + 1)), .int .i64 (T (part * 5 + 2)), .int .i64 (T (part * 5 + 3)), .int .i64 (T (part * 5 + 4) + 1)]) (.int .i64 3)).run Try.prog w = .ok (.int .i64 (T (part * 5 + 3))) w := fun _ => by kernel_rfl
  have i4 : ∀ w, (Instr.index 44 (.agg #[.int .i64 (T (part * 5)), .int .i64 (T (part * 5 + 1)), .int .i64 (T (part * 5 + 2)), .int .i64 (T (part * 5 + 3)), .int .i64 (T (part * 5 + 4) + 1)]) (.int .i64 4)).run Try.prog w = .ok (.int .i64 (T (part * 5 + 4) + 1)) w := fun _ => by kernel_rfl
  refine wp_loop_rounds 6 ?_
  rw [rounds_succ]
  go_wp2_with fail
  rw [rounds_succ]
  go_wp2_with fail
  rw [rounds_succ]
  go_wp2_with fail
  rw [rounds_succ]
  go_wp2_with fail
  rw [rounds_succ]
  go_wp2_with fail
  rw [rounds_succ]
  go_wp2_with fail
  all_goals
    go_ret2
    refine ⟨ret_tup ?_, ?_, ((Upd.set1 _ _ _).drew)⟩
    · unfold tellV
      rw [HSUM.out]
      first
        | (rw [if_pos (by omega)]; done)
        | (rw [if_neg (by omega)]; done)
    · have := HM.out.setT (k := part * 5 + 4) (by omega) (T (part * 5 + 4) + 1)
      rw [← Nat.add_assoc] at this
      exact this.drew

theorem htell_in (g : Nat) (part fault : Nat) (w : World) {H T Q : Nat → Int} (hm : MonP w g H T Q) (h : part < 4 ∧ 1 ≤ fault ∧ fault ≤ 4) (ht : Small T) :
    Calls Try.prog 14 #[.pointer (some ⟨g, 0, none⟩), .int .i64 part, .int .i64 fault] w fun r w' => r = .returned (.tuple #[.int .i64 (tellV H T Q part fault), .int .i64 0]) ∧ MonP w' g H (tellT T part fault) Q ∧ Upd (· = g) w w' := by
  obtain ⟨h1, h2, h3⟩ := h
  have h4 : fault = 1 ∨ fault = 2 ∨ fault = 3 ∨ fault = 4 := by omega
  rcases h4 with rfl | rfl | rfl | rfl
  · exact htell1 g part w hm h1 ht
  · exact htell2 g part w hm h1 ht
  · exact htell3 g part w hm h1 ht
  · exact htell4 g part w hm h1 ht
end Go.Proofs.Ythejgbagpnoadaa
