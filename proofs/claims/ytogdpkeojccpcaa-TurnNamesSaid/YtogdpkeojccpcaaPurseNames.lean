/- PurseNames: the walk of the closed law. -/
import Derived.Test.YtogdpkeojccpcaaPurseLaw
namespace Go.Proofs.Ytogdpkeojccpcaa
set_option linter.all false
open Go.RowKit
attribute [local go_sem ↓] Go.wp_at_zero Go.wp_at_succ

theorem newS64 : newS 64 64 1099511627776 = ⟨64, 64, 64, 1099511627840, none, false, false, 0⟩ := by kernel_rfl
theorem waits_to {w : World} {g : Nat} {s : PS} (b : Bool) (h : PrP w g s) (hp : 1 ≤ s.p) (hx : waitsB s = b) :
    Calls Try.prog 42 #[.pointer (some ⟨g, 0, none⟩)] w fun r w' => r = .returned (.bool b) ∧ w = w' := by
  subst hx
  exact waits_any h hp
def IsNone (w : World) (v : Value) : Prop := Calls Try.prog 57 #[v] w fun r w' => r = .returned (.bool true) ∧ w = w'
theorem none_nil (w : World) : IsNone w (.pointer none) := by
  unfold IsNone
  go_enter Try.func57, Try.ntmps57
  go_wp2_with fail
  go_ret
  exact ⟨rfl, rfl⟩
theorem none_zero {w : World} {g : Nat} (h : Blk w g 66 #[.int .i64 0, .int .i64 0, .int .i64 0, .int .i64 0, .pointer none, .bool false, .bool false, .int .i64 0]) : IsNone w (.pointer (some ⟨g, 0, none⟩)) := by
  have c0 := h.cell 0
  have c1 := h.cell 1
  simp at c0 c1
  clear h
  unfold IsNone
  go_enter Try.func57, Try.ntmps57
  go_wp2_with fail
  go_ret
  exact ⟨rfl, rfl⟩
theorem none_settled {w : World} {v : Value} (h : IsNone w v) : Calls Try.prog 58 #[v] w fun r w' => r = .returned (.int .i64 1) ∧ w = w' := by
  have H := Lib.hid h
  clear h
  go_enter Try.func58, Try.ntmps58
  go_wp2_with (go_at_call 57; refine H.out.mono ?_; rintro r w1 ⟨rfl, rfl⟩)
  go_ret
  exact ⟨rfl, rfl⟩
theorem nturn {w : World} {v : Value} (t : Int) (h : IsNone w v) : Calls Try.prog 28 #[v, .int .i64 t] w fun r w' => r = .returned (.tuple #[.bool false, .int .i64 1]) ∧ w = w' := by
  have H := Lib.hid h
  clear h
  go_enter Try.func28, Try.ntmps28
  go_wp2_with (go_at_call 57; refine H.out.mono ?_; rintro r w1 ⟨rfl, rfl⟩)
  go_ret2
  exact ⟨rfl, rfl⟩
theorem ncharge {w : World} {v : Value} (h : IsNone w v) : Calls Try.prog 31 #[v] w fun r w' => r = .returned (.int .i64 1) ∧ w = w' := by
  have H := Lib.hid h
  clear h
  go_enter Try.func31, Try.ntmps31
  go_wp2_with (go_at_call 57; refine H.out.mono ?_; rintro r w1 ⟨rfl, rfl⟩)
  go_ret
  exact ⟨rfl, rfl⟩
theorem nchange {w : World} {v : Value} (p b : Int) (h : IsNone w v) : Calls Try.prog 30 #[v, .int .i64 p, .int .i64 b] w fun r w' => r = .returned (.int .i64 1) ∧ w = w' := by
  have H := Lib.hid h
  clear h
  go_enter Try.func30, Try.ntmps30
  go_wp2_with (go_at_call 58; refine (none_settled H.out).mono ?_; rintro r w1 ⟨rfl, rfl⟩)
  go_ret
  exact ⟨rfl, rfl⟩
theorem nleave {w : World} {v : Value} (h : IsNone w v) : Calls Try.prog 39 #[v] w fun r w' => r = .returned (.int .i64 1) ∧ w = w' := by
  have H := Lib.hid h
  clear h
  go_enter Try.func39, Try.ntmps39
  go_wp2_with (go_at_call 58; refine (none_settled H.out).mono ?_; rintro r w1 ⟨rfl, rfl⟩)
  go_ret
  exact ⟨rfl, rfl⟩
theorem nleft {w : World} {v : Value} (h : IsNone w v) : Calls Try.prog 32 #[v] w fun r w' => r = .returned (.int .i64 0) ∧ w = w' := by
  have H := Lib.hid h
  clear h
  go_enter Try.func32, Try.ntmps32
  go_wp2_with (go_at_call 57; refine H.out.mono ?_; rintro r w1 ⟨rfl, rfl⟩)
  go_ret
  exact ⟨rfl, rfl⟩
theorem nends {w : World} {v : Value} (h : IsNone w v) : Calls Try.prog 34 #[v] w fun r w' => r = .returned (.int .i64 0) ∧ w = w' := by
  have H := Lib.hid h
  clear h
  go_enter Try.func34, Try.ntmps34
  go_wp2_with (go_at_call 57; refine H.out.mono ?_; rintro r w1 ⟨rfl, rfl⟩)
  go_ret
  exact ⟨rfl, rfl⟩
theorem nshort {w : World} {v : Value} (h : IsNone w v) : Calls Try.prog 33 #[v] w fun r w' => r = .returned (.int .i64 0) ∧ w = w' := by
  have H := Lib.hid h
  clear h
  go_enter Try.func33, Try.ntmps33
  go_wp2_with (go_at_call 57; refine H.out.mono ?_; rintro r w1 ⟨rfl, rfl⟩)
  go_ret
  exact ⟨rfl, rfl⟩
theorem nis {w : World} {v : Value} (h : IsNone w v) : Calls Try.prog 29 #[v] w fun r w' => r = .returned (.tuple #[.int .i64 0, .int .i64 0]) ∧ w = w' := by
  have H := Lib.hid h
  clear h
  go_enter Try.func29, Try.ntmps29
  go_wp2_with (go_at_call 57; refine H.out.mono ?_; rintro r w1 ⟨rfl, rfl⟩)
  go_ret2
  exact ⟨rfl, rfl⟩
theorem nwaits {w : World} {v : Value} (h : IsNone w v) : Calls Try.prog 42 #[v] w fun r w' => r = .returned (.bool false) ∧ w = w' := by
  have H := Lib.hid h
  clear h
  go_enter Try.func42, Try.ntmps42
  go_wp2_with (go_at_call 57; refine H.out.mono ?_; rintro r w1 ⟨rfl, rfl⟩)
  go_ret
  exact ⟨rfl, rfl⟩
theorem ngone {w : World} {v : Value} (h : IsNone w v) : Calls Try.prog 43 #[v] w fun r w' => r = .returned (.bool false) ∧ w = w' := by
  have H := Lib.hid h
  clear h
  go_enter Try.func43, Try.ntmps43
  go_wp2_with (go_at_call 57; refine H.out.mono ?_; rintro r w1 ⟨rfl, rfl⟩)
  go_ret
  exact ⟨rfl, rfl⟩

set_option maxRecDepth 100000 in
set_option maxHeartbeats 4000000 in
theorem purseNames_core (w : World)  :
    Calls Try.prog 10 #[] w (Holds w) := by
  have HW := Lib.hid (Below.refl w.heap.size w)
  have U0 := Lib.hid True.intro
  have U1 := Lib.hid True.intro
  have U2 := Lib.hid True.intro
  have V0 := Lib.hid True.intro
  have V1 := Lib.hid True.intro
  have V2 := Lib.hid True.intro
  have X0 := Lib.hid True.intro
  have X1 := Lib.hid True.intro
  have W0 := Lib.hid True.intro
  have W1 := Lib.hid True.intro
  have W2 := Lib.hid True.intro
  have N0 := Lib.hid True.intro
  have N1 := Lib.hid True.intro
  have N2 := Lib.hid True.intro
  have N3 := Lib.hid True.intro
  have N4 := Lib.hid True.intro
  go_enter Try.func10, Try.ntmps10
  go_wp2_with (first
    | (go_at_call 27; first
        | (have _tk := N0; refine (new_no (p := 0) (b := 0) (t := 0) (e := 2) ⟨by decide, by decide⟩ ⟨by decide, by decide⟩ (by decide) (by decide)).mono ?_; rintro r x1 ⟨rfl, hb⟩; have HW := Lib.hid (HW.out.trans (hb.mono HW.out.size)); clear hb N0 _tk)
        | (have _tk := N1; refine (new_no (p := 65) (b := 1) (t := 0) (e := 2) ⟨by decide, by decide⟩ ⟨by decide, by decide⟩ (by decide) (by decide)).mono ?_; rintro r x1 ⟨rfl, hb⟩; have HW := Lib.hid (HW.out.trans (hb.mono HW.out.size)); clear hb N1 _tk)
        | (have _tk := N2; refine (new_no (p := 5) (b := 6) (t := 0) (e := 2) ⟨by decide, by decide⟩ ⟨by decide, by decide⟩ (by decide) (by decide)).mono ?_; rintro r x1 ⟨rfl, hb⟩; have HW := Lib.hid (HW.out.trans (hb.mono HW.out.size)); clear hb N2 _tk)
        | (have _tk := N3; refine (new_no (p := 5) (b := 5) (t := (-1)) (e := 2) ⟨by decide, by decide⟩ ⟨by decide, by decide⟩ (by decide) (by decide)).mono ?_; rintro r x1 ⟨rfl, hb⟩; have HW := Lib.hid (HW.out.trans (hb.mono HW.out.size)); clear hb N3 _tk)
        | (have _tk := N4; refine (new_no (p := 5) (b := 5) (t := 1099511627777) (e := 10) ⟨by decide, by decide⟩ ⟨by decide, by decide⟩ (by decide) (by decide)).mono ?_; rintro r x1 ⟨rfl, hb⟩; have HW := Lib.hid (HW.out.trans (hb.mono HW.out.size)); clear hb N4 _tk)
        | (refine (new_to (p := 64) (b := 64) (t := 1099511627776) ⟨by decide, by decide⟩ ⟨by decide, by decide⟩ (by decide)).mono ?_; rintro r x1 ⟨⟨g, rfl, hg, hp⟩, hb⟩; have HG := Lib.hid (Nat.le_trans HW.out.size hg); have HW := Lib.hid (HW.out.trans (hb.mono HW.out.size)); have H := Lib.hid (show PrP x1 g ⟨64, 64, 64, 1099511627840, none, false, false, 0⟩ by rw [newS64] at hp; exact hp); clear hg hp hb))
    | (go_at_call 32; refine (left_any H.out (by decide)).mono ?_; rintro r x1 ⟨rfl, rfl⟩)
    | (go_at_call 34; refine (ends_any H.out (by decide)).mono ?_; rintro r x1 ⟨rfl, rfl⟩)
    | (go_at_call 28; first
        | (have _tk := U0; refine (turn_to false 250 ⟨64, 64, 64, 1099511627840, none, false, false, 0⟩ H.out ⟨by decide, by decide, by decide, by decide, by intro q hq; cases hq <;> decide⟩ ⟨by kernel_rfl, by kernel_rfl, by kernel_rfl⟩).mono ?_; rintro r x1 ⟨rfl, hp, hu⟩; have HW := Lib.hid (below_one HW.out HG.out hu); have H := Lib.hid hp; clear hp hu U0 _tk)
        | (have _tk := U1; refine (turn_to true 0 ⟨64, 64, 0, 1099511627840, none, true, true, 64⟩ H.out ⟨by decide, by decide, by decide, by decide, by intro q hq; cases hq <;> decide⟩ ⟨by kernel_rfl, by kernel_rfl, by kernel_rfl⟩).mono ?_; rintro r x1 ⟨rfl, hp, hu⟩; have HW := Lib.hid (below_one HW.out HG.out hu); have H := Lib.hid hp; clear hp hu U1 _tk)
        | (have _tk := U2; refine (turn_to false 250 ⟨64, 64, 0, 1099511627840, none, true, true, 64⟩ H.out ⟨by decide, by decide, by decide, by decide, by intro q hq; cases hq <;> decide⟩ ⟨by kernel_rfl, by kernel_rfl, by kernel_rfl⟩).mono ?_; rintro r x1 ⟨rfl, hp, hu⟩; have HW := Lib.hid (below_one HW.out HG.out hu); have H := Lib.hid hp; clear hp hu U2 _tk))
    | (go_at_call 30; first
        | (have _tk := V0; refine (change_to 2 ⟨64, 64, 64, 1099511627840, none, false, false, 0⟩ H.out (by decide) ⟨by kernel_rfl, by kernel_rfl⟩).mono ?_; rintro r x1 ⟨rfl, hp, hu⟩; have HW := Lib.hid (below_two HW.out HG.out hu); have H := Lib.hid hp; clear hp hu V0 _tk)
        | (have _tk := V1; refine (change_to 250 ⟨64, 64, 64, 1099511627840, none, true, false, 0⟩ H.out (by decide) ⟨by kernel_rfl, by kernel_rfl⟩).mono ?_; rintro r x1 ⟨rfl, hp, hu⟩; have HW := Lib.hid (below_two HW.out HG.out hu); have H := Lib.hid hp; clear hp hu V1 _tk)
        | (have _tk := V2; refine (change_to 250 ⟨64, 64, 0, 1099511627840, none, true, true, 64⟩ H.out (by decide) ⟨by kernel_rfl, by kernel_rfl⟩).mono ?_; rintro r x1 ⟨rfl, hp, hu⟩; have HW := Lib.hid (below_two HW.out HG.out hu); have H := Lib.hid hp; clear hp hu V2 _tk))
    | (go_at_call 42; first
        | (have _tk := X0; refine (waits_to true H.out (by decide) (by kernel_rfl)).mono ?_; rintro r x1 ⟨rfl, rfl⟩; clear X0 _tk)
        | (have _tk := X1; refine (waits_to false H.out (by decide) (by kernel_rfl)).mono ?_; rintro r x1 ⟨rfl, rfl⟩; clear X1 _tk))
    | (go_at_call 39; first
        | (have _tk := W0; refine (leave_to 0 ⟨64, 64, 64, 1099511627840, none, true, false, 0⟩ H.out (by decide) ⟨by kernel_rfl, by kernel_rfl⟩).mono ?_; rintro r x1 ⟨rfl, hp, hu⟩; have HW := Lib.hid (below_one HW.out HG.out hu); have H := Lib.hid hp; clear hp hu W0 _tk)
        | (have _tk := W1; refine (leave_to 250 ⟨64, 64, 64, 1099511627840, none, true, false, 0⟩ H.out (by decide) ⟨by kernel_rfl, by kernel_rfl⟩).mono ?_; rintro r x1 ⟨rfl, hp, hu⟩; have HW := Lib.hid (below_one HW.out HG.out hu); have H := Lib.hid hp; clear hp hu W1 _tk)
        | (have _tk := W2; refine (leave_to 250 ⟨64, 64, 0, 1099511627840, none, true, true, 64⟩ H.out (by decide) ⟨by kernel_rfl, by kernel_rfl⟩).mono ?_; rintro r x1 ⟨rfl, hp, hu⟩; have HW := Lib.hid (below_one HW.out HG.out hu); have H := Lib.hid hp; clear hp hu W2 _tk)))
  refine wp_loop_rounds 3 ?_
  rw [rounds_succ]
  go_wp2_with (first
    | (go_at_call 28; refine (nturn _ (none_nil _)).mono ?_; rintro r y1 ⟨rfl, rfl⟩)
    | (go_at_call 31; refine (ncharge (none_nil _)).mono ?_; rintro r y1 ⟨rfl, rfl⟩)
    | (go_at_call 30; refine (nchange _ _ (none_nil _)).mono ?_; rintro r y1 ⟨rfl, rfl⟩)
    | (go_at_call 39; refine (nleave (none_nil _)).mono ?_; rintro r y1 ⟨rfl, rfl⟩)
    | (go_at_call 32; refine (nleft (none_nil _)).mono ?_; rintro r y1 ⟨rfl, rfl⟩)
    | (go_at_call 34; refine (nends (none_nil _)).mono ?_; rintro r y1 ⟨rfl, rfl⟩)
    | (go_at_call 33; refine (nshort (none_nil _)).mono ?_; rintro r y1 ⟨rfl, rfl⟩)
    | (go_at_call 29; refine (nis (none_nil _)).mono ?_; rintro r y1 ⟨rfl, rfl⟩)
    | (go_at_call 42; refine (nwaits (none_nil _)).mono ?_; rintro r y1 ⟨rfl, rfl⟩)
    | (go_at_call 43; refine (ngone (none_nil _)).mono ?_; rintro r y1 ⟨rfl, rfl⟩))
  rw [rounds_succ]
  go_wp2_with (first
    | (go_at_call 28; refine (nturn _ (none_zero (Blk.new _ _ _))).mono ?_; rintro r y1 ⟨rfl, rfl⟩)
    | (go_at_call 31; refine (ncharge (none_zero (Blk.new _ _ _))).mono ?_; rintro r y1 ⟨rfl, rfl⟩)
    | (go_at_call 30; refine (nchange _ _ (none_zero (Blk.new _ _ _))).mono ?_; rintro r y1 ⟨rfl, rfl⟩)
    | (go_at_call 39; refine (nleave (none_zero (Blk.new _ _ _))).mono ?_; rintro r y1 ⟨rfl, rfl⟩)
    | (go_at_call 32; refine (nleft (none_zero (Blk.new _ _ _))).mono ?_; rintro r y1 ⟨rfl, rfl⟩)
    | (go_at_call 34; refine (nends (none_zero (Blk.new _ _ _))).mono ?_; rintro r y1 ⟨rfl, rfl⟩)
    | (go_at_call 33; refine (nshort (none_zero (Blk.new _ _ _))).mono ?_; rintro r y1 ⟨rfl, rfl⟩)
    | (go_at_call 29; refine (nis (none_zero (Blk.new _ _ _))).mono ?_; rintro r y1 ⟨rfl, rfl⟩)
    | (go_at_call 42; refine (nwaits (none_zero (Blk.new _ _ _))).mono ?_; rintro r y1 ⟨rfl, rfl⟩)
    | (go_at_call 43; refine (ngone (none_zero (Blk.new _ _ _))).mono ?_; rintro r y1 ⟨rfl, rfl⟩))
  rw [rounds_succ]
  go_wp2_with (go_at_call 26; refine (purse_works _).mono ?_; rintro r x1 ⟨rfl, hx⟩; have HX := Lib.hid hx; clear hx)
  go_ret
  have hw := HW.out.size
  have z := (HW.out.alloc hw (.cells #[.int .i64 0, .int .i64 0, .int .i64 0, .int .i64 0, .pointer none, .bool false, .bool false, .int .i64 0] 66)).alloc (by simp; omega) (.cells #[.int .i64 0, .int .i64 0, .int .i64 0, .int .i64 0, .pointer none, .bool false, .bool false, .int .i64 0] 66)
  exact ⟨rfl, z.trans (HX.out.mono z.size)⟩
end Go.Proofs.Ytogdpkeojccpcaa
