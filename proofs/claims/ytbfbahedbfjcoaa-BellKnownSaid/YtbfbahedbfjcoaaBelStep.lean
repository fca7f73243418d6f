/- BellPlays: one call of both. -/
import Derived.Test.YtbfbahedbfjcoaaBelJoint
import Derived.Test.YtbfbahedbfjcoaaBring
namespace Go.Proofs.Ytbfbahedbfjcoaa
set_option linter.all false
open Go.RowKit
attribute [local go_sem ↓] Go.wp_at_zero Go.wp_at_succ

def stepL (what kind id at_ : Int) (L : BL) : BL := if what % 4 = 0 then armL L kind id at_ else if what % 4 = 1 then canL L kind id else if what % 4 = 2 then restL at_ L else L
theorem PD.drew {w x : World} {gb gm : Nat} {L M : BL} {D : Nat → Prop} (h : PD w x gb gm L M D) : PD w x.drew gb gm L M D := h.keep (Below.refl x.heap.size x).drew

set_option maxRecDepth 100000 in
set_option maxHeartbeats 8000000 in
theorem bstep_0 {w x : World} {gb gm : Nat} {L : BL} (h : PD w x gb gm L L NoX) (what kind id at_ : Int) (hw : -9223372036854775808 ≤ what ∧ what ≤ 9223372036854775807) (hq : what % 4 = 0) :
    Calls Try.prog 17 #[.pointer (some ⟨gb, 0, none⟩), .pointer (some ⟨gm, 0, none⟩), .agg #[.int .i64 what, .int .i64 kind, .int .i64 id, .int .i64 at_]] x fun r x' => r = .returned (.bool true) ∧ PD w x' gb gm (armL L kind id at_) (armL L kind id at_) NoX := by
  have hb := (Below.refl x.heap.size x).alloc (Nat.le_refl _) (.cells #[.int .i64 what, .int .i64 kind, .int .i64 id, .int .i64 at_] 28)
  have hblk := Blk.new x 28 #[.int .i64 what, .int .i64 kind, .int .i64 id, .int .i64 at_]
  have HPD := Lib.hid (h.grow hb)
  have HD := Lib.hid (show growR NoX x (x.alloc (.cells #[.int .i64 what, .int .i64 kind, .int .i64 id, .int .i64 at_] 28)) x.heap.size from Or.inr ⟨Nat.le_refl _, by simp⟩)
  have HQ := Lib.hid hq
  have HW := Lib.hid hw
  have HBK := Lib.hid hblk
  obtain ⟨E, hE⟩ : ∃ E, armE kind id at_ = E := ⟨_, rfl⟩
  have HE := Lib.hid hE
  clear h hb hq hw hblk hE
  go_enter Try.func17, Try.ntmps17
  go_wp2_with (go_at_call 9; refine (bring_any _ _ _ HW.out ⟨by decide, by decide⟩).mono ?_; rintro r x1 ⟨rfl, -, rfl⟩; rw [HQ.out])
  obtain ⟨gd, hgd⟩ : ∃ g, x.heap.size = g := ⟨_, rfl⟩
  rw [hgd] at HD HBK ⊢
  clear hgd
  generalize (x.alloc (.cells #[.int .i64 what, .int .i64 kind, .int .i64 id, .int .i64 at_] 28)) = xd at HPD HD HBK ⊢
  have d1 : xd.cell? ⟨gd, 1, none⟩ = some (.int .i64 kind) := HBK.out.cell 1
  have d2 : xd.cell? ⟨gd, 2, none⟩ = some (.int .i64 id) := HBK.out.cell 2
  have d3 : xd.cell? ⟨gd, 3, none⟩ = some (.int .i64 at_) := HBK.out.cell 3
  go_region_held3 (fun w' => w'.cell? ⟨gd, 1, none⟩ = some (.int .i64 kind) ∧ w'.cell? ⟨gd, 2, none⟩ = some (.int .i64 id) ∧ w'.cell? ⟨gd, 3, none⟩ = some (.int .i64 at_)) (first | go_keep | (exact E2.out) | (exact E1.out))
    (first
      | (go_at_call 10; refine (pd_arm_p HPD.out.drew kind id at_).mono ?_; rintro r x2 ⟨rfl, hj, hk⟩; rw [HE.out]
         have HJ2 := Lib.hid hj
         have HB2 := Lib.hid (hk.blk (Blk.drew HBK.out) HD.out)
         have E1 : Hid (x2.cell? ⟨gd, 1, none⟩ = some (.int .i64 kind) ∧ x2.cell? ⟨gd, 2, none⟩ = some (.int .i64 id) ∧ x2.cell? ⟨gd, 3, none⟩ = some (.int .i64 at_)) := ⟨HB2.out.cell 1, HB2.out.cell 2, HB2.out.cell 3⟩
         clear hj hk)
      | (go_at_call 33; refine (pd_arm_r HJ2.out kind id at_).mono ?_; rintro r x3 ⟨rfl, hj, hk⟩; rw [HE.out]
         have HJ3 := Lib.hid hj
         have HB3 := Lib.hid (hk.blk HB2.out HD.out)
         have E2 : Hid (x3.cell? ⟨gd, 1, none⟩ = some (.int .i64 kind) ∧ x3.cell? ⟨gd, 2, none⟩ = some (.int .i64 id) ∧ x3.cell? ⟨gd, 3, none⟩ = some (.int .i64 at_)) := ⟨HB3.out.cell 1, HB3.out.cell 2, HB3.out.cell 3⟩
         clear hj hk))
  go_wp2_with fail
  go_ret
  exact ⟨ret_bool (by simp), HJ3.out.less fun _ hk => hk.elim⟩
set_option maxRecDepth 100000 in
set_option maxHeartbeats 8000000 in
theorem bstep_1 {w x : World} {gb gm : Nat} {L : BL} (h : PD w x gb gm L L NoX) (what kind id at_ : Int) (hw : -9223372036854775808 ≤ what ∧ what ≤ 9223372036854775807) (hq : what % 4 = 1) :
    Calls Try.prog 17 #[.pointer (some ⟨gb, 0, none⟩), .pointer (some ⟨gm, 0, none⟩), .agg #[.int .i64 what, .int .i64 kind, .int .i64 id, .int .i64 at_]] x fun r x' => r = .returned (.bool true) ∧ PD w x' gb gm (canL L kind id) (canL L kind id) NoX := by
  have hb := (Below.refl x.heap.size x).alloc (Nat.le_refl _) (.cells #[.int .i64 what, .int .i64 kind, .int .i64 id, .int .i64 at_] 28)
  have hblk := Blk.new x 28 #[.int .i64 what, .int .i64 kind, .int .i64 id, .int .i64 at_]
  have HPD := Lib.hid (h.grow hb)
  have HD := Lib.hid (show growR NoX x (x.alloc (.cells #[.int .i64 what, .int .i64 kind, .int .i64 id, .int .i64 at_] 28)) x.heap.size from Or.inr ⟨Nat.le_refl _, by simp⟩)
  have HQ := Lib.hid hq
  have HW := Lib.hid hw
  have HBK := Lib.hid hblk
  obtain ⟨E, hE⟩ : ∃ E, canE L kind id = E := ⟨_, rfl⟩
  have HE := Lib.hid hE
  clear h hb hq hw hblk hE
  go_enter Try.func17, Try.ntmps17
  go_wp2_with (go_at_call 9; refine (bring_any _ _ _ HW.out ⟨by decide, by decide⟩).mono ?_; rintro r x1 ⟨rfl, -, rfl⟩; rw [HQ.out])
  obtain ⟨gd, hgd⟩ : ∃ g, x.heap.size = g := ⟨_, rfl⟩
  rw [hgd] at HD HBK ⊢
  clear hgd
  generalize (x.alloc (.cells #[.int .i64 what, .int .i64 kind, .int .i64 id, .int .i64 at_] 28)) = xd at HPD HD HBK ⊢
  have d1 : xd.cell? ⟨gd, 1, none⟩ = some (.int .i64 kind) := HBK.out.cell 1
  have d2 : xd.cell? ⟨gd, 2, none⟩ = some (.int .i64 id) := HBK.out.cell 2
  go_region_held3 (fun w' => w'.cell? ⟨gd, 1, none⟩ = some (.int .i64 kind) ∧ w'.cell? ⟨gd, 2, none⟩ = some (.int .i64 id)) (first | go_keep | (exact E2.out) | (exact E1.out))
    (first
      | (go_at_call 11; refine (pd_can_p HPD.out.drew kind id).mono ?_; rintro r x2 ⟨rfl, hj, hk⟩; rw [HE.out]
         have HJ2 := Lib.hid hj
         have HB2 := Lib.hid (hk.blk (Blk.drew HBK.out) HD.out)
         have E1 : Hid (x2.cell? ⟨gd, 1, none⟩ = some (.int .i64 kind) ∧ x2.cell? ⟨gd, 2, none⟩ = some (.int .i64 id)) := ⟨HB2.out.cell 1, HB2.out.cell 2⟩
         clear hj hk)
      | (go_at_call 34; refine (pd_can_r HJ2.out kind id).mono ?_; rintro r x3 ⟨rfl, hj, hk⟩; rw [HE.out]
         have HJ3 := Lib.hid hj
         have HB3 := Lib.hid (hk.blk HB2.out HD.out)
         have E2 : Hid (x3.cell? ⟨gd, 1, none⟩ = some (.int .i64 kind) ∧ x3.cell? ⟨gd, 2, none⟩ = some (.int .i64 id)) := ⟨HB3.out.cell 1, HB3.out.cell 2⟩
         clear hj hk))
  go_wp2_with fail
  go_ret
  exact ⟨ret_bool (by simp), HJ3.out.less fun _ hk => hk.elim⟩
set_option maxRecDepth 100000 in
set_option maxHeartbeats 8000000 in
theorem bstep_3 {w x : World} {gb gm : Nat} {L : BL} (h : PD w x gb gm L L NoX) (what kind id at_ : Int) (hw : -9223372036854775808 ≤ what ∧ what ≤ 9223372036854775807) (hq : what % 4 = 3) :
    Calls Try.prog 17 #[.pointer (some ⟨gb, 0, none⟩), .pointer (some ⟨gm, 0, none⟩), .agg #[.int .i64 what, .int .i64 kind, .int .i64 id, .int .i64 at_]] x fun r x' => r = .returned (.bool true) ∧ PD w x' gb gm L L NoX := by
  have hb := (Below.refl x.heap.size x).alloc (Nat.le_refl _) (.cells #[.int .i64 what, .int .i64 kind, .int .i64 id, .int .i64 at_] 28)
  have hblk := Blk.new x 28 #[.int .i64 what, .int .i64 kind, .int .i64 id, .int .i64 at_]
  have HPD := Lib.hid (h.grow hb)
  have HD := Lib.hid (show growR NoX x (x.alloc (.cells #[.int .i64 what, .int .i64 kind, .int .i64 id, .int .i64 at_] 28)) x.heap.size from Or.inr ⟨Nat.le_refl _, by simp⟩)
  have HQ := Lib.hid hq
  have HW := Lib.hid hw
  have HBK := Lib.hid hblk
  clear h hb hq hw hblk
  go_enter Try.func17, Try.ntmps17
  obtain ⟨k, hk⟩ : ∃ k, nxK L = k := ⟨_, rfl⟩
  obtain ⟨kb, hkb⟩ : ∃ k, nxB L = k := ⟨_, rfl⟩
  have HK := Lib.hid (And.intro hk hkb)
  clear hk hkb
  go_wp2_with (first
    | (go_at_call 9; refine (bring_any _ _ _ HW.out ⟨by decide, by decide⟩).mono ?_; rintro r x1 ⟨rfl, -, rfl⟩; rw [HQ.out])
    | (go_at_call 15; refine (pd_next_p HPD.out).mono ?_; rintro r x2 ⟨rfl, hj, hk⟩; rw [HK.out.1, HK.out.2]; have HJ2 := Lib.hid hj; clear hj hk)
    | (go_at_call 35; refine (pd_next_r HJ2.out).mono ?_; rintro r x3 ⟨rfl, rfl⟩; rw [HK.out.1, HK.out.2]))
  go_ret
  exact ⟨ret_bool (by simp), HJ2.out.less fun _ hk => hk.elim⟩
end Go.Proofs.Ytbfbahedbfjcoaa
