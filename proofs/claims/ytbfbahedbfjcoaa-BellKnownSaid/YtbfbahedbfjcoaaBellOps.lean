/- The walks of Arm, Cancel, At, Next, Count. -/
import Derived.Test.YtbfbahedbfjcoaaBellW
namespace Go.Proofs.Ytbfbahedbfjcoaa
set_option linter.all false
open Go.RowKit
attribute [local go_sem ↓] Go.wp_at_zero Go.wp_at_succ

def plB (kind id : Int) : Nat := (kind * 16 + id).toNat
theorem plB_lt {kind id : Int} (h : MayB kind id) : plB kind id < 64 := by unfold MayB at h; unfold plB; omega
def TkB (at_ : Int) : Prop := 0 ≤ at_ ∧ at_ ≤ 1099511627776
instance (a : Int) : Decidable (TkB a) := by unfold TkB; infer_instance
def armE (kind id at_ : Int) : Int := if MayB kind id then (if TkB at_ then 0 else 2) else 9
def armL (L : BL) (kind id at_ : Int) : BL := if MayB kind id ∧ TkB at_ then insL (plB kind id, at_) (rmL (plB kind id) L) else L
theorem rm_gone (L : BL) (id : Nat) : lk (rmL id L) id = none := by rw [rm_lk]; unfold outM; rw [if_pos rfl]
theorem arm_ok {L : BL} (h : OkL L) (kind id at_ : Int) : OkL (armL L kind id at_) := by
  unfold armL
  split
  · rename_i hc; exact ins_ok (rm_ok h _) (plB_lt hc.1) (rm_gone _ _)
  · exact h

theorem RkJ.drew_ {w : World} {F : Nat → Prop} {g h n : Nat} {M : Nat → Option Int} {s : HS} (h1 : RkJ w F g h n M s) : RkJ w.drew F g h n M s := h1.below (Below.refl w.heap.size w).drew

set_option maxRecDepth 100000 in
set_option maxHeartbeats 8000000 in
theorem arm_yes {w : World} {F : Nat → Prop} {gb : Nat} {L : BL} (hj : BlJ w F gb L) (kind id at_ : Int) (hm : MayB kind id) (ht : TkB at_) :
    Calls Try.prog 10 #[.pointer (some ⟨gb, 0, none⟩), .int .i64 kind, .int .i64 id, .int .i64 at_] w fun r w' => r = .returned (.int .i64 0) ∧ BlJ w' (growR F w w') gb (insL (plB kind id, at_) (rmL (plB kind id) L)) ∧ Upd F w w' := by
  obtain ⟨Fi, g, h, s, h1, h2, h3, h4, h5⟩ := hj.ex
  have hlen := ok_len hj.ok
  have hlen2 : (rmL (plB kind id) L).length + 1 ≤ 64 := by
    have := ok_len (ins_ok (p := (plB kind id, at_)) (rm_ok hj.ok (plB kind id)) (plB_lt hm) (rm_gone _ _))
    rw [ins_len] at this
    exact this
  have hp := plB_lt hm
  obtain ⟨p, hpe⟩ : ∃ p, plB kind id = p := ⟨_, rfl⟩
  rw [hpe] at hp hlen2 ⊢
  have HP := Lib.hid (And.intro hp (And.intro hpe hlen2))
  have HJ := Lib.hid hj
  have HB := Lib.hid h1
  have HR := Lib.hid h2
  have HF := Lib.hid (And.intro h3 (And.intro h4 h5))
  have HD := Lib.hid (decide_eq_true hm)
  have HT := Lib.hid (decide_eq_true ht)
  have HM := Lib.hid hm
  have T1 := Lib.hid True.intro
  clear hj h1 h2 h3 h4 h5 hm ht hp hlen hlen2
  go_enter Try.func10, Try.ntmps10
  go_wp2_with (first
    | (go_at_call 24; refine (bnone_any HJ.out).mono ?_; rintro r w1 ⟨rfl, rfl⟩)
    | (go_at_call 25; refine (may_any kind id _).mono ?_; rintro r w1 ⟨rfl, hb⟩; rw [HD.out]; have HW1 := Lib.hid hb; clear hb)
    | (go_at_call 26; refine (within_any 1099511627776 at_ (by simp)).mono ?_; rintro r w2 ⟨rfl, rfl⟩; rw [show decide (0 ≤ at_ ∧ at_ ≤ 1099511627776) = true from HT.out]))
  have hbel : Below w.heap.size w (w1.alloc (.cells #[.int .i64 at_] 3)) := HW1.out.alloc HW1.out.size _
  have HBA := Lib.hid hbel
  generalize (w1.alloc (.cells #[.int .i64 at_] 3)) = wa at HBA ⊢
  clear hbel HW1
  have HB1 := Lib.hid (HB.out.below HBA.out HB.out.lt)
  have HR1 := Lib.hid (HR.out.below HBA.out)
  have hge : wa.cell? ⟨gb, 0, none⟩ = some (.pointer (some ⟨g, 0, none⟩)) := HB1.out.cell 0
  cases hk : lk L p with
  | none =>
    have HK := Lib.hid hk
    clear hk
    go_region_held3 (fun w' => w'.cell? ⟨gb, 0, none⟩ = some (.pointer (some ⟨g, 0, none⟩))) (first | go_keep | (exact E1.out))
      (first | (go_at_call 28; refine (place_any kind id _ HM.out.1 HM.out.2).mono ?_; rintro r x1 ⟨rfl, rfl⟩; rw [show (kind * 16 + id).toNat = p from HP.out.2.1])
             | (go_at_call 27; refine (remove_no HR1.out.drew_ p HP.out.1 (ok_len HJ.out.ok) HK.out).mono ?_; rintro r x2 ⟨rfl, hb⟩
                have HB2 := Lib.hid (HB1.out.drew.below hb HB1.out.lt)
                have E1 : Hid (x2.cell? ⟨gb, 0, none⟩ = some (.pointer (some ⟨g, 0, none⟩))) := HB2.out.cell 0
                have HX2 := Lib.hid hb
                clear hb))
    have HX : Hid ((∃ s', RkJ x2 Fi g h (rmL p L).length (lk (rmL p L)) s') ∧ Upd Fi w x2) := by
      rw [rm_none HK.out]
      exact ⟨⟨s, HR1.out.drew_.below HX2.out⟩, ((Upd.of_below HBA.out).mono_ge (Nat.le_refl _)).drew.trans ((Upd.of_below HX2.out).mono_ge (Nat.le_refl _))⟩
    obtain ⟨⟨s2, hR2⟩, hu2⟩ := HX.out
    have HR2 := Lib.hid hR2
    have HU2 := Lib.hid hu2
    clear hR2 hu2 hge
    have hge : x2.cell? ⟨gb, 0, none⟩ = some (.pointer (some ⟨g, 0, none⟩)) := HB2.out.cell 0
    go_wp2_with fail
    go_region_held3 (fun w' => w'.cell? ⟨gb, 0, none⟩ = some (.pointer (some ⟨g, 0, none⟩))) (first | go_keep | (exact E2.out))
      (first | (go_at_call 28; refine (place_any kind id _ HM.out.1 HM.out.2).mono ?_; rintro r x3 ⟨rfl, rfl⟩; rw [show (kind * 16 + id).toNat = p from HP.out.2.1])
             | (go_at_call 29; refine (put_rk HR2.out.drew_ p at_ HP.out.1 (by have := HP.out.2.2; omega) (rm_gone L p)).mono ?_; rintro r x4 ⟨rfl, hs, hu⟩
                have HB4 := Lib.hid (HB2.out.drew.upd hu HF.out.2.1)
                have E2 : Hid (x4.cell? ⟨gb, 0, none⟩ = some (.pointer (some ⟨g, 0, none⟩))) := HB4.out.cell 0
                have HX4 := Lib.hid (And.intro hs (HU2.out.drew.trans hu))
                clear hs hu))
    go_wp2_with fail
    go_ret
    obtain ⟨⟨s5, h5⟩, hu5⟩ := HX4.out
    have h6 : RkJ x4 (growR Fi w x4) g h ((rmL p L).length + 1) (fun z => if z = p then some at_ else lk (rmL p L) z) s5 := h5.mono fun k hk => by
      rcases hk with hk | hk
      · exact Or.inl hk
      · exact Or.inr ⟨Nat.le_trans HU2.out.size hk.1, hk.2⟩
    obtain ⟨k1, k2⟩ := bl_step HB.out HF.out.1 HF.out.2.1 HF.out.2.2 HJ.out.lt HJ.out.fb hu5 h6 (ins_len (p, at_) (rmL p L)).symm (ins_lk (p := (p, at_)) (rm_gone L p)).symm (ins_ok (rm_ok HJ.out.ok p) HP.out.1 (rm_gone L p))
    exact ⟨rfl, k1, k2⟩
  | some k =>
    have HK := Lib.hid hk
    have hln := rm_len HJ.out.ok hk
    rw [← hln] at HR1
    have HLN : Hid ((rmL p L).length < 64) := (by have := HP.out.2.2; omega : (rmL p L).length < 64)
    clear hk
    go_region_held3 (fun w' => w'.cell? ⟨gb, 0, none⟩ = some (.pointer (some ⟨g, 0, none⟩))) (first | go_keep | (exact E1.out))
      (first | (go_at_call 28; refine (place_any kind id _ HM.out.1 HM.out.2).mono ?_; rintro r x1 ⟨rfl, rfl⟩; rw [show (kind * 16 + id).toNat = p from HP.out.2.1])
             | (go_at_call 27; refine (remove_yes HR1.out.drew_ p HP.out.1 HLN.out HK.out).mono ?_; rintro r x2 ⟨rfl, hs, hu⟩
                have HB2 := Lib.hid (HB1.out.drew.upd hu HF.out.2.1)
                have E1 : Hid (x2.cell? ⟨gb, 0, none⟩ = some (.pointer (some ⟨g, 0, none⟩))) := HB2.out.cell 0
                rw [← rm_lk] at hs
                have HX : Hid ((∃ s', RkJ x2 Fi g h (rmL p L).length (lk (rmL p L)) s') ∧ Upd Fi w x2) := ⟨hs, ((Upd.of_below HBA.out).mono_ge (Nat.le_refl _)).drew.trans hu⟩
                clear hs hu))
    obtain ⟨⟨s2, hR2⟩, hu2⟩ := HX.out
    have HR2 := Lib.hid hR2
    have HU2 := Lib.hid hu2
    clear hR2 hu2 hge
    have hge : x2.cell? ⟨gb, 0, none⟩ = some (.pointer (some ⟨g, 0, none⟩)) := HB2.out.cell 0
    go_wp2_with fail
    go_region_held3 (fun w' => w'.cell? ⟨gb, 0, none⟩ = some (.pointer (some ⟨g, 0, none⟩))) (first | go_keep | (exact E2.out))
      (first | (go_at_call 28; refine (place_any kind id _ HM.out.1 HM.out.2).mono ?_; rintro r x3 ⟨rfl, rfl⟩; rw [show (kind * 16 + id).toNat = p from HP.out.2.1])
             | (go_at_call 29; refine (put_rk HR2.out.drew_ p at_ HP.out.1 (by have := HP.out.2.2; omega) (rm_gone L p)).mono ?_; rintro r x4 ⟨rfl, hs, hu⟩
                have HB4 := Lib.hid (HB2.out.drew.upd hu HF.out.2.1)
                have E2 : Hid (x4.cell? ⟨gb, 0, none⟩ = some (.pointer (some ⟨g, 0, none⟩))) := HB4.out.cell 0
                have HX4 := Lib.hid (And.intro hs (HU2.out.drew.trans hu))
                clear hs hu))
    go_wp2_with fail
    go_ret
    obtain ⟨⟨s5, h5⟩, hu5⟩ := HX4.out
    have h6 : RkJ x4 (growR Fi w x4) g h ((rmL p L).length + 1) (fun z => if z = p then some at_ else lk (rmL p L) z) s5 := h5.mono fun k hk => by
      rcases hk with hk | hk
      · exact Or.inl hk
      · exact Or.inr ⟨Nat.le_trans HU2.out.size hk.1, hk.2⟩
    obtain ⟨k1, k2⟩ := bl_step HB.out HF.out.1 HF.out.2.1 HF.out.2.2 HJ.out.lt HJ.out.fb hu5 h6 (ins_len (p, at_) (rmL p L)).symm (ins_lk (p := (p, at_)) (rm_gone L p)).symm (ins_ok (rm_ok HJ.out.ok p) HP.out.1 (rm_gone L p))
    exact ⟨rfl, k1, k2⟩

set_option maxRecDepth 100000 in
set_option maxHeartbeats 4000000 in
theorem arm_no {w : World} {F : Nat → Prop} {gb : Nat} {L : BL} (hj : BlJ w F gb L) (kind id at_ : Int) (hm : ¬ (MayB kind id ∧ TkB at_)) :
    Calls Try.prog 10 #[.pointer (some ⟨gb, 0, none⟩), .int .i64 kind, .int .i64 id, .int .i64 at_] w fun r w' => r = .returned (.int .i64 (armE kind id at_)) ∧ Below w.heap.size w w' := by
  have HJ := Lib.hid hj
  clear hj
  by_cases h1 : MayB kind id
  · have h2 : ¬ TkB at_ := fun h => hm ⟨h1, h⟩
    have he : armE kind id at_ = 2 := by unfold armE; rw [if_pos h1, if_neg h2]
    rw [he]
    have HD := Lib.hid (decide_eq_true h1)
    have HT := Lib.hid (decide_eq_false h2)
    clear h1 h2 he hm
    go_enter Try.func10, Try.ntmps10
    go_wp2_with (first
      | (go_at_call 24; refine (bnone_any HJ.out).mono ?_; rintro r w1 ⟨rfl, rfl⟩)
      | (go_at_call 25; refine (may_any kind id _).mono ?_; rintro r w1 ⟨rfl, hb⟩; rw [HD.out]; have HW1 := Lib.hid hb; clear hb)
      | (go_at_call 26; refine (within_any 1099511627776 at_ (by simp)).mono ?_; rintro r w2 ⟨rfl, rfl⟩; rw [show decide (0 ≤ at_ ∧ at_ ≤ 1099511627776) = false from HT.out]))
    go_ret
    exact ⟨rfl, HW1.out.alloc HW1.out.size _⟩
  · have he : armE kind id at_ = 9 := by unfold armE; rw [if_neg h1]
    rw [he]
    have HD := Lib.hid (decide_eq_false h1)
    clear h1 he hm
    go_enter Try.func10, Try.ntmps10
    go_wp2_with (first
      | (go_at_call 24; refine (bnone_any HJ.out).mono ?_; rintro r w1 ⟨rfl, rfl⟩)
      | (go_at_call 25; refine (may_any kind id _).mono ?_; rintro r w1 ⟨rfl, hb⟩; rw [HD.out]; have HW1 := Lib.hid hb; clear hb))
    go_ret
    exact ⟨rfl, HW1.out⟩
theorem BlJ.grow {w : World} {F F' : Nat → Prop} {gb : Nat} {L : BL} (hj : BlJ w F gb L) (h1 : ∀ k, F k → F' k) (h2 : ∀ k, F' k → k < w.heap.size) : BlJ w F' gb L := by
  obtain ⟨Fi, g, h, s, k1, k2, k3, k4, k5⟩ := hj.ex
  exact ⟨⟨Fi, g, h, s, k1, k2, fun k hk => h1 _ (k3 k hk), k4, h1 _ k5⟩, hj.ok, h2, h1 _ hj.fb⟩
theorem BlJ.keepG {w w' : World} {F : Nat → Prop} {gb : Nat} {L : BL} (hj : BlJ w F gb L) (hb : Below w.heap.size w w') : BlJ w' (growR F w w') gb L ∧ Upd F w w' :=
  ⟨(hj.keep hb).grow (fun k hk => Or.inl hk) (fun k hk => by
    rcases hk with hk | hk
    · exact Nat.lt_of_lt_of_le (hj.lt k hk) hb.size
    · exact hk.2), (Upd.of_below hb).mono_ge (Nat.le_refl _)⟩
theorem arm_any {w : World} {F : Nat → Prop} {gb : Nat} {L : BL} (hj : BlJ w F gb L) (kind id at_ : Int) :
    Calls Try.prog 10 #[.pointer (some ⟨gb, 0, none⟩), .int .i64 kind, .int .i64 id, .int .i64 at_] w fun r w' => r = .returned (.int .i64 (armE kind id at_)) ∧ BlJ w' (growR F w w') gb (armL L kind id at_) ∧ Upd F w w' := by
  by_cases h : MayB kind id ∧ TkB at_
  · have e1 : armE kind id at_ = 0 := by unfold armE; rw [if_pos h.1, if_pos h.2]
    have e2 : armL L kind id at_ = insL (plB kind id, at_) (rmL (plB kind id) L) := by unfold armL; rw [if_pos h]
    rw [e1, e2]
    exact arm_yes hj kind id at_ h.1 h.2
  · have e2 : armL L kind id at_ = L := by unfold armL; rw [if_neg h]
    rw [e2]
    refine (arm_no hj kind id at_ h).mono ?_
    rintro r w' ⟨rfl, hb⟩
    exact ⟨rfl, hj.keepG hb⟩
end Go.Proofs.Ytbfbahedbfjcoaa
