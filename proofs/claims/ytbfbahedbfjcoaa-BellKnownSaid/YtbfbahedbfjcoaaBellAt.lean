/- The walk of At; Cancel of whatever bell. -/
import Derived.Test.YtbfbahedbfjcoaaCanNo
namespace Go.Proofs.Ytbfbahedbfjcoaa
set_option linter.all false
open Go.RowKit
attribute [local go_sem ↓] Go.wp_at_zero Go.wp_at_succ

def atK (L : BL) (kind id : Int) : Int := if MayB kind id then (lk L (plB kind id)).getD 0 else 0
theorem cancel_any {w : World} {F : Nat → Prop} {gb : Nat} {L : BL} (hj : BlJ w F gb L) (kind id : Int) :
    Calls Try.prog 11 #[.pointer (some ⟨gb, 0, none⟩), .int .i64 kind, .int .i64 id] w fun r w' => r = .returned (.bool (canE L kind id)) ∧ BlJ w' F gb (canL L kind id) ∧ Upd F w w' := by
  by_cases hm : MayB kind id
  · exact cancel_may hj kind id hm
  · have e1 : canE L kind id = false := by unfold canE; rw [decide_eq_false hm]; rfl
    have e2 : canL L kind id = L := by unfold canL; rw [if_neg hm]
    rw [e1, e2]
    refine (cancel_no hj kind id hm).mono ?_
    rintro r w' ⟨rfl, hb⟩
    exact ⟨rfl, hj.keep hb, (Upd.of_below hb).mono_ge (Nat.le_refl _)⟩

theorem key_rk {w : World} {F : Nat → Prop} {g h n : Nat} {M : Nat → Option Int} {s : HS} (h1 : RkJ w F g h n M s) (id : Nat) (hid : id < 64) (hn : n ≤ 64) :
    Calls Try.prog 36 #[.pointer (some ⟨g, 0, none⟩), .int .i64 id] w fun r w' => r = .returned (.tuple #[.int .i64 ((M id).getD 0), .bool (M id).isSome]) ∧ Below w.heap.size w w' := by
  cases hM : M id with
  | none => exact key_no h1 id hid hn hM
  | some k => exact key_yes h1 id hid hn hM
set_option maxRecDepth 100000 in
set_option maxHeartbeats 4000000 in
theorem at_bell {w : World} {F : Nat → Prop} {gb : Nat} {L : BL} (hj : BlJ w F gb L) (kind id : Int) :
    Calls Try.prog 19 #[.pointer (some ⟨gb, 0, none⟩), .int .i64 kind, .int .i64 id] w fun r w' => r = .returned (.tuple #[.int .i64 (atK L kind id), .bool (canE L kind id)]) ∧ Below w.heap.size w w' := by
  obtain ⟨Fi, g, h, s, h1, h2, h3, h4, h5⟩ := hj.ex
  have hlen := ok_len hj.ok
  have HJ := Lib.hid hj
  have HB := Lib.hid h1
  have HR := Lib.hid h2
  have HL := Lib.hid hlen
  clear hj h1 h2 h3 h4 h5 hlen
  by_cases hm : MayB kind id
  · have e2 : atK L kind id = (lk L (plB kind id)).getD 0 := by unfold atK; rw [if_pos hm]
    have e1 : canE L kind id = (lk L (plB kind id)).isSome := by unfold canE; rw [decide_eq_true hm]; rfl
    rw [e1, e2]
    have hp := plB_lt hm
    obtain ⟨p, hpe⟩ : ∃ p, plB kind id = p := ⟨_, rfl⟩
    rw [hpe] at hp ⊢
    have HP := Lib.hid (And.intro hp hpe)
    have HD := Lib.hid (decide_eq_true hm)
    have HM := Lib.hid hm
    have HK := Lib.hid (fun (w' : World) (hb : Below w.heap.size w w') => key_rk (HR.out.below hb) p hp HL.out)
    obtain ⟨q, hq⟩ : ∃ q, (lk L p).getD 0 = q := ⟨_, rfl⟩
    obtain ⟨qb, hqb⟩ : ∃ q, (lk L p).isSome = q := ⟨_, rfl⟩
    rw [hq, hqb] at HK ⊢
    clear e1 e2 hm hp hpe hq hqb
    go_enter Try.func19, Try.ntmps19
    go_wp2_with (first
      | (go_at_call 24; refine (bnone_any HJ.out).mono ?_; rintro r x1 ⟨rfl, rfl⟩)
      | (go_at_call 25; refine (may_any kind id _).mono ?_; rintro r x2 ⟨rfl, hb⟩; rw [HD.out]
         have HX2 := Lib.hid hb
         clear hb))
    have hge : x2.cell? ⟨gb, 0, none⟩ = some (.pointer (some ⟨g, 0, none⟩)) := (HB.out.below HX2.out HB.out.lt).cell 0
    go_region_held3 (fun w' => w'.cell? ⟨gb, 0, none⟩ = some (.pointer (some ⟨g, 0, none⟩))) (first | go_keep | (exact E2.out))
      (first | (go_at_call 28; refine (place_any kind id _ HM.out.1 HM.out.2).mono ?_; rintro r x3 ⟨rfl, rfl⟩; rw [show (kind * 16 + id).toNat = p from HP.out.2])
             | (go_at_call 36; refine (HK.out _ HX2.out.drew).mono ?_; rintro r x4 ⟨rfl, hb⟩
                have HX4 := Lib.hid (HX2.out.drew.trans (hb.mono HX2.out.size))
                have E2 : Hid (x4.cell? ⟨gb, 0, none⟩ = some (.pointer (some ⟨g, 0, none⟩))) := (HB.out.below HX4.out HB.out.lt).cell 0
                clear hb))
    go_wp2_with fail
    go_ret2
    exact ⟨rfl, HX4.out⟩
  · have e2 : atK L kind id = 0 := by unfold atK; rw [if_neg hm]
    have e1 : canE L kind id = false := by unfold canE; rw [decide_eq_false hm]; rfl
    rw [e1, e2]
    have HD := Lib.hid (decide_eq_false hm)
    clear e1 e2 hm
    go_enter Try.func19, Try.ntmps19
    go_wp2_with (first
      | (go_at_call 24; refine (bnone_any HJ.out).mono ?_; rintro r x1 ⟨rfl, rfl⟩)
      | (go_at_call 25; refine (may_any kind id _).mono ?_; rintro r x2 ⟨rfl, hb⟩; rw [HD.out]
         have HX2 := Lib.hid hb
         clear hb))
    go_ret2
    exact ⟨rfl, HX2.out⟩

theorem bcancel2 {w0 w : World} {X : Nat → Prop} {gb : Nat} {L : BL} (h : BJ w0 w X gb L) (kind id : Int) :
    Calls Try.prog 11 #[.pointer (some ⟨gb, 0, none⟩), .int .i64 kind, .int .i64 id] w fun r w' => r = .returned (.bool (canE L kind id)) ∧ BJ w0 w' X gb (canL L kind id) ∧ Kp w w' X := by
  obtain ⟨F, h1, h2⟩ := h.j
  refine (cancel_any h1 kind id).mono ?_
  rintro r w' ⟨rfl, hj, hu⟩
  exact ⟨rfl, ⟨⟨F, hj, h2⟩, h.b.trans (hu.below h.b.size fun k hk => (h2 k hk).1)⟩, upd_kp hu fun k hk => (h2 k hk).2⟩
theorem bat {w0 w : World} {X : Nat → Prop} {gb : Nat} {L : BL} (h : BJ w0 w X gb L) (kind id : Int) :
    Calls Try.prog 19 #[.pointer (some ⟨gb, 0, none⟩), .int .i64 kind, .int .i64 id] w fun r w' => r = .returned (.tuple #[.int .i64 (atK L kind id), .bool (canE L kind id)]) ∧ BJ w0 w' X gb L ∧ Below w.heap.size w w' := by
  obtain ⟨F, h1, h2⟩ := h.j
  refine (at_bell h1 kind id).mono ?_
  rintro r w' ⟨rfl, hb⟩
  exact ⟨rfl, h.keep hb, hb⟩
end Go.Proofs.Ytbfbahedbfjcoaa
