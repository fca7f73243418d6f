/- PursePlays: the walk of the law: both stand alike in every round. -/
import Derived.Test.YtogdpkeojccpcaaPurseLaw
import Derived.Test.YtogdpkeojccpcaaBring
namespace Go.Proofs.Ytogdpkeojccpcaa
set_option linter.all false
open Go.RowKit
attribute [local go_sem ↓] Go.wp_at_zero Go.wp_at_succ

theorem new3 (a0 a1 : Int) : newE a0 a1 3 = 0 ∨ newE a0 a1 3 = 2 := by
  unfold newE
  split
  · left; rfl
  · right; rfl

set_option maxRecDepth 100000 in
set_option maxHeartbeats 8000000 in
theorem pursePlays_core (w : World) (a0 : Int) (h0 : -9223372036854775808 ≤ a0 ∧ a0 ≤ 9223372036854775807) (a1 : Int) (h1 : -9223372036854775808 ≤ a1 ∧ a1 ≤ 9223372036854775807) (A2 : Option Addr) (n2 c2 : Nat) (Z2 : Nat → Nat → Value) (m2 : n2 ≤ maxLen) (r2 : Rd w A2 n2 [.int .i64, .int .i64, .int .i64] Z2) :
    Calls Try.prog 8 #[.int .i64 a0, .int .i64 a1, .slice A2 n2 c2] w (Holds w) := by
  have hm : (n2 : Int) ≤ 9223372036854775807 := by simp [maxLen] at m2; omega
  have hn0 : (0 : Int) ≤ n2 := by omega
  have R2 := Lib.hid r2
  clear r2 m2
  rcases new3 a0 a1 with he | he
  · have HE := Lib.hid he
    have HO := Lib.hid (POk.new he)
    clear he
    go_enter Try.func8, Try.ntmps8
    go_wp2_with (first
      | (go_at_call 27; refine (new_any _ _ _ _ h0 ⟨by decide, by decide⟩).mono ?_; rintro r x1 ⟨a, rfl, hb, -, hq⟩; obtain ⟨g, hg, rfl, hp⟩ := hq HE.out; rw [HE.out]; have HG := Lib.hid (And.intro hg (And.intro hp hb)); clear hg hp hb hq)
      | (go_at_call 35; refine (rnew_any _ _ _ _ h0 ⟨by decide, by decide⟩).mono ?_; rintro r x2 ⟨a, rfl, hb, -, hq⟩; obtain ⟨g', hg, rfl, hp⟩ := hq HE.out; rw [HE.out]
         have HJ0 : Hid (PJ w x2 g g' (newS a0 a1 3) 0) := ⟨HG.out.2.1.below hb, hp, HO.out.mono (by decide) (by decide), HG.out.2.2.trans (hb.mono HG.out.2.2.size), HG.out.1, Nat.le_trans HG.out.2.2.size hg⟩
         clear hg hp hb hq))
    clear HG HO HE
    go_loopw [11] (fun i wr => ∃ (k : Nat) (s : PS), k ≤ n2 ∧ k ≤ 100 ∧ i = .int .i64 k ∧ Hid (PJ w wr g g' s k)) (fun i _ => 100 - (intOf i).toNat)
    case atStart => exact ⟨0, _, by omega, by omega, rfl, HJ0.out⟩
    case round =>
      obtain ⟨k, s, hk, hk2, rfl, HJ⟩ := hrel
      clear HJ0
      by_cases hc : k < n2 ∧ k < 100
      · obtain ⟨b, off, rfl, hlt, hz⟩ := R2.out k hc.1
        obtain ⟨hz0, z0, e0, w0⟩ := hz 0 _ rfl
        obtain ⟨hz1, z1, e1, w1⟩ := hz 1 _ rfl
        obtain ⟨hz2, z2, e2, w2⟩ := hz 2 _ rfl
        rw [e0] at hz0
        rw [e1] at hz1
        rw [e2] at hz2
        rw [← HJ.out.b.cell (p := ⟨b, _, none⟩) hlt] at hz0 hz1 hz2
        simp [← Nat.add_assoc] at hz0 hz1 hz2
        have hk1 := hc.1
        have hk3 := hc.2
        have q5 := Int.emod_nonneg z0 (b := 5) (by decide)
        have q6 := Int.emod_lt_of_pos z0 (b := 5) (by decide)
        have b1 := wf_bounds w1
        have b2 := wf_bounds w2
        have HD0 := Lib.hid (Blk.new wr 56 #[.int .i64 z0, .int .i64 z1, .int .i64 z2])
        have HJ1 := Lib.hid (HJ.out.alloc (.cells #[.int .i64 z0, .int .i64 z1, .int .i64 z2] 56))
        have HJ := Lib.hid HJ1.out.more
        have hcE : ∃ np, (wr.alloc (.cells #[.int .i64 z0, .int .i64 z1, .int .i64 z2] 56)).cell? ⟨g', 3, none⟩ = some (.int .i64 np) ∧ np = s.e := by
          obtain ⟨np, nb, hb, _⟩ := HJ1.out.r
          exact ⟨_, by simpa using hb.cell 3, rfl⟩
        obtain ⟨ee, hcE, hee⟩ := hcE
        have HEE := Lib.hid hee
        clear hz e0 e1 e2 w1 w2 hee
        have hkk : (k : Int) < 100 := by omega
        go_wp2_with (first
          | (go_at_call 22; refine (bring_any _ _ _ (wf_bounds w0) (by omega)).mono ?_; rintro r x3 ⟨rfl, -, rfl⟩)
          | (go_at_call 31; refine (charge_any HJ1.out.p HJ1.out.pp HJ1.out.o.l).mono ?_; rintro r x3 ⟨rfl, hp, hu⟩; have HM := Lib.hid (HJ1.out.mid1 hp hu); clear hp hu)
          | (go_at_call 36; refine (rcharge_any HM.out.r HJ1.out.o.l).mono ?_; rintro r x4 ⟨rfl, hp, hu⟩; have HJ := Lib.hid (HM.out.fin (k := k + 1) hp hu (HJ1.out.o.charge.mono (by omega) (by omega))); clear hp hu HM)
          | (go_at_call 28; refine (turn_any _ HJ1.out.p HJ1.out.o (by omega) (by omega)).mono ?_; rintro r x3 ⟨rfl, hp, hu⟩; have HM := Lib.hid (HJ1.out.mid1 hp hu); clear hp hu)
          | (go_at_call 37; refine (rturn_any _ HM.out.r HJ1.out.o (by omega) (by omega)).mono ?_; rintro r x4 ⟨rfl, hp, hu⟩; have HJ := Lib.hid (HM.out.fin (k := k + 1) hp hu ((HJ1.out.o.turn _).mono (by omega) (by omega))); clear hp hu HM)
          | (go_at_call 39; refine (leave_any HJ1.out.p HJ1.out.pp).mono ?_; rintro r x3 ⟨rfl, hp, hu⟩; have HM := Lib.hid (HJ1.out.mid1 hp hu); clear hp hu)
          | (go_at_call 40; refine (rleave_any HM.out.r).mono ?_; rintro r x4 ⟨rfl, hp, hu⟩; have HJ := Lib.hid (HM.out.fin (k := k + 1) hp hu (HJ1.out.o.leave.mono (by omega) (by omega))); clear hp hu HM)
          | (go_at_call 41; refine (same_any HJ.out.p HJ.out.r HJ.out.pp).mono ?_; rintro r x5 ⟨rfl, hb⟩; have HJ := Lib.hid (HJ.out.below hb); clear hb))
        all_goals try (exact ⟨⟨k + 1, _, by omega, by omega, by go_num, HJ.out⟩, by simp [intOf]; omega⟩)
        go_region_held3 (fun w' => w'.cell? ⟨wr.heap.size, 1, none⟩ = some (.int .i64 z1) ∧ w'.cell? ⟨wr.heap.size, 2, none⟩ = some (.int .i64 z2)) (first | go_keep | (exact ⟨by simpa using HD.out.cell 1, by simpa using HD.out.cell 2⟩))
          (first
            | (go_at_call 30; refine (change_any z1 z2 (by exact HJ1.out.p.drewN 0) HJ1.out.pp).mono ?_; rintro r x3 ⟨rfl, hp, hu⟩; have HM := Lib.hid (HJ1.out.drew.mid hp hu); have HD := Lib.hid (HD0.out.drew.upd hu (fun e => by rcases e with e | e; exact (HD0.out.ne_ HJ1.out.p.choose_spec.1 (by decide)) e; simp at e; omega)); clear hp hu)
            | (go_at_call 38; refine (rchange_any z1 z2 HM.out.r).mono ?_; rintro r x4 ⟨rfl, hp, hu⟩; have HJ := Lib.hid (HM.out.fin (k := k + 1) hp hu ((HJ1.out.o.change z1 z2).mono (by omega) (by omega))); have HD := Lib.hid (HD.out.upd hu (fun e => by obtain ⟨np, nb, hr, _⟩ := HM.out.r; exact (HD.out.ne_ hr (by decide)) e)); clear hp hu HM))
        all_goals
          have hcE : True := trivial
          go_wp2_with (go_at_call 41; refine (same_any HJ.out.p HJ.out.r HJ.out.pp).mono ?_; rintro r x5 ⟨rfl, hb⟩; have HJ := Lib.hid (HJ.out.below hb); clear hb)
          exact ⟨⟨k + 1, _, by omega, by omega, by go_num, HJ.out⟩, by simp [intOf]; omega⟩
      · have HB := Lib.hid HJ.out.b
        by_cases hk1 : k < n2
        · have hk3 : ¬ (k : Int) < 100 := by omega
          go_wp2_with (go_at_call 26; refine (purse_works _).mono ?_; rintro r x1 ⟨rfl, hx⟩)
          go_ret
          exact ⟨rfl, HB.out.trans (hx.mono HB.out.size)⟩
        · go_wp2_with (go_at_call 26; refine (purse_works _).mono ?_; rintro r x1 ⟨rfl, hx⟩)
          go_ret
          exact ⟨rfl, HB.out.trans (hx.mono HB.out.size)⟩
  · have HE := Lib.hid he
    clear he
    go_enter Try.func8, Try.ntmps8
    go_wp2_with (first
      | (go_at_call 27; refine (new_any _ _ _ _ h0 ⟨by decide, by decide⟩).mono ?_; rintro r x1 ⟨a, rfl, hb, hq, -⟩; obtain rfl := hq (by rw [HE.out]; decide); rw [HE.out]; have HG := Lib.hid hb; clear hb hq)
      | (go_at_call 35; refine (rnew_any _ _ _ _ h0 ⟨by decide, by decide⟩).mono ?_; rintro r x2 ⟨a, rfl, hb, hq, -⟩; obtain rfl := hq (by rw [HE.out]; decide); rw [HE.out]; have HG := Lib.hid (HG.out.trans (hb.mono HG.out.size)); clear hb hq))
    go_loopw [11] (fun i wr => ∃ (k : Nat), k = 0 ∧ i = .int .i64 k ∧ Hid (Below w.heap.size w wr)) (fun i _ => 100 - (intOf i).toNat)
    case atStart => exact ⟨0, rfl, rfl, HG.out⟩
    case round =>
      obtain ⟨k, hk, rfl, HB⟩ := hrel
      clear HG
      subst hk
      by_cases hk1 : 0 < n2
      · go_wp2_with (go_at_call 26; refine (purse_works _).mono ?_; rintro r x1 ⟨rfl, hx⟩)
        go_ret
        exact ⟨rfl, HB.out.trans (hx.mono HB.out.size)⟩
      · go_wp2_with (go_at_call 26; refine (purse_works _).mono ?_; rintro r x1 ⟨rfl, hx⟩)
        go_ret
        exact ⟨rfl, HB.out.trans (hx.mono HB.out.size)⟩
end Go.Proofs.Ytogdpkeojccpcaa
