/- BellPlays: the walk of the law. -/
import Derived.Test.YtbfbahedbfjcoaaBelStep2
namespace Go.Proofs.Ytbfbahedbfjcoaa
set_option linter.all false
open Go.RowKit
attribute [local go_sem ↓] Go.wp_at_zero Go.wp_at_succ

theorem pd_new {w x x2 : World} {gb gm : Nat} (hX : ∀ X : Nat → Prop, (∀ k, X k → x.heap.size ≤ k) → BJ w x X gb []) (hs : w.heap.size ≤ x.heap.size) (hj : RbJ x2 (fun k => x.heap.size ≤ k ∧ k < x2.heap.size) gm []) (hb : Below x.heap.size x x2) : PD w x2 gb gm [] [] NoX :=
  ⟨⟨_, (hX (fun k => (x.heap.size ≤ k ∧ k < x2.heap.size) ∨ NoX k) (fun k hk => hk.elim (fun h => h.1) (fun h => h.elim))).keep hb, hj, fun k hk => ⟨Nat.le_trans hs hk.1, fun h => h⟩⟩, fun k hk => hk.elim⟩

set_option maxRecDepth 100000 in
set_option maxHeartbeats 8000000 in
theorem bellPlays_core (w : World) (A0 : Option Addr) (n0 c0 : Nat) (Z0 : Nat → Nat → Value) (m0 : n0 ≤ maxLen) (r0 : Rd w A0 n0 [.int .i64, .int .i64, .int .i64, .int .i64] Z0) :
    Calls Try.prog 5 #[.slice A0 n0 c0] w (Holds w) := by
  have HR := Lib.hid r0
  obtain ⟨K, hK⟩ : ∃ K, min n0 300 = K := ⟨_, rfl⟩
  have HK := Lib.hid hK
  clear m0 r0 hK
  go_enter Try.func5, Try.ntmps5
  go_wp2_with (first
    | (go_at_call 8; refine (bnew w w (Below.refl _ _)).mono ?_; rintro r x1 ⟨⟨gb, rfl, -, hX⟩, hb⟩; have HX1 := Lib.hid (And.intro hX hb.size); clear hX hb)
    | (go_at_call 16; refine (rbnew _).mono ?_; rintro r x2 ⟨⟨gm, rfl, hj⟩, hb⟩; have HJ := Lib.hid (pd_new HX1.out.1 HX1.out.2 hj hb); clear hj hb))
  go_loopw [5] (fun vi wr => ∃ (i : Nat) (L : BL), i ≤ K ∧ vi = .int .i64 (i : Int) ∧ Hid (PD w wr gb gm L L NoX)) (fun vi _ => K - (intOf vi).toNat)
  case atStart => exact ⟨0, [], by omega, rfl, HJ.out⟩
  case round =>
    obtain ⟨i, L, hi, rfl, HI⟩ := hrel
    clear HJ HX1
    by_cases hiK : i < K
    · have hin : i < n0 ∧ i < 300 := by have := HK.out; omega
      have hx0 : (0 : Int) ≤ i := by omega
      have hx1 : (i : Int) < n0 := by omega
      have hx2 : (i : Int) < 300 := by omega
      have w1 : IntKind.i64.wrap ((i : Int) + 1) = (i : Int) + 1 := IntWalk.i64_in _ (by omega)
      obtain ⟨gl, off, rfl, hlt, hcell⟩ := HR.out i hin.1
      obtain ⟨e0, a, ha, haw⟩ := hcell 0 _ rfl
      obtain ⟨e1, b, hb, hbw⟩ := hcell 1 _ rfl
      obtain ⟨e2, c, hc, hcw⟩ := hcell 2 _ rfl
      obtain ⟨e3, d, hd, hdw⟩ := hcell 3 _ rfl
      rw [ha] at e0
      rw [hb] at e1
      rw [hc] at e2
      rw [hd] at e3
      have hce : ∀ y : World, Below w.heap.size w y → y.cell? ⟨gl, off + i * 4, none⟩ = some (.int .i64 a) ∧ y.cell? ⟨gl, off + i * 4 + 1, none⟩ = some (.int .i64 b) ∧ y.cell? ⟨gl, off + i * 4 + 2, none⟩ = some (.int .i64 c) ∧ y.cell? ⟨gl, off + i * 4 + 3, none⟩ = some (.int .i64 d) := fun y hy => by
        rw [← hy.cell (p := ⟨gl, _, none⟩) hlt] at e0 e1 e2 e3
        simp [← Nat.add_assoc] at e0 e1 e2 e3
        exact ⟨e0, e1, e2, e3⟩
      have HCE := Lib.hid hce
      have HW := Lib.hid (wf_bounds haw)
      clear ha haw hb hbw hc hcw hd hdw hcell hlt e0 e1 e2 e3 hce
      obtain ⟨y0, y1, y2, y3⟩ := HCE.out _ HI.out.b
      have HS := Lib.hid (bstep_any HI.out a b c d HW.out)
      obtain ⟨L', hL'⟩ : ∃ L', stepL a b c d L = L' := ⟨_, rfl⟩
      rw [hL'] at HS
      clear hL'
      obtain ⟨n, hn⟩ : ∃ n : Nat, L'.length = n := ⟨_, rfl⟩
      obtain ⟨ka, hka⟩ : ∃ k, atK L' b c = k := ⟨_, rfl⟩
      obtain ⟨kb, hkb⟩ : ∃ k, canE L' b c = k := ⟨_, rfl⟩
      have HN := Lib.hid (And.intro hn (And.intro hka hkb))
      clear hn hka hkb
      go_wp2_with (first
        | (go_at_call 17; refine HS.out.mono ?_; rintro r x3 ⟨rfl, hj⟩; have HJ3 := Lib.hid hj; clear hj y0 y1 y2 y3)
        | (go_at_call 14; refine (pd_count_p HJ3.out).mono ?_; rintro r x4 ⟨rfl, rfl⟩; rw [HN.out.1])
        | (go_at_call 18; refine (pd_count_r HJ3.out).mono ?_; rintro r x4 ⟨rfl, rfl⟩; rw [HN.out.1]))
      obtain ⟨y0, y1, y2, y3⟩ := HCE.out _ HJ3.out.b
      go_region_held3 (fun w' => w'.cell? ⟨gl, off + i * 4 + 1, none⟩ = some (.int .i64 b) ∧ w'.cell? ⟨gl, off + i * 4 + 2, none⟩ = some (.int .i64 c)) (first | go_keep | (exact E1.out))
        (first
          | (go_at_call 19; refine (pd_at_p HJ3.out.drew b c).mono ?_; rintro r x5 ⟨rfl, hj, -⟩; rw [HN.out.2.1, HN.out.2.2]
             have HJ5 := Lib.hid hj
             have E1 : Hid (x5.cell? ⟨gl, off + i * 4 + 1, none⟩ = some (.int .i64 b) ∧ x5.cell? ⟨gl, off + i * 4 + 2, none⟩ = some (.int .i64 c)) := ⟨(HCE.out _ hj.b).2.1, (HCE.out _ hj.b).2.2.1⟩
             clear hj))
      go_wp2_with fail
      clear y0 y1 y2 y3
      obtain ⟨y0, y1, y2, y3⟩ := HCE.out _ HJ5.out.b
      go_region_held3 (fun w' => w'.cell? ⟨gl, off + i * 4 + 1, none⟩ = some (.int .i64 b) ∧ w'.cell? ⟨gl, off + i * 4 + 2, none⟩ = some (.int .i64 c)) (first | go_keep | (exact E1.out))
        (first
          | (go_at_call 20; refine (pd_at_r HJ5.out.drew b c).mono ?_; rintro r x6 ⟨rfl, rfl⟩; rw [HN.out.2.1, HN.out.2.2]))
      go_wp2_with fail
      exact ⟨⟨i + 1, L', by omega, by go_num, HJ5.out.drew⟩, by simp [intOf]; try omega⟩
    · obtain rfl : i = K := by omega
      have hend : ¬ ((i : Int) < n0 ∧ (i : Int) < 300) := by have := HK.out; omega
      have hlen : (dueL 1099511627776 L).length ≤ 64 := by
        have h1 := congrArg List.length (due_rest 1099511627776 L)
        rw [List.length_append] at h1
        have := ok_len HI.out.okL
        omega
      obtain ⟨D, hD⟩ : ∃ D, dueL 1099511627776 L = D := ⟨_, rfl⟩
      obtain ⟨n, hn⟩ : ∃ n, D.length = n := ⟨_, rfl⟩
      rw [hD, hn] at hlen
      have HDN := Lib.hid (And.intro hD (And.intro hn hlen))
      clear hD hn hlen
      have hp := pd_due_p HI.out 1099511627776
      rw [HDN.out.1, HDN.out.2.1] at hp
      have hr : ∀ (y : World) (Z : Nat → Prop), PD w y gb gm (restL 1099511627776 L) L Z → Calls Try.prog 22 #[.pointer (some ⟨gm, 0, none⟩), .int .i64 1099511627776] y fun r x' => (∃ A c, r = .returned (.slice A n c) ∧ x'.ownsRow y.heap.size 36 3 (.slice A n c) n (bellC D)) ∧ PD w x' gb gm (restL 1099511627776 L) (restL 1099511627776 L) Z ∧ Kp y x' Z := fun y Z hy => by
        have := pd_due_r hy 1099511627776
        rw [HDN.out.1, HDN.out.2.1] at this
        exact this
      have HPP := Lib.hid (And.intro hp hr)
      clear hp hr
      by_cases hin : (i : Int) < n0
      · have hi2 : ¬ (i : Int) < 300 := fun h => hend ⟨hin, h⟩
        clear hend
        go_wp2_with (first
          | (go_at_call 12; refine HPP.out.1.mono ?_; rintro r x2 ⟨⟨A, c, rfl, ho⟩, hj, hk⟩
             have HJ2 := Lib.hid hj
             have HO2 := Lib.hid ho
             clear hj hk ho)
          | (go_at_call 22; refine (HPP.out.2 _ _ HJ2.out).mono ?_; rintro r x3 ⟨⟨A', c', rfl, ho⟩, hj, hk⟩
             have HJ3 := Lib.hid hj
             have HO3 := Lib.hid ho
             have HO2' := Lib.hid (own_kp HO2.out hk fun k h1 h2 => Or.inr ⟨h1, h2⟩)
             clear hj hk ho)
          | (go_at_call 21; refine (rbsame HO2'.out HO3.out HDN.out.2.2).mono ?_; rintro r x4 ⟨rfl, hb⟩
             have HJ4 := Lib.hid (HJ3.out.keep hb)
             clear hb)
          | (go_at_call 7; refine (bell_works _).mono ?_; rintro r x5 ⟨rfl, hb⟩
             have HB5 := Lib.hid (HJ4.out.b.trans (hb.mono HJ4.out.b.size))
             clear hb))
        go_ret
        exact ⟨rfl, HB5.out⟩
      · clear hend
        go_wp2_with (first
          | (go_at_call 12; refine HPP.out.1.mono ?_; rintro r x2 ⟨⟨A, c, rfl, ho⟩, hj, hk⟩
             have HJ2 := Lib.hid hj
             have HO2 := Lib.hid ho
             clear hj hk ho)
          | (go_at_call 22; refine (HPP.out.2 _ _ HJ2.out).mono ?_; rintro r x3 ⟨⟨A', c', rfl, ho⟩, hj, hk⟩
             have HJ3 := Lib.hid hj
             have HO3 := Lib.hid ho
             have HO2' := Lib.hid (own_kp HO2.out hk fun k h1 h2 => Or.inr ⟨h1, h2⟩)
             clear hj hk ho)
          | (go_at_call 21; refine (rbsame HO2'.out HO3.out HDN.out.2.2).mono ?_; rintro r x4 ⟨rfl, hb⟩
             have HJ4 := Lib.hid (HJ3.out.keep hb)
             clear hb)
          | (go_at_call 7; refine (bell_works _).mono ?_; rintro r x5 ⟨rfl, hb⟩
             have HB5 := Lib.hid (HJ4.out.b.trans (hb.mono HJ4.out.b.size))
             clear hb))
        go_ret
        exact ⟨rfl, HB5.out⟩
end Go.Proofs.Ytbfbahedbfjcoaa
