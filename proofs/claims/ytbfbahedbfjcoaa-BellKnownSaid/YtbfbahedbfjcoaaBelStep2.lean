/- BellPlays: Due of both. -/
import Derived.Test.YtbfbahedbfjcoaaBelStep
namespace Go.Proofs.Ytbfbahedbfjcoaa
set_option linter.all false
open Go.RowKit
attribute [local go_sem ↓] Go.wp_at_zero Go.wp_at_succ

set_option maxRecDepth 100000 in
set_option maxHeartbeats 8000000 in
theorem bstep_2 {w x : World} {gb gm : Nat} {L : BL} (h : PD w x gb gm L L NoX) (what kind id at_ : Int) (hw : -9223372036854775808 ≤ what ∧ what ≤ 9223372036854775807) (hq : what % 4 = 2) :
    Calls Try.prog 17 #[.pointer (some ⟨gb, 0, none⟩), .pointer (some ⟨gm, 0, none⟩), .agg #[.int .i64 what, .int .i64 kind, .int .i64 id, .int .i64 at_]] x fun r x' => r = .returned (.bool true) ∧ PD w x' gb gm (restL at_ L) (restL at_ L) NoX := by
  have hb := (Below.refl x.heap.size x).alloc (Nat.le_refl _) (.cells #[.int .i64 what, .int .i64 kind, .int .i64 id, .int .i64 at_] 28)
  have hblk := Blk.new x 28 #[.int .i64 what, .int .i64 kind, .int .i64 id, .int .i64 at_]
  have HPD := Lib.hid (h.grow hb)
  have HD := Lib.hid (show growR NoX x (x.alloc (.cells #[.int .i64 what, .int .i64 kind, .int .i64 id, .int .i64 at_] 28)) x.heap.size from Or.inr ⟨Nat.le_refl _, by simp⟩)
  have HQ := Lib.hid hq
  have HW := Lib.hid hw
  have HBK := Lib.hid hblk
  have hlen : (dueL at_ L).length ≤ 64 := by
    have h1 := congrArg List.length (due_rest at_ L)
    rw [List.length_append] at h1
    have := ok_len h.okL
    omega
  clear h hb hq hw hblk
  go_enter Try.func17, Try.ntmps17
  obtain ⟨gd, hgd⟩ : ∃ g, x.heap.size = g := ⟨_, rfl⟩
  rw [hgd] at HD HBK
  obtain ⟨xd, hxd⟩ : ∃ xd, (x.alloc (.cells #[.int .i64 what, .int .i64 kind, .int .i64 id, .int .i64 at_] 28)) = xd := ⟨_, rfl⟩
  rw [hxd] at HPD HD HBK
  have d0 : xd.cell? ⟨gd, 0, none⟩ = some (.int .i64 what) := HBK.out.cell 0
  have d3 : xd.cell? ⟨gd, 3, none⟩ = some (.int .i64 at_) := HBK.out.cell 3
  have hszw := HPD.out.b.size
  have HSZ := Lib.hid hszw
  clear hszw
  obtain ⟨D, hD⟩ : ∃ D, dueL at_ L = D := ⟨_, rfl⟩
  obtain ⟨n, hn⟩ : ∃ n, D.length = n := ⟨_, rfl⟩
  rw [hD, hn] at hlen
  have HDN := Lib.hid (And.intro hD (And.intro hn hlen))
  have HXD := Lib.hid hxd
  clear hD hn hlen
  have hp : Calls Try.prog 12 #[.pointer (some ⟨gb, 0, none⟩), .int .i64 at_] xd fun r x' => (∃ A c, r = .returned (.slice A n c) ∧ x'.ownsRow xd.heap.size 36 3 (.slice A n c) n (bellC D)) ∧ PD w x' gb gm (restL at_ L) L (growR (growR NoX x xd) xd x') ∧ Kp xd x' (growR NoX x xd) := by
    have := pd_due_p HPD.out at_
    rw [HDN.out.1, HDN.out.2.1] at this
    exact this
  have hr : ∀ (y : World) (Z : Nat → Prop), PD w y gb gm (restL at_ L) L Z → Calls Try.prog 22 #[.pointer (some ⟨gm, 0, none⟩), .int .i64 at_] y fun r x' => (∃ A c, r = .returned (.slice A n c) ∧ x'.ownsRow y.heap.size 36 3 (.slice A n c) n (bellC D)) ∧ PD w x' gb gm (restL at_ L) (restL at_ L) Z ∧ Kp y x' Z := fun y Z hy => by
    have := pd_due_r hy at_
    rw [HDN.out.1, HDN.out.2.1] at this
    exact this
  have HPP := Lib.hid (And.intro hp hr)
  clear hp hr
  go_wp2_with (first
    | (go_at_call 9; refine (bring_any _ _ _ HW.out ⟨by decide, by decide⟩).mono ?_; rintro r x1 ⟨rfl, -, rfl⟩; rw [HQ.out])
    | (go_at_call 12; refine HPP.out.1.mono ?_; rintro r x2 ⟨⟨A, c, rfl, ho⟩, hj, hk⟩
       have HJ2 := Lib.hid hj
       have HO2 := Lib.hid ho
       have HB2 := Lib.hid (hk.blk HBK.out HD.out)
       have d3 : x2.cell? ⟨gd, 3, none⟩ = some (.int .i64 at_) := HB2.out.cell 3
       clear hj hk ho)
    | (go_at_call 22; refine (HPP.out.2 _ _ HJ2.out).mono ?_; rintro r x3 ⟨⟨A', c', rfl, ho⟩, hj, hk⟩
       have HJ3 := Lib.hid hj
       have HO3 := Lib.hid ho
       have HO2' := Lib.hid (own_kp HO2.out hk fun k h1 h2 => Or.inr ⟨h1, h2⟩)
       clear hj hk ho)
    | (go_at_call 21; refine (rbsame HO2'.out HO3.out HDN.out.2.2).mono ?_; rintro r x4 ⟨rfl, hb⟩
       have HJ4 := Lib.hid (HJ3.out.keep hb)
       have HO4 := Lib.hid (own_kp HO2'.out (Kp.of_below (D := fun _ => True) hb) fun _ _ _ => True.intro)
       clear hb))
  have hrow : 0 < n → ∃ g cur, A = some ⟨g, 0, none⟩ ∧ growR (growR NoX x xd) xd x2 g ∧ w.heap.size ≤ g ∧ Blk x4 g 36 cur ∧ n * 3 ≤ cur.size := fun h0 => by
    obtain ⟨g, p, hA, -, hlt, -⟩ := bell_row HO2.out 0 h0
    rcases HO4.out.2 with ⟨_, h1⟩ | ⟨g', cap, cur, hv, hB, hb, h1, h2, h3, h4⟩
    · omega
    · injection hv with hA'
      rw [hA] at hA'
      injection hA' with hA'
      injection hA' with hA'
      subst hA'
      have := HSZ.out
      exact ⟨g, cur, hA, Or.inr ⟨hB, hlt⟩, by omega, hb, by omega⟩
  have HROW := Lib.hid hrow
  clear hrow
  go_loopw [9] (fun vi wr => ∃ i : Nat, i ≤ n ∧ vi = .int .i64 (i : Int) ∧ Hid (PD w wr gb gm (restL at_ L) (restL at_ L) (growR (growR NoX x xd) xd x2) ∧ (0 < n → ∃ g cur, A = some ⟨g, 0, none⟩ ∧ growR (growR NoX x xd) xd x2 g ∧ w.heap.size ≤ g ∧ Blk wr g 36 cur ∧ n * 3 ≤ cur.size))) (fun vi _ => n - (intOf vi).toNat)
  case atStart => exact ⟨0, by omega, rfl, HJ4.out, HROW.out⟩
  case round =>
    obtain ⟨i, hi, rfl, HI⟩ := hrel
    have hx0 : (0 : Int) ≤ i := by omega
    have w1 : IntKind.i64.wrap ((i : Int) + 1) = (i : Int) + 1 := IntWalk.i64_in _ (by have := HDN.out.2.2; omega)
    by_cases hin : i < n
    · have hx1 : (i : Int) < n := by omega
      obtain ⟨g, cur, rfl, hZ, hwg, hb, hcs⟩ := HI.out.2 (by omega)
      have y0 : wr.cell? ⟨g, i * 3, none⟩ = some cur[i * 3] := (hb.cell _).trans (Array.getElem?_eq_getElem (by omega))
      have yf : wr.frozen? ⟨g, i * 3, none⟩ = false := hb.frozen _
      generalize cur[i * 3] = u0 at y0
      have HG := Lib.hid (And.intro hZ (And.intro hwg (And.intro hb hcs)))
      clear hZ hwg hb hcs hxd d3 d0
      go_wp2_with fail
      refine ⟨⟨i + 1, by omega, by go_num, HI.out.1.write (Upd.set1 g (i * 3) (.int .i64 (-1))) (fun k hk => by subst hk; exact ⟨HG.out.1, HG.out.2.1⟩), fun _ => ⟨g, _, rfl, HG.out.1, HG.out.2.1, HG.out.2.2.1.set_ (i * 3) (.int .i64 (-1)), ?_⟩⟩, by simp [intOf]; try omega⟩
      simpa using HG.out.2.2.2
    · obtain rfl : i = n := by omega
      go_wp2_with fail
      go_ret
      exact ⟨rfl, HI.out.1.less fun _ hk => hk.elim⟩

theorem bstep_any {w x : World} {gb gm : Nat} {L : BL} (h : PD w x gb gm L L NoX) (what kind id at_ : Int) (hw : -9223372036854775808 ≤ what ∧ what ≤ 9223372036854775807) :
    Calls Try.prog 17 #[.pointer (some ⟨gb, 0, none⟩), .pointer (some ⟨gm, 0, none⟩), .agg #[.int .i64 what, .int .i64 kind, .int .i64 id, .int .i64 at_]] x fun r x' => r = .returned (.bool true) ∧ PD w x' gb gm (stepL what kind id at_ L) (stepL what kind id at_ L) NoX := by
  unfold stepL
  have h0 := Int.emod_nonneg what (b := 4) (by decide)
  have h1 := Int.emod_lt_of_pos what (b := 4) (by decide)
  by_cases q0 : what % 4 = 0
  · rw [if_pos q0]; exact bstep_0 h what kind id at_ hw q0
  rw [if_neg q0]
  by_cases q1 : what % 4 = 1
  · rw [if_pos q1]; exact bstep_1 h what kind id at_ hw q1
  rw [if_neg q1]
  by_cases q2 : what % 4 = 2
  · rw [if_pos q2]; exact bstep_2 h what kind id at_ hw q2
  rw [if_neg q2]
  exact bstep_3 h what kind id at_ hw (by omega)
end Go.Proofs.Ytbfbahedbfjcoaa
