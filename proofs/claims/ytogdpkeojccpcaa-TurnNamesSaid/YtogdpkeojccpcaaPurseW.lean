/- Purses and the document's answer stand alike; the examples of the chapter. -/
import Derived.Test.YtogdpkeojccpcaaPurseRef2
namespace Go.Proofs.Ytogdpkeojccpcaa
set_option linter.all false
open Go.RowKit

theorem PrP.drewN {w : World} {g : Nat} {s : PS} (h : PrP w g s) (m : Nat) : PrP (w.drewN m) g s := by
  obtain ⟨np, h1, h2⟩ := h
  refine ⟨np, h1.drewN m, ?_⟩
  cases np with
  | none => cases hn : s.n with
    | none => trivial
    | some q => rw [hn] at h2; exact h2
  | some a => cases hn : s.n with
    | none => rw [hn] at h2; exact h2
    | some q => rw [hn] at h2; obtain ⟨k, hk, hb⟩ := h2; exact ⟨k, hk, hb.drewN m⟩
theorem RfP.drewN {w : World} {g : Nat} {s : PS} (h : RfP w g s) (m : Nat) : RfP (w.drewN m) g s := by
  obtain ⟨np, nb, h1, h2⟩ := h
  exact ⟨np, nb, h1.drewN m, h2⟩

section
variable {w : World} {g m : Nat} {s : PS} (h : PrP w g s) (hp : 1 ≤ s.p)
include h hp
theorem left_q : Calls Try.prog 32 #[.pointer (some ⟨g, 0, none⟩)] (w.drewN m) fun e w'' => e = .returned (.int .i64 s.l) ∧ ∃ k, w'' = w.drewN k :=
  (left_any (h.drewN m) hp).mono fun _ _ ⟨he, hw⟩ => ⟨he, m, hw.symm⟩
theorem ends_q : Calls Try.prog 34 #[.pointer (some ⟨g, 0, none⟩)] (w.drewN m) fun e w'' => e = .returned (.int .i64 s.e) ∧ ∃ k, w'' = w.drewN k :=
  (ends_any (h.drewN m) hp).mono fun _ _ ⟨he, hw⟩ => ⟨he, m, hw.symm⟩
theorem short_q : Calls Try.prog 33 #[.pointer (some ⟨g, 0, none⟩)] (w.drewN m) fun e w'' => e = .returned (.int .i64 s.sh) ∧ ∃ k, w'' = w.drewN k :=
  (short_any (h.drewN m) hp).mono fun _ _ ⟨he, hw⟩ => ⟨he, m, hw.symm⟩
theorem gone_q : Calls Try.prog 43 #[.pointer (some ⟨g, 0, none⟩)] (w.drewN m) fun e w'' => e = .returned (.bool s.gn) ∧ ∃ k, w'' = w.drewN k :=
  (gone_any (h.drewN m) hp).mono fun _ _ ⟨he, hw⟩ => ⟨he, m, hw.symm⟩
theorem waits_q : Calls Try.prog 42 #[.pointer (some ⟨g, 0, none⟩)] (w.drewN m) fun e w'' => e = .returned (.bool (waitsB s)) ∧ ∃ k, w'' = w.drewN k :=
  (waits_any (h.drewN m) hp).mono fun _ _ ⟨he, hw⟩ => ⟨he, m, hw.symm⟩
end
theorem rwaits_q {w : World} {g m : Nat} {s : PS} (h : RfP w g s) : Calls Try.prog 60 #[.pointer (some ⟨g, 0, none⟩)] (w.drewN m) fun e w'' => e = .returned (.bool (waitsB s)) ∧ ∃ k, w'' = w.drewN k :=
  (rwaits_any (h.drewN m)).mono fun _ _ ⟨he, hw⟩ => ⟨he, m, hw.symm⟩

set_option maxRecDepth 100000 in
set_option maxHeartbeats 4000000 in
theorem same_any {w : World} {g g' : Nat} {s : PS} (h : PrP w g s) (h' : RfP w g' s) (hp : 1 ≤ s.p) :
    Calls Try.prog 41 #[.pointer (some ⟨g, 0, none⟩), .pointer (some ⟨g', 0, none⟩)] w fun r w' => r = .returned (.bool true) ∧ Below w.heap.size w w' := by
  have H := Lib.hid h
  have H' := Lib.hid h'
  have HP := Lib.hid hp
  obtain ⟨np, nb, hb, _⟩ := h'
  have c0 := hb.cell 0
  have c1 := hb.cell 1
  have c2 := hb.cell 2
  have c3 := hb.cell 3
  have c7 := hb.cell 7
  have c8 := hb.cell 8
  simp at c0 c1 c2 c3 c7 c8
  clear hb h hp
  obtain ⟨p, hp⟩ : ∃ x, s.p = x := ⟨_, rfl⟩
  go_enter Try.func41, Try.ntmps41
  go_wp2_with (go_at_call 29; refine (is_any H.out HP.out).mono ?_; rintro r w1 ⟨rfl, hy⟩
               have H2 := Lib.hid (H.out.below hy)
               have H2' := Lib.hid (H'.out.below hy)
               have lt := H'.out.lt
               rw [← hy.cell (p := ⟨g', 0, none⟩) lt] at c0
               rw [← hy.cell (p := ⟨g', 1, none⟩) lt] at c1
               rw [← hy.cell (p := ⟨g', 2, none⟩) lt] at c2
               rw [← hy.cell (p := ⟨g', 3, none⟩) lt] at c3
               rw [← hy.cell (p := ⟨g', 7, none⟩) lt] at c7
               rw [← hy.cell (p := ⟨g', 8, none⟩) lt] at c8
               have HY := Lib.hid hy
               clear hy lt H H')
  go_quiet (first
    | (go_at_call 32; exact left_q H2.out HP.out)
    | (go_at_call 34; exact ends_q H2.out HP.out)
    | (go_at_call 42; exact waits_q H2.out HP.out)
    | (go_at_call 43; exact gone_q H2.out HP.out)
    | (go_at_call 33; exact short_q H2.out HP.out)
    | (go_at_call 60; exact rwaits_q H2'.out))
  go_wp2_with fail
  go_ret
  exact ⟨ret_bool (by simp), belowN HY.out _⟩

theorem new_to {p b t : Int} {w : World} (hp : I64 p) (ht : I64 t) (he : newE p b t = 0) :
    Calls Try.prog 27 #[.int .i64 p, .int .i64 b, .int .i64 t] w fun r w' => (∃ g, r = .returned (.tuple #[.pointer (some ⟨g, 0, none⟩), .int .i64 0]) ∧ w.heap.size ≤ g ∧ PrP w' g (newS p b t)) ∧ Below w.heap.size w w' := by
  refine (new_any p b t w hp ht).mono ?_
  rintro r w' ⟨a, rfl, hb, _, h2⟩
  obtain ⟨g, h3, rfl, h4⟩ := h2 he
  rw [he]
  exact ⟨⟨g, rfl, h3, h4⟩, hb⟩
theorem new_no {p b t e : Int} {w : World} (hp : I64 p) (ht : I64 t) (he : newE p b t = e) (h0 : e ≠ 0) :
    Calls Try.prog 27 #[.int .i64 p, .int .i64 b, .int .i64 t] w fun r w' => r = .returned (.tuple #[.pointer none, .int .i64 e]) ∧ Below w.heap.size w w' := by
  refine (new_any p b t w hp ht).mono ?_
  rintro r w' ⟨a, rfl, hb, h1, _⟩
  subst he
  obtain rfl := h1 h0
  exact ⟨rfl, hb⟩
theorem charge_to {w : World} {g : Nat} {s : PS} (e : Int) (s' : PS) (h : PrP w g s) (hp : 1 ≤ s.p) (hl : 0 ≤ s.l ∧ s.l ≤ 64) (hx : chargeE s = e ∧ chargeS s = s') :
    Calls Try.prog 31 #[.pointer (some ⟨g, 0, none⟩)] w fun r w' => r = .returned (.int .i64 e) ∧ PrP w' g s' ∧ Upd (· = g) w w' := by
  obtain ⟨rfl, rfl⟩ := hx
  exact charge_any h hp hl
theorem leave_to {w : World} {g : Nat} {s : PS} (e : Int) (s' : PS) (h : PrP w g s) (hp : 1 ≤ s.p) (hx : leaveE s = e ∧ leaveS s = s') :
    Calls Try.prog 39 #[.pointer (some ⟨g, 0, none⟩)] w fun r w' => r = .returned (.int .i64 e) ∧ PrP w' g s' ∧ Upd (· = g) w w' := by
  obtain ⟨rfl, rfl⟩ := hx
  exact leave_any h hp
theorem change_to {w : World} {g : Nat} {s : PS} {p b : Int} (e : Int) (s' : PS) (h : PrP w g s) (hp : 1 ≤ s.p) (hx : changeE s p b = e ∧ changeS s p b = s') :
    Calls Try.prog 30 #[.pointer (some ⟨g, 0, none⟩), .int .i64 p, .int .i64 b] w fun r w' => r = .returned (.int .i64 e) ∧ PrP w' g s' ∧ Upd (fun k => k = g ∨ w.heap.size ≤ k) w w' := by
  obtain ⟨rfl, rfl⟩ := hx
  exact change_any p b h hp
theorem turn_to {w : World} {g : Nat} {s : PS} {t : Int} (b : Bool) (e : Int) (s' : PS) (h : PrP w g s) (ho : POk 1099511627999 1000000 s) (hx : turnB s t = b ∧ turnE s t = e ∧ turnS s t = s') :
    Calls Try.prog 28 #[.pointer (some ⟨g, 0, none⟩), .int .i64 t] w fun r w' => r = .returned (.tuple #[.bool b, .int .i64 e]) ∧ PrP w' g s' ∧ Upd (· = g) w w' := by
  obtain ⟨rfl, rfl, rfl⟩ := hx
  exact turn_any t h ho (by decide) (by decide)

theorem below_one {g : Nat} {a w w' : World} (hb : Below a.heap.size a w) (hg : a.heap.size ≤ g) (h : Upd (· = g) w w') : Below a.heap.size a w' := Upd.after hb h hb.size (fun k hk => by rw [hk]; exact hg)
theorem below_two {g : Nat} {a w w' : World} (hb : Below a.heap.size a w) (hg : a.heap.size ≤ g) (h : Upd (fun k => k = g ∨ w.heap.size ≤ k) w w') : Below a.heap.size a w' :=
  Upd.after hb h hb.size (fun k hk => by rcases hk with rfl | hk; exact hg; exact Nat.le_trans hb.size hk)

set_option maxRecDepth 100000 in
set_option maxHeartbeats 4000000 in
theorem purse_works (w : World) : Calls Try.prog 26 #[] w fun r w' => r = .returned (.bool true) ∧ Below w.heap.size w w' := by
  have T0 := Lib.hid True.intro
  have T1 := Lib.hid True.intro
  have T2 := Lib.hid True.intro
  have T3 := Lib.hid True.intro
  have U0 := Lib.hid True.intro
  have U1 := Lib.hid True.intro
  have U2 := Lib.hid True.intro
  have U3 := Lib.hid True.intro
  have V0 := Lib.hid True.intro
  have V1 := Lib.hid True.intro
  go_enter Try.func26, Try.ntmps26
  go_wp2_with (first
    | (go_at_call 27; refine (new_to (p := 5) (b := 2) (t := 10) ⟨by decide, by decide⟩ ⟨by decide, by decide⟩ (by decide)).mono ?_; rintro r x1 ⟨⟨g, rfl, hg, hp⟩, hb⟩; have HW := Lib.hid hb; have HG := Lib.hid hg; have H := Lib.hid (show PrP x1 g ⟨5, 2, 2, 15, none, false, false, 0⟩ from hp); clear hg hp hb)
    | (go_at_call 32; refine (left_any H.out (by decide)).mono ?_; rintro r x1 ⟨rfl, rfl⟩)
    | (go_at_call 34; refine (ends_any H.out (by decide)).mono ?_; rintro r x1 ⟨rfl, rfl⟩)
    | (go_at_call 33; refine (short_any H.out (by decide)).mono ?_; rintro r x1 ⟨rfl, rfl⟩)
    | (go_at_call 43; refine (gone_any H.out (by decide)).mono ?_; rintro r x1 ⟨rfl, rfl⟩)
    | (go_at_call 29; refine (is_any H.out (by decide)).mono ?_; rintro r x1 ⟨rfl, hb⟩; have HW := Lib.hid (HW.out.trans (hb.mono HW.out.size)); have H := Lib.hid (H.out.below hb); clear hb)
    | (go_at_call 31; first
        | (have _tk := T0; (refine (charge_to 0 ⟨5, 2, 1, 15, none, false, false, 0⟩ H.out (by decide) (by decide) ⟨by rfl, by rfl⟩).mono ?_; rintro r x1 ⟨rfl, hp, hu⟩; have HW := Lib.hid (below_one HW.out HG.out hu); have H := Lib.hid hp; clear hp hu T0 _tk))
        | (have _tk := T1; refine (charge_to 0 ⟨5, 2, 0, 15, none, false, false, 0⟩ H.out (by decide) (by decide) ⟨by rfl, by rfl⟩).mono ?_; rintro r x1 ⟨rfl, hp, hu⟩; have HW := Lib.hid (below_one HW.out HG.out hu); have H := Lib.hid hp; clear hp hu T1 _tk)
        | (have _tk := T2; refine (charge_to 8 ⟨5, 2, 0, 15, none, false, false, 0⟩ H.out (by decide) (by decide) ⟨by rfl, by rfl⟩).mono ?_; rintro r x1 ⟨rfl, hp, hu⟩; have HW := Lib.hid (below_one HW.out HG.out hu); have H := Lib.hid hp; clear hp hu T2 _tk)
        | (have _tk := T3; refine (charge_to 250 ⟨4, 1, 0, 24, none, true, true, 3⟩ H.out (by decide) (by decide) ⟨by rfl, by rfl⟩).mono ?_; rintro r x1 ⟨rfl, hp, hu⟩; have HW := Lib.hid (below_one HW.out HG.out hu); have H := Lib.hid hp; clear hp hu T3 _tk))
    | (go_at_call 28; first
        | (have _tk := U0; refine (turn_to false 0 ⟨5, 2, 0, 15, none, false, false, 0⟩ H.out ⟨by decide, by decide, by decide, by decide, by intro q hq; cases hq <;> decide⟩ ⟨by rfl, by rfl, by rfl⟩).mono ?_; rintro r x1 ⟨rfl, hp, hu⟩; have HW := Lib.hid (below_one HW.out HG.out hu); have H := Lib.hid hp; clear hp hu U0 _tk)
        | (have _tk := U1; refine (turn_to true 0 ⟨5, 2, 2, 20, none, false, false, 0⟩ H.out ⟨by decide, by decide, by decide, by decide, by intro q hq; cases hq <;> decide⟩ ⟨by rfl, by rfl, by rfl⟩).mono ?_; rintro r x1 ⟨rfl, hp, hu⟩; have HW := Lib.hid (below_one HW.out HG.out hu); have H := Lib.hid hp; clear hp hu U1 _tk)
        | (have _tk := U2; refine (turn_to true 0 ⟨4, 1, 1, 24, none, false, false, 2⟩ H.out ⟨by decide, by decide, by decide, by decide, by intro q hq; cases hq <;> decide⟩ ⟨by rfl, by rfl, by rfl⟩).mono ?_; rintro r x1 ⟨rfl, hp, hu⟩; have HW := Lib.hid (below_one HW.out HG.out hu); have H := Lib.hid hp; clear hp hu U2 _tk)
        | (have _tk := U3; refine (turn_to true 0 ⟨4, 1, 0, 24, none, true, true, 3⟩ H.out ⟨by decide, by decide, by decide, by decide, by intro q hq; cases hq <;> decide⟩ ⟨by rfl, by rfl, by rfl⟩).mono ?_; rintro r x1 ⟨rfl, hp, hu⟩; have HW := Lib.hid (below_one HW.out HG.out hu); have H := Lib.hid hp; clear hp hu U3 _tk))
    | (go_at_call 30; first
        | (have _tk := V0; refine (change_to 0 ⟨5, 2, 2, 20, (some (4, 1)), false, false, 0⟩ H.out (by decide) ⟨by rfl, by rfl⟩).mono ?_; rintro r x1 ⟨rfl, hp, hu⟩; have HW := Lib.hid (below_two HW.out HG.out hu); have H := Lib.hid hp; clear hp hu V0 _tk))
    | (go_at_call 39; first
        | (have _tk := V1; refine (leave_to 0 ⟨4, 1, 1, 24, none, true, false, 2⟩ H.out (by decide) ⟨by rfl, by rfl⟩).mono ?_; rintro r x1 ⟨rfl, hp, hu⟩; have HW := Lib.hid (below_one HW.out HG.out hu); have H := Lib.hid hp; clear hp hu V1 _tk)))
  go_ret
  exact ⟨rfl, HW.out⟩
end Go.Proofs.Ytogdpkeojccpcaa
