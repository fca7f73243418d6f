/- The chapter's bells. -/
import Derived.Test.YtbfbahedbfjcoaaBellJ
namespace Go.Proofs.Ytbfbahedbfjcoaa
set_option linter.all false
open Go.RowKit
attribute [local go_sem ↓] Go.wp_at_zero Go.wp_at_succ

theorem bdue_to {w0 w : World} {X : Nat → Prop} {gb : Nat} {L : BL} (D R : BL) (n : Nat) (h : BJ w0 w X gb L) (now : Int) (hD : dueL now L = D) (hR : restL now L = R) (hn : D.length = n) :
    Calls Try.prog 12 #[.pointer (some ⟨gb, 0, none⟩), .int .i64 now] w fun r w' => (∃ A c, r = .returned (.slice A n c) ∧ w'.ownsRow w.heap.size 36 3 (.slice A n c) n (bellC D)) ∧ BJ w0 w' X gb R ∧ Kp w w' X := by
  subst hD hR hn
  exact bdue h now
theorem bnext_to {w0 w : World} {X : Nat → Prop} {gb : Nat} {L : BL} (k : Int) (b : Bool) (h : BJ w0 w X gb L) (hk : nxK L = k) (hb : nxB L = b) :
    Calls Try.prog 15 #[.pointer (some ⟨gb, 0, none⟩)] w fun r w' => r = .returned (.tuple #[.int .i64 k, .bool b]) ∧ BJ w0 w' X gb L ∧ Below w.heap.size w w' := by
  subst hk hb
  exact bnext h
theorem bcount_to {w0 w : World} {X : Nat → Prop} {gb : Nat} {L : BL} (n : Int) (h : BJ w0 w X gb L) (hn : (L.length : Int) = n) :
    Calls Try.prog 14 #[.pointer (some ⟨gb, 0, none⟩)] w fun r w' => r = .returned (.int .i64 n) ∧ w = w' := by
  subst hn
  exact bcount h

set_option maxRecDepth 100000 in
set_option maxHeartbeats 4000000 in
theorem bell_works (w : World) : Calls Try.prog 7 #[] w fun r w' => r = .returned (.bool true) ∧ Below w.heap.size w w' := by
  have A1 := Lib.hid True.intro
  have A2 := Lib.hid True.intro
  have A3 := Lib.hid True.intro
  have A4 := Lib.hid True.intro
  have A5 := Lib.hid True.intro
  have C1 := Lib.hid True.intro
  go_enter Try.func7, Try.ntmps7
  go_wp2_with (first
    | (go_at_call 8; refine (bnew w w (Below.refl _ _)).mono ?_; rintro r x ⟨⟨gb, rfl, hj, -⟩, -⟩; have HJ := Lib.hid hj; clear hj)
    | (go_at_call 10; first
        | (have _tk := A1; refine (barm_to wl1 0 HJ.out (fun k h => h.elim) 1 3 7 rfl (by decide)).mono ?_; rintro r x ⟨rfl, hj, -⟩; have HJ := Lib.hid hj; clear hj A1 _tk)
        | (have _tk := A2; refine (barm_to wl2 0 HJ.out (fun k h => h.elim) 0 9 7 rfl (by decide)).mono ?_; rintro r x ⟨rfl, hj, -⟩; have HJ := Lib.hid hj; clear hj A2 _tk)
        | (have _tk := A3; refine (barm_to wl3 0 HJ.out (fun k h => h.elim) 2 0 5 rfl (by decide)).mono ?_; rintro r x ⟨rfl, hj, -⟩; have HJ := Lib.hid hj; clear hj A3 _tk)
        | (have _tk := A4; refine (barm_to wl4 0 HJ.out (fun k h => h.elim) 2 0 8 rfl (by decide)).mono ?_; rintro r x ⟨rfl, hj, -⟩; have HJ := Lib.hid hj; clear hj A4 _tk)
        | (have _tk := A5; refine (barm_to wl6 9 HJ.out (fun k h => h.elim) 4 0 1 (by decide) (by decide)).mono ?_; rintro r x ⟨rfl, hj, -⟩; have HJ := Lib.hid hj; clear hj A5 _tk)
        | (refine (barm_to wl6 2 HJ.out (fun k h => h.elim) 0 0 (-1) (by decide) (by decide)).mono ?_; rintro r x ⟨rfl, hj, -⟩; have HJ := Lib.hid hj; clear hj))
    | (go_at_call 15; refine (bnext_to 5 true HJ.out (by decide) (by decide)).mono ?_; rintro r x ⟨rfl, hj, -⟩; have HJ := Lib.hid hj; clear hj)
    | (go_at_call 12; refine (bdue_to [(9, 7), (19, 7)] wl5 2 HJ.out 7 (by decide) rfl rfl).mono ?_; rintro r x ⟨⟨A, c, rfl, ho⟩, hj, -⟩
       obtain ⟨g, p, rfl, -, -, hp, c0, c1, c2⟩ := bell_row ho 0 (by decide)
       obtain ⟨g', q, hg, -, -, hq, d0, d1, d2⟩ := bell_row ho 1 (by decide)
       cases hg
       cases hp
       cases hq
       simp at c0 c1 c2 d0 d1 d2
       have HJ := Lib.hid hj
       clear hj ho)
    | (go_at_call 14; refine (bcount_to 1 HJ.out (by decide)).mono ?_; rintro r x ⟨rfl, rfl⟩)
    | (go_at_call 11; first
        | (have _tk := C1; refine (bcan_to wl6 true HJ.out 2 0 (by decide) rfl (by decide)).mono ?_; rintro r x ⟨rfl, hj, -⟩; have HJ := Lib.hid hj; clear hj C1 _tk c0 c1 c2 d0 d1 d2)
        | (refine (bcan_to wl6 false HJ.out 2 0 (by decide) (by decide) (by decide)).mono ?_; rintro r x ⟨rfl, hj, -⟩; have HJ := Lib.hid hj; clear hj)))
  go_ret
  exact ⟨rfl, HJ.out.b⟩
end Go.Proofs.Ytbfbahedbfjcoaa
