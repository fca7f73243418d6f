/- The chapter's monitor answers true. -/
import Derived.Test.YthejgbagpnoadaaHealthAny
namespace Go.Proofs.Ythejgbagpnoadaa
set_option linter.all false
open Go.RowKit

set_option maxHeartbeats 1000000 in
theorem tells_any (g : Nat) (p f want : Int) (w : World) {H T Q : Nat → Int} (hm : MonP w g H T Q) (h : InR p f) (ht : Small T) :
    Calls Try.prog 22 #[.pointer (some ⟨g, 0, none⟩), .int .i64 p, .int .i64 f, .int .i64 want] w fun r w' => r = .returned (.bool (tV H T Q p f == want)) ∧ MonP w' g H (tT T p f) Q ∧ Upd (· = g) w w' := by
  have HM := Lib.hid hm
  have HT := Lib.hid ht
  have he : tE p f = 0 := by unfold tE; rw [if_pos h]
  obtain ⟨V, hV⟩ : ∃ V, tV H T Q p f = V := ⟨_, rfl⟩
  have HV := Lib.hid hV
  rw [hV]
  clear hm h ht hV
  go_enter Try.func22, Try.ntmps22
  go_wp2_with (go_at_call 14; refine (htell_any g p f _ HM.out HT.out).mono ?_; rintro r w1 ⟨rfl, h1, h2⟩; rw [HV.out]; have H1 := Lib.hid h1; have H2 := Lib.hid h2; clear h1 h2)
  all_goals
    go_ret
    exact ⟨by simp; assumption, H1.out, H2.out⟩

theorem small_of {T : Nat → Int} (h : ∀ i, i < 20 → 0 ≤ T i ∧ T i ≤ 100) : Small T := fun i hi => by have := h i hi; omega
def hZ : Nat → Int := fun _ => 0
def hT1 : Nat → Int := tT hZ 0 1
def hT2 : Nat → Int := tT hT1 0 4
def hH3 : Nat → Int := sH newH 0 4 2
def hT4 : Nat → Int := tT hT2 0 4
def hQ5 : Nat → Int := pQ hZ 1 1
def hT6 : Nat → Int := tT hT4 1 3
def hT7 : Nat → Int := tT hT6 1 1
def hT8 : Nat → Int := cT hT7 1
def hT9 : Nat → Int := tT hT8 1 1
def hH10 : Nat → Int := sH hH3 0 1 0
def hH11 : Nat → Int := sH hH10 4 1 1
def hH12 : Nat → Int := sH hH11 0 5 1
def hH13 : Nat → Int := sH hH12 0 1 4

set_option maxRecDepth 100000 in
set_option maxHeartbeats 4000000 in
theorem health_works (w : World) : Calls Try.prog 20 #[] w (Holds w) := by
  have v0 : tV newH hZ hZ 0 1 = 1 := by decide
  have v1 : tV newH hT1 hZ 0 4 = 0 := by decide
  have v2 : sE 0 4 2 = 0 := by decide
  have v3 : tV hH3 hT2 hZ 0 4 = 2 := by decide
  have v4 : nT hT4 0 4 = 2 := by decide
  have v5 : pE 1 1 = 0 := by decide
  have v6 : tV hH3 hT4 hQ5 1 3 = 1 := by decide
  have v7 : tV hH3 hT6 hQ5 1 1 = 3 := by decide
  have v8 : cE 1 = 0 := by decide
  have v9 : tV hH3 hT8 hQ5 1 1 = 1 := by decide
  have v10 : sE 0 1 0 = 2 := by decide
  have v11 : sE 4 1 1 = 9 := by decide
  have v12 : sE 0 5 1 = 9 := by decide
  have v13 : sE 0 1 4 = 2 := by decide
  go_enter Try.func20, Try.ntmps20
  go_wp2_with (first
    | (go_at_call 7; refine (hnew_any _).mono ?_; rintro r x ⟨rfl, h1, h2⟩; have M0 : Hid (MonP x w.heap.size newH hZ hZ) := h1; have HU := Lib.hid h2; clear h1 h2)
    | (go_at_call 22; refine (tells_any _ 0 1 1 _ M0.out (by decide) (small_of (by decide))).mono ?_; rintro r x ⟨rfl, h1, h2⟩; rw [v0]; have M1 : Hid (MonP x w.heap.size newH hT1 hZ) := h1; replace HU := Lib.hid (HU.out.trans (h2.below HU.out.size (fun q hq => by omega))); clear h1 h2 M0)
    | (go_at_call 22; refine (tells_any _ 0 4 0 _ M1.out (by decide) (small_of (by decide))).mono ?_; rintro r x ⟨rfl, h1, h2⟩; rw [v1]; have M2 : Hid (MonP x w.heap.size newH hT2 hZ) := h1; replace HU := Lib.hid (HU.out.trans (h2.below HU.out.size (fun q hq => by omega))); clear h1 h2 M1)
    | (go_at_call 10; refine (hset_any _ 0 4 2 _ M2.out).mono ?_; rintro r x ⟨rfl, h1, h2⟩; rw [v2]; have M3 : Hid (MonP x w.heap.size hH3 hT2 hZ) := h1; replace HU := Lib.hid (HU.out.trans (h2.below HU.out.size (fun q hq => by omega))); clear h1 h2 M2)
    | (go_at_call 22; refine (tells_any _ 0 4 2 _ M3.out (by decide) (small_of (by decide))).mono ?_; rintro r x ⟨rfl, h1, h2⟩; rw [v3]; have M4 : Hid (MonP x w.heap.size hH3 hT4 hZ) := h1; replace HU := Lib.hid (HU.out.trans (h2.below HU.out.size (fun q hq => by omega))); clear h1 h2 M3)
    | (go_at_call 18; refine (hcount_any _ 0 4 _ M4.out).mono ?_; rintro r x ⟨rfl, rfl⟩; rw [v4]; have M5 := M4; clear M4)
    | (go_at_call 12; refine (hpat_any _ 1 1 _ M5.out).mono ?_; rintro r x ⟨rfl, h1, h2⟩; rw [v5]; have M6 : Hid (MonP x w.heap.size hH3 hT4 hQ5) := h1; replace HU := Lib.hid (HU.out.trans (h2.below HU.out.size (fun q hq => by omega))); clear h1 h2 M5)
    | (go_at_call 22; refine (tells_any _ 1 3 1 _ M6.out (by decide) (small_of (by decide))).mono ?_; rintro r x ⟨rfl, h1, h2⟩; rw [v6]; have M7 : Hid (MonP x w.heap.size hH3 hT6 hQ5) := h1; replace HU := Lib.hid (HU.out.trans (h2.below HU.out.size (fun q hq => by omega))); clear h1 h2 M6)
    | (go_at_call 22; refine (tells_any _ 1 1 3 _ M7.out (by decide) (small_of (by decide))).mono ?_; rintro r x ⟨rfl, h1, h2⟩; rw [v7]; have M8 : Hid (MonP x w.heap.size hH3 hT7 hQ5) := h1; replace HU := Lib.hid (HU.out.trans (h2.below HU.out.size (fun q hq => by omega))); clear h1 h2 M7)
    | (go_at_call 16; refine (hclear_any _ 1 _ M8.out).mono ?_; rintro r x ⟨rfl, h1, h2⟩; rw [v8]; have M9 : Hid (MonP x w.heap.size hH3 hT8 hQ5) := h1; replace HU := Lib.hid (HU.out.trans (h2.below HU.out.size (fun q hq => by omega))); clear h1 h2 M8)
    | (go_at_call 22; refine (tells_any _ 1 1 1 _ M9.out (by decide) (small_of (by decide))).mono ?_; rintro r x ⟨rfl, h1, h2⟩; rw [v9]; have M10 : Hid (MonP x w.heap.size hH3 hT9 hQ5) := h1; replace HU := Lib.hid (HU.out.trans (h2.below HU.out.size (fun q hq => by omega))); clear h1 h2 M9)
    | (go_at_call 10; refine (hset_any _ 0 1 0 _ M10.out).mono ?_; rintro r x ⟨rfl, h1, h2⟩; rw [v10]; have M11 : Hid (MonP x w.heap.size hH10 hT9 hQ5) := h1; replace HU := Lib.hid (HU.out.trans (h2.below HU.out.size (fun q hq => by omega))); clear h1 h2 M10)
    | (go_at_call 10; refine (hset_any _ 4 1 1 _ M11.out).mono ?_; rintro r x ⟨rfl, h1, h2⟩; rw [v11]; have M12 : Hid (MonP x w.heap.size hH11 hT9 hQ5) := h1; replace HU := Lib.hid (HU.out.trans (h2.below HU.out.size (fun q hq => by omega))); clear h1 h2 M11)
    | (go_at_call 10; refine (hset_any _ 0 5 1 _ M12.out).mono ?_; rintro r x ⟨rfl, h1, h2⟩; rw [v12]; have M13 : Hid (MonP x w.heap.size hH12 hT9 hQ5) := h1; replace HU := Lib.hid (HU.out.trans (h2.below HU.out.size (fun q hq => by omega))); clear h1 h2 M12)
    | (go_at_call 10; refine (hset_any _ 0 1 4 _ M13.out).mono ?_; rintro r x ⟨rfl, h1, h2⟩; rw [v13]; have M14 : Hid (MonP x w.heap.size hH13 hT9 hQ5) := h1; replace HU := Lib.hid (HU.out.trans (h2.below HU.out.size (fun q hq => by omega))); clear h1 h2 M13))
  go_ret
  exact ⟨rfl, HU.out⟩
end Go.Proofs.Ythejgbagpnoadaa
