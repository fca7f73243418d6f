/- The chapter's examples of supply answer true. -/
import Derived.Test.YtclbbnoinnmdnaaSupplyRef
namespace Go.Proofs.Ytclbbnoinnmdnaa
set_option linter.all false
open Go.RowKit

def wantL : List Int := [0, 0, 0, 0, 0, 0, 0, 1, 2, 2, 2, 2, 3, 4, 4]
theorem want_cell {w : World} {g : Nat} {t : TypeId} (h : Blk w g t #[.int .i64 0, .int .i64 0, .int .i64 0, .int .i64 0, .int .i64 0, .int .i64 0, .int .i64 0, .int .i64 1, .int .i64 2, .int .i64 2, .int .i64 2, .int .i64 2, .int .i64 3, .int .i64 4, .int .i64 4]) {k : Nat} (hk : k < 15) :
    w.cell? ⟨g, k, none⟩ = some (.int .i64 (givesI 5 2 k)) := by
  refine h.cellAt ?_
  match k, hk with
  | 0, _ => rfl
  | 1, _ => rfl
  | 2, _ => rfl
  | 3, _ => rfl
  | 4, _ => rfl
  | 5, _ => rfl
  | 6, _ => rfl
  | 7, _ => rfl
  | 8, _ => rfl
  | 9, _ => rfl
  | 10, _ => rfl
  | 11, _ => rfl
  | 12, _ => rfl
  | 13, _ => rfl
  | 14, _ => rfl

set_option maxRecDepth 100000 in
set_option maxHeartbeats 1000000 in
theorem supply_works (w : World) : Calls Try.prog 27 #[] w (Holds w) := by
  have k1 : givesI 1 1 7 = 7 := by decide
  have k2 : waitI 5 2 1 = 7 := by decide
  have k3 : waitI 5 2 3 = 12 := by decide
  have k4 : waitI 5 2 0 = 0 := by decide
  have s1 : OkS 1 1 := by unfold OkS; decide
  have s2 : OkS 5 2 := by unfold OkS; decide
  have s3 : ¬ (OkS 5 6 ∧ (0 : Int) ≤ 1 ∧ (1 : Int) ≤ 1048576) := by unfold OkS; omega
  have s4 : ¬ (OkS 0 0 ∧ (0 : Int) ≤ 1 ∧ (1 : Int) ≤ 1048576) := by unfold OkS; omega
  have S1 := Lib.hid s1
  have S2 := Lib.hid s2
  have S3 := Lib.hid s3
  have S4 := Lib.hid s4
  clear s1 s2 s3 s4
  go_enter Try.func27, Try.ntmps27
  go_wp2_with fail
  have hb0 := Blk.new w 3 #[.int .i64 0, .int .i64 0, .int .i64 0, .int .i64 0, .int .i64 0, .int .i64 0, .int .i64 0, .int .i64 1, .int .i64 2, .int .i64 2, .int .i64 2, .int .i64 2, .int .i64 3, .int .i64 4, .int .i64 4]
  go_loopw [2] (fun i wr => ∃ k : Nat, k ≤ 15 ∧ i = .int .i64 k ∧ Hid (Blk wr w.heap.size 3 #[.int .i64 0, .int .i64 0, .int .i64 0, .int .i64 0, .int .i64 0, .int .i64 0, .int .i64 0, .int .i64 1, .int .i64 2, .int .i64 2, .int .i64 2, .int .i64 2, .int .i64 3, .int .i64 4, .int .i64 4]) ∧ Below w.heap.size w wr) (fun i _ => 15 - (intOf i).toNat)
  case atStart => exact ⟨0, by omega, rfl, hb0, (Below.refl _ _).alloc (Nat.le_refl _) _⟩
  case round =>
    obtain ⟨k, hk, rfl, hb, hB⟩ := hrel
    have HBB := Lib.hid hB
    clear hb0 hB
    by_cases hlt : k < 15
    · have hcell := want_cell hb.out hlt
      have hy : w.heap.size < wr.heap.size := hb.out.lt
      go_wp2_with (go_at_call 25; refine (Of_ok 5 2 k _ S2.out (by omega)).mono ?_; rintro r w1 ⟨rfl, hx⟩; have hcell1 : w1.cell? ⟨w.heap.size, k, none⟩ = some (.int .i64 (givesI 5 2 k)) := (hx.cell (p := ⟨w.heap.size, k, none⟩) hy).trans hcell; have HX := Lib.hid hx; clear hx)
      exact ⟨⟨k + 1, by omega, by go_num, hb.out.below HX.out hy, HBB.out.trans (HX.out.mono HBB.out.size)⟩, by simp [intOf]; omega⟩
    · obtain rfl : k = 15 := by omega
      clear hlt hk
      have hU := HBB.out
      have HU := Lib.hid hU
      clear hU
      go_wp2_with (first
        | (go_at_call 25; refine (Of_ok _ _ _ _ (by first | exact S1.out | exact S2.out) (by omega)).mono ?_; rintro r w1 ⟨rfl, hx⟩; replace HU := Lib.hid (HU.out.trans (hx.mono HU.out.size)); clear hx)
        | (go_at_call 25; refine (Of_no _ _ _ _ (by first | exact S3.out | exact S4.out)).mono ?_; rintro r w1 ⟨rfl, hx⟩; replace HU := Lib.hid (HU.out.trans (hx.mono HU.out.size)); clear hx)
        | (go_at_call 28; refine (Wait_ok _ _ _ _ (by first | exact S1.out | exact S2.out) (by omega)).mono ?_; rintro r w1 ⟨rfl, hx⟩; replace HU := Lib.hid (HU.out.trans (hx.mono HU.out.size)); clear hx))
      go_ret
      exact ⟨rfl, HU.out⟩
end Go.Proofs.Ytclbbnoinnmdnaa
