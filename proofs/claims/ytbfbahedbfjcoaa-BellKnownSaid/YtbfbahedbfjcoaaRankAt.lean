/- Package rank: where an id is. -/
import Derived.Test.YtbfbahedbfjcoaaRankLay
namespace Go.Proofs.Ytbfbahedbfjcoaa
set_option linter.all false
open Go.RowKit

set_option maxRecDepth 100000 in
set_option maxHeartbeats 2000000 in
theorem at_any {w : World} {g h : Nat} {v : Value} {Pl : Nat → Int} (id : Nat) (hr : RkAt w g h) (hb : Blk w h 63 (hpA v Pl)) (hid : id < 64) (hP : 0 ≤ Pl id ∧ Pl id ≤ 64) :
    Calls Try.prog 37 #[.pointer (some ⟨g, 0, none⟩), .int .i64 id] w fun r w' => r = .returned (.tuple #[.int .i64 (Pl id - 1), .bool (decide (0 < Pl id))]) ∧ Below w.heap.size w w' := by
  have H := Lib.hid hr
  have c0 : w.cell? ⟨g, 0, none⟩ = some (.pointer (some ⟨h, 0, none⟩)) := by simpa using hr.cell 0
  have d0 : w.cell? ⟨h, 1 + id, none⟩ = some (.int .i64 (Pl id)) := by rw [hb.cell]; exact hpA_at _ _ _ hid
  obtain ⟨p1, p2⟩ := hP
  have hx2 : (0 : Int) ≤ id := by omega
  have hx3 : (id : Int) < 64 := by omega
  have w1 : IntKind.i64.wrap (Pl id - 1) = Pl id - 1 := IntWalk.i64_in _ (by omega)
  have ha : (if 0 ≤ (id : Int) ∧ (id : Int) < 64 then (0 : Int) else 9) = 0 := if_pos ⟨hx2, hx3⟩
  have HA := Lib.hid ha
  clear hr hb ha
  go_enter Try.func37, Try.ntmps37
  go_wp2_with (go_at_call 39; refine (asked_any (id : Int) H.out).mono ?_; rintro r w1 ⟨rfl, rfl⟩; rw [HA.out])
  go_quiet (fail)
  go_wp2_with fail
  go_ret2
  exact ⟨rfl, belowN (Below.refl _ _) _⟩
end Go.Proofs.Ytbfbahedbfjcoaa
