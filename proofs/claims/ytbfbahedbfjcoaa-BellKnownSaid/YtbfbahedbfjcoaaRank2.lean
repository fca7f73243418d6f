/- Package rank: how a heap lies, and a new one. -/
import Derived.Test.YtbfbahedbfjcoaaRank
namespace Go.Proofs.Ytbfbahedbfjcoaa
set_option linter.all false
open Go.RowKit

/-- A row of ids, and one more than where each one is. -/
def hpA (v : Value) (Pl : Nat → Int) : Array Value := (v :: (List.range 64).map (fun i => Value.int .i64 (Pl i))).toArray
def updP (f : Nat → Int) (i : Nat) (v : Int) : Nat → Int := fun j => if j = i then v else f j
theorem hpA_0 (v : Value) (Pl : Nat → Int) : (hpA v Pl)[0]? = some v := by unfold hpA; simp
theorem hpA_at (v : Value) (Pl : Nat → Int) (i : Nat) (h : i < 64) : (hpA v Pl)[1 + i]? = some (.int .i64 (Pl i)) := by
  unfold hpA
  rw [Nat.add_comm]
  simp [h]
theorem hpA_set0 (v u : Value) (Pl : Nat → Int) : (hpA v Pl).setIfInBounds 0 u = hpA u Pl := by
  unfold hpA
  simp
theorem hpA_set (v : Value) (Pl : Nat → Int) (i : Nat) (u : Int) : (hpA v Pl).setIfInBounds (1 + i) (.int .i64 u) = hpA v (updP Pl i u) := by
  apply Array.ext_getElem?
  intro j
  rw [Array.getElem?_setIfInBounds]
  cases j with
  | zero => rw [if_neg (by omega), hpA_0, hpA_0]
  | succ j =>
    by_cases hj : j < 64
    · rw [show j + 1 = 1 + j from by omega, hpA_at _ _ _ hj, hpA_at _ _ _ hj]
      by_cases hij : i = j
      · subst hij
        have : 1 + i < (hpA v Pl).size := by unfold hpA; simp; omega
        rw [if_pos rfl, if_pos this]
        unfold updP
        rw [if_pos rfl]
      · rw [if_neg (by omega)]
        unfold updP
        rw [if_neg (fun e => hij e.symm)]
    · have hs : (hpA v Pl).size = 65 := by unfold hpA; simp
      have hs2 : (hpA v (updP Pl i u)).size = 65 := by unfold hpA; simp
      rw [Array.getElem?_eq_none (by omega), Array.getElem?_eq_none (by omega)]
      split
      · rw [if_neg (by omega)]
      · rfl

theorem hp_zero : hpA (.slice none 0 0) (fun _ => 0) = (.slice none 0 0 :: (List.replicate 64 (Value.int .i64 0))).toArray := by kernel_rfl

theorem zero_heaped (w : World) : Sem.run Try.prog (zeroValue 63) w = Result.ok (.agg (Value.slice none 0 0 :: (List.replicate 64 (Value.int .i64 0))).toArray) w := by kernel_rfl

set_option maxRecDepth 100000 in
set_option maxHeartbeats 2000000 in
theorem rknew_any (w : World) : Calls Try.prog 23 #[] w fun r w' => r = .returned (.pointer (some ⟨w.heap.size + 1, 0, none⟩)) ∧ RkAt w' (w.heap.size + 1) w.heap.size ∧ Blk w' w.heap.size 63 (hpA (.slice none 0 0) (fun _ => 0)) ∧ Below w.heap.size w w' := by
  have hz := zero_heaped
  go_enter Try.func23, Try.ntmps23
  go_wp2_with fail
  go_ret
  refine ⟨rfl, ?_, ?_, ((Below.refl _ _).alloc (Nat.le_refl _) _).alloc (by simp) _⟩
  · have := Blk.new (w.alloc (.cells (hpA (.slice none 0 0) (fun _ => 0)) 63)) 65 #[.pointer (some ⟨w.heap.size, 0, none⟩)]
    simp only [World.size_alloc] at this
    exact this
  · exact (Blk.new w 63 (hpA (.slice none 0 0) (fun _ => 0))).alloc _
end Go.Proofs.Ytbfbahedbfjcoaa
