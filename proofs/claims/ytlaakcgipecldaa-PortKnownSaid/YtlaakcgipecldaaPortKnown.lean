/- PortKnown: the walk of the closed law. -/
import Derived.Test.YtlaakcgipecldaaPortPlays
namespace Go.Proofs.Ytlaakcgipecldaa
set_option linter.all false
open Go.RowKit
attribute [local go_sem ↓] Go.wp_at_zero Go.wp_at_succ

def NoWay (w : World) (v : Value) : Prop := Calls Try.prog 33 #[v] w fun r w' => r = .returned (.bool true) ∧ w = w'
theorem noway_nil (w : World) : NoWay w (.pointer none) := by
  unfold NoWay
  go_enter Try.func33, Try.ntmps33
  go_wp2_with fail
  go_ret
  exact ⟨rfl, rfl⟩
theorem noway_zero {w : World} {g : Nat} (h : Blk w g 49 #[.int .i64 0, .nilIface]) : NoWay w (.pointer (some ⟨g, 0, none⟩)) := by
  have c1 := h.cell 1
  simp at c1
  clear h
  unfold NoWay
  go_enter Try.func33, Try.ntmps33
  go_wp2_with fail
  go_ret
  exact ⟨rfl, rfl⟩
theorem nosend {w : World} {v : Value} (m t : Value) (h : NoWay w v) : Calls Try.prog 13 #[v, m, t] w fun r w' => r = .returned (.int .i64 1) ∧ w = w' := by
  have H := Lib.hid h
  clear h
  go_enter Try.func13, Try.ntmps13
  go_wp2_with (go_at_call 33; refine H.out.mono ?_; rintro r w1 ⟨rfl, rfl⟩)
  go_ret
  exact ⟨rfl, rfl⟩
theorem norecv {w : World} {v : Value} (t : Value) (h : NoWay w v) : Calls Try.prog 12 #[v, t] w fun r w' => r = .returned (.tuple #[.string ⟨#[]⟩, .bool false, .int .i64 1]) ∧ w = w' := by
  have H := Lib.hid h
  clear h
  go_enter Try.func12, Try.ntmps12
  go_wp2_with (go_at_call 33; refine H.out.mono ?_; rintro r w1 ⟨rfl, rfl⟩)
  go_ret3
  exact ⟨rfl, rfl⟩
theorem nolen {w : World} {v : Value} (h : NoWay w v) : Calls Try.prog 14 #[v] w fun r w' => r = .returned (.int .i64 0) ∧ w = w' := by
  have H := Lib.hid h
  clear h
  go_enter Try.func14, Try.ntmps14
  go_wp2_with (go_at_call 33; refine H.out.mono ?_; rintro r w1 ⟨rfl, rfl⟩)
  go_ret
  exact ⟨rfl, rfl⟩
theorem noclear {w : World} {v : Value} (h : NoWay w v) : Calls Try.prog 20 #[v] w fun r w' => r = .returned (.tuple #[]) ∧ w = w' := by
  have H := Lib.hid h
  clear h
  go_enter Try.func20, Try.ntmps20
  go_wp2_with (go_at_call 33; refine H.out.mono ?_; rintro r w1 ⟨rfl, rfl⟩)
  exact bodyPost_ret (v := .tuple #[]) (by simp [results, Try.results20]) rfl ⟨rfl, rfl⟩

theorem infoDo : (Try.prog.info? 42).map (fun i => (i.zero, i.size, i.bytes)) = some (some (.agg #[.int .i64 0, .int .i64 0, .string ⟨#[]⟩]), 3, 32) := by kernel_rfl
theorem doCells : (Value.agg #[.int .i64 0, .int .i64 0, .string ⟨#[]⟩]).cells.size = 3 := by kernel_rfl
def endsL : List Int := [-9223372036854775808, -1, 0, 1, 64, 65, 1099511627776, 1099511627777, 9223372036854775807]
def portsL : List Int := [0, 0, 0, 0, 0, 0, 1, 0, 1, 1, 0, 1, 1, 0, 1, 16, 0, 64, 1, 0, 1, 17, 0, 1, 1, 0, 1, 0, 0, 1, 1, 0, 1, 1, 0, 65, 1, 0, 1, 1, 0, 0, 1, 0, 1, 1, 1, 1, 2, 0, 1, 1, 1, 0, 2, 0, 3, 2, 4, 0, 2, 0, 1, 1, 5, 0, 2, 0, 1, 1, 1, 1, 2, 0, 1, 1, 0, 0, 3, 0, 1, 1, 1, 0, 2, 0, 4, 1, 1, 0, 2, -1, 0, 1, 1, 0, 2, 2, 2, 1, 1, 0, 2, 4, 0, 1, 1, 0]
theorem I64_dec (l : List Int) (h : ∀ z, z ∈ l → -9223372036854775808 ≤ z ∧ z ≤ 9223372036854775807) (k : Nat) : -9223372036854775808 ≤ l.getD k 0 ∧ l.getD k 0 ≤ 9223372036854775807 := by
  rw [List.getD_eq_getElem?_getD]
  rcases Nat.lt_or_ge k l.length with h1 | h1
  · rw [List.getElem?_eq_getElem h1]; exact h _ (List.getElem_mem h1)
  · rw [List.getElem?_eq_none h1]; decide
theorem row_cell {w : World} {g : Nat} {t : TypeId} {l : List Int} (h : Blk w g t (l.map (Value.int .i64)).toArray) {k : Nat} (hk : k < l.length) : w.cell? ⟨g, k, none⟩ = some (.int .i64 (l.getD k 0)) := by
  rw [h.cell k]
  simp [hk]
theorem good7 {z : Int} (h : -9223372036854775808 ≤ z ∧ z ≤ 9223372036854775807) : GoodC [.int .i64, .int .i64, .str] 7 [.int .i64 0, .int .i64 z, .string ⟨#[97]⟩, .int .i64 1, .int .i64 z, .string ⟨#[]⟩, .int .i64 0, .int .i64 1, .string ⟨#[48, 49, 50, 51, 52, 53, 54, 55, 56, 57, 97, 98, 99, 100, 101, 102]⟩, .int .i64 0, .int .i64 0, .string ⟨#[48, 49, 50, 51, 52, 53, 54, 55, 56, 57, 97, 98, 99, 100, 101, 102, 48]⟩, .int .i64 1, .int .i64 66, .string ⟨#[]⟩, .int .i64 0, .int .i64 0, .string ⟨#[]⟩, .int .i64 1, .int .i64 0, .string ⟨#[]⟩] := by
  refine ⟨rfl, fun i hi j l hj => ?_⟩
  have hj2 : j < 3 := by
    rcases Nat.lt_or_ge j 3 with h3 | h3
    · exact h3
    · rw [List.getElem?_eq_none (by simpa using h3)] at hj; cases hj
  match i, hi, j, hj2, hj with
  | 0, _, 0, _, hj => cases hj; exact Leaf.int_ok (by decide)
  | 0, _, 1, _, hj => cases hj; exact Leaf.int_ok h
  | 0, _, 2, _, hj => cases hj; exact ⟨_, rfl, by decide⟩
  | 1, _, 0, _, hj => cases hj; exact Leaf.int_ok (by decide)
  | 1, _, 1, _, hj => cases hj; exact Leaf.int_ok h
  | 1, _, 2, _, hj => cases hj; exact ⟨_, rfl, by decide⟩
  | 2, _, 0, _, hj => cases hj; exact Leaf.int_ok (by decide)
  | 2, _, 1, _, hj => cases hj; exact Leaf.int_ok (by decide)
  | 2, _, 2, _, hj => cases hj; exact ⟨_, rfl, by decide⟩
  | 3, _, 0, _, hj => cases hj; exact Leaf.int_ok (by decide)
  | 3, _, 1, _, hj => cases hj; exact Leaf.int_ok (by decide)
  | 3, _, 2, _, hj => cases hj; exact ⟨_, rfl, by decide⟩
  | 4, _, 0, _, hj => cases hj; exact Leaf.int_ok (by decide)
  | 4, _, 1, _, hj => cases hj; exact Leaf.int_ok (by decide)
  | 4, _, 2, _, hj => cases hj; exact ⟨_, rfl, by decide⟩
  | 5, _, 0, _, hj => cases hj; exact Leaf.int_ok (by decide)
  | 5, _, 1, _, hj => cases hj; exact Leaf.int_ok (by decide)
  | 5, _, 2, _, hj => cases hj; exact ⟨_, rfl, by decide⟩
  | 6, _, 0, _, hj => cases hj; exact Leaf.int_ok (by decide)
  | 6, _, 1, _, hj => cases hj; exact Leaf.int_ok (by decide)
  | 6, _, 2, _, hj => cases hj; exact ⟨_, rfl, by decide⟩
theorem good2' : GoodC [.int .i64, .int .i64, .str] 2 [.int .i64 2, .int .i64 0, .string ⟨#[]⟩, .int .i64 1, .int .i64 0, .string ⟨#[]⟩] := by
  refine ⟨rfl, fun i hi j l hj => ?_⟩
  have hj2 : j < 3 := by
    rcases Nat.lt_or_ge j 3 with h3 | h3
    · exact h3
    · rw [List.getElem?_eq_none (by simpa using h3)] at hj; cases hj
  match i, hi, j, hj2, hj with
  | 0, _, 0, _, hj => cases hj; exact Leaf.int_ok (by decide)
  | 0, _, 1, _, hj => cases hj; exact Leaf.int_ok (by decide)
  | 0, _, 2, _, hj => cases hj; exact ⟨_, rfl, by decide⟩
  | 1, _, 0, _, hj => cases hj; exact Leaf.int_ok (by decide)
  | 1, _, 1, _, hj => cases hj; exact Leaf.int_ok (by decide)
  | 1, _, 2, _, hj => cases hj; exact ⟨_, rfl, by decide⟩

set_option maxRecDepth 100000 in
set_option maxHeartbeats 8000000 in
theorem portKnown_core (w : World) : Calls Try.prog 6 #[] w (Holds w) := by
  obtain ⟨i0, hi0, hz0, hz1, hz2⟩ := info_parts infoDo
  go_enter Try.func6, Try.ntmps6
  go_wp2_with fail
  refine wp_loop_rounds 3 ?_
  rw [rounds_succ]
  go_wp2_with (first
    | (go_at_call 12; refine (norecv _ (noway_nil _)).mono ?_; rintro r x1 ⟨rfl, rfl⟩)
    | (go_at_call 20; refine (noclear (noway_nil _)).mono ?_; rintro r x1 ⟨rfl, rfl⟩)
    | (go_at_call 13; refine (nosend _ _ (noway_nil _)).mono ?_; rintro r x1 ⟨rfl, rfl⟩)
    | (go_at_call 14; refine (nolen (noway_nil _)).mono ?_; rintro r x1 ⟨rfl, rfl⟩))
  rw [rounds_succ]
  go_wp2_with (first
    | (go_at_call 12; refine (norecv _ (noway_zero (Blk.new _ _ _))).mono ?_; rintro r x1 ⟨rfl, rfl⟩)
    | (go_at_call 20; refine (noclear (noway_zero (Blk.new _ _ _))).mono ?_; rintro r x1 ⟨rfl, rfl⟩)
    | (go_at_call 13; refine (nosend _ _ (noway_zero (Blk.new _ _ _))).mono ?_; rintro r x1 ⟨rfl, rfl⟩)
    | (go_at_call 14; refine (nolen (noway_zero (Blk.new _ _ _))).mono ?_; rintro r x1 ⟨rfl, rfl⟩))
  rw [rounds_succ]
  go_wp2_with fail
  obtain ⟨wA, hwA⟩ : ∃ wA : World, wA = (w.alloc (.cells #[.int .i64 0, .nilIface] 49)).alloc (.cells #[.int .i64 0, .nilIface] 49) := ⟨_, rfl⟩
  have hA : Below w.heap.size w wA := by rw [hwA]; exact ((Below.refl _ _).alloc (Nat.le_refl _) _).alloc (by simp) _
  have hAs : wA.heap.size = w.heap.size + 1 + 1 := by rw [hwA]; simp
  have hP := (Blk.new wA 30 #[.int .i64 0, .int .i64 0, .int .i64 0, .int .i64 0, .int .i64 0, .int .i64 0, .int .i64 1, .int .i64 0, .int .i64 1, .int .i64 1, .int .i64 0, .int .i64 1, .int .i64 1, .int .i64 0, .int .i64 1, .int .i64 16, .int .i64 0, .int .i64 64, .int .i64 1, .int .i64 0, .int .i64 1, .int .i64 17, .int .i64 0, .int .i64 1, .int .i64 1, .int .i64 0, .int .i64 1, .int .i64 0, .int .i64 0, .int .i64 1, .int .i64 1, .int .i64 0, .int .i64 1, .int .i64 1, .int .i64 0, .int .i64 65, .int .i64 1, .int .i64 0, .int .i64 1, .int .i64 1, .int .i64 0, .int .i64 0, .int .i64 1, .int .i64 0, .int .i64 1, .int .i64 1, .int .i64 1, .int .i64 1, .int .i64 2, .int .i64 0, .int .i64 1, .int .i64 1, .int .i64 1, .int .i64 0, .int .i64 2, .int .i64 0, .int .i64 3, .int .i64 2, .int .i64 4, .int .i64 0, .int .i64 2, .int .i64 0, .int .i64 1, .int .i64 1, .int .i64 5, .int .i64 0, .int .i64 2, .int .i64 0, .int .i64 1, .int .i64 1, .int .i64 1, .int .i64 1, .int .i64 2, .int .i64 0, .int .i64 1, .int .i64 1, .int .i64 0, .int .i64 0, .int .i64 3, .int .i64 0, .int .i64 1, .int .i64 1, .int .i64 1, .int .i64 0, .int .i64 2, .int .i64 0, .int .i64 4, .int .i64 1, .int .i64 1, .int .i64 0, .int .i64 2, .int .i64 (-1), .int .i64 0, .int .i64 1, .int .i64 1, .int .i64 0, .int .i64 2, .int .i64 2, .int .i64 2, .int .i64 1, .int .i64 1, .int .i64 0, .int .i64 2, .int .i64 4, .int .i64 0, .int .i64 1, .int .i64 1, .int .i64 0]).alloc (.cells #[.int .i64 (-9223372036854775808), .int .i64 (-1), .int .i64 0, .int .i64 1, .int .i64 64, .int .i64 65, .int .i64 1099511627776, .int .i64 1099511627777, .int .i64 9223372036854775807] 3)
  have hE := Blk.new (wA.alloc (.cells #[.int .i64 0, .int .i64 0, .int .i64 0, .int .i64 0, .int .i64 0, .int .i64 0, .int .i64 1, .int .i64 0, .int .i64 1, .int .i64 1, .int .i64 0, .int .i64 1, .int .i64 1, .int .i64 0, .int .i64 1, .int .i64 16, .int .i64 0, .int .i64 64, .int .i64 1, .int .i64 0, .int .i64 1, .int .i64 17, .int .i64 0, .int .i64 1, .int .i64 1, .int .i64 0, .int .i64 1, .int .i64 0, .int .i64 0, .int .i64 1, .int .i64 1, .int .i64 0, .int .i64 1, .int .i64 1, .int .i64 0, .int .i64 65, .int .i64 1, .int .i64 0, .int .i64 1, .int .i64 1, .int .i64 0, .int .i64 0, .int .i64 1, .int .i64 0, .int .i64 1, .int .i64 1, .int .i64 1, .int .i64 1, .int .i64 2, .int .i64 0, .int .i64 1, .int .i64 1, .int .i64 1, .int .i64 0, .int .i64 2, .int .i64 0, .int .i64 3, .int .i64 2, .int .i64 4, .int .i64 0, .int .i64 2, .int .i64 0, .int .i64 1, .int .i64 1, .int .i64 5, .int .i64 0, .int .i64 2, .int .i64 0, .int .i64 1, .int .i64 1, .int .i64 1, .int .i64 1, .int .i64 2, .int .i64 0, .int .i64 1, .int .i64 1, .int .i64 0, .int .i64 0, .int .i64 3, .int .i64 0, .int .i64 1, .int .i64 1, .int .i64 1, .int .i64 0, .int .i64 2, .int .i64 0, .int .i64 4, .int .i64 1, .int .i64 1, .int .i64 0, .int .i64 2, .int .i64 (-1), .int .i64 0, .int .i64 1, .int .i64 1, .int .i64 0, .int .i64 2, .int .i64 2, .int .i64 2, .int .i64 1, .int .i64 1, .int .i64 0, .int .i64 2, .int .i64 4, .int .i64 0, .int .i64 1, .int .i64 1, .int .i64 0] 30)) 3 #[.int .i64 (-9223372036854775808), .int .i64 (-1), .int .i64 0, .int .i64 1, .int .i64 64, .int .i64 65, .int .i64 1099511627776, .int .i64 1099511627777, .int .i64 9223372036854775807]
  have hB := (hA.alloc (by omega) (.cells #[.int .i64 0, .int .i64 0, .int .i64 0, .int .i64 0, .int .i64 0, .int .i64 0, .int .i64 1, .int .i64 0, .int .i64 1, .int .i64 1, .int .i64 0, .int .i64 1, .int .i64 1, .int .i64 0, .int .i64 1, .int .i64 16, .int .i64 0, .int .i64 64, .int .i64 1, .int .i64 0, .int .i64 1, .int .i64 17, .int .i64 0, .int .i64 1, .int .i64 1, .int .i64 0, .int .i64 1, .int .i64 0, .int .i64 0, .int .i64 1, .int .i64 1, .int .i64 0, .int .i64 1, .int .i64 1, .int .i64 0, .int .i64 65, .int .i64 1, .int .i64 0, .int .i64 1, .int .i64 1, .int .i64 0, .int .i64 0, .int .i64 1, .int .i64 0, .int .i64 1, .int .i64 1, .int .i64 1, .int .i64 1, .int .i64 2, .int .i64 0, .int .i64 1, .int .i64 1, .int .i64 1, .int .i64 0, .int .i64 2, .int .i64 0, .int .i64 3, .int .i64 2, .int .i64 4, .int .i64 0, .int .i64 2, .int .i64 0, .int .i64 1, .int .i64 1, .int .i64 5, .int .i64 0, .int .i64 2, .int .i64 0, .int .i64 1, .int .i64 1, .int .i64 1, .int .i64 1, .int .i64 2, .int .i64 0, .int .i64 1, .int .i64 1, .int .i64 0, .int .i64 0, .int .i64 3, .int .i64 0, .int .i64 1, .int .i64 1, .int .i64 1, .int .i64 0, .int .i64 2, .int .i64 0, .int .i64 4, .int .i64 1, .int .i64 1, .int .i64 0, .int .i64 2, .int .i64 (-1), .int .i64 0, .int .i64 1, .int .i64 1, .int .i64 0, .int .i64 2, .int .i64 2, .int .i64 2, .int .i64 1, .int .i64 1, .int .i64 0, .int .i64 2, .int .i64 4, .int .i64 0, .int .i64 1, .int .i64 1, .int .i64 0] 30)).alloc (by simp; omega) (.cells #[.int .i64 (-9223372036854775808), .int .i64 (-1), .int .i64 0, .int .i64 1, .int .i64 64, .int .i64 65, .int .i64 1099511627776, .int .i64 1099511627777, .int .i64 9223372036854775807] 3)
  simp only [World.size_alloc] at hE
  rw [hAs] at hP hE
  have HA : Hid (Blk ((wA.alloc (.cells #[.int .i64 0, .int .i64 0, .int .i64 0, .int .i64 0, .int .i64 0, .int .i64 0, .int .i64 1, .int .i64 0, .int .i64 1, .int .i64 1, .int .i64 0, .int .i64 1, .int .i64 1, .int .i64 0, .int .i64 1, .int .i64 16, .int .i64 0, .int .i64 64, .int .i64 1, .int .i64 0, .int .i64 1, .int .i64 17, .int .i64 0, .int .i64 1, .int .i64 1, .int .i64 0, .int .i64 1, .int .i64 0, .int .i64 0, .int .i64 1, .int .i64 1, .int .i64 0, .int .i64 1, .int .i64 1, .int .i64 0, .int .i64 65, .int .i64 1, .int .i64 0, .int .i64 1, .int .i64 1, .int .i64 0, .int .i64 0, .int .i64 1, .int .i64 0, .int .i64 1, .int .i64 1, .int .i64 1, .int .i64 1, .int .i64 2, .int .i64 0, .int .i64 1, .int .i64 1, .int .i64 1, .int .i64 0, .int .i64 2, .int .i64 0, .int .i64 3, .int .i64 2, .int .i64 4, .int .i64 0, .int .i64 2, .int .i64 0, .int .i64 1, .int .i64 1, .int .i64 5, .int .i64 0, .int .i64 2, .int .i64 0, .int .i64 1, .int .i64 1, .int .i64 1, .int .i64 1, .int .i64 2, .int .i64 0, .int .i64 1, .int .i64 1, .int .i64 0, .int .i64 0, .int .i64 3, .int .i64 0, .int .i64 1, .int .i64 1, .int .i64 1, .int .i64 0, .int .i64 2, .int .i64 0, .int .i64 4, .int .i64 1, .int .i64 1, .int .i64 0, .int .i64 2, .int .i64 (-1), .int .i64 0, .int .i64 1, .int .i64 1, .int .i64 0, .int .i64 2, .int .i64 2, .int .i64 2, .int .i64 1, .int .i64 1, .int .i64 0, .int .i64 2, .int .i64 4, .int .i64 0, .int .i64 1, .int .i64 1, .int .i64 0] 30)).alloc (.cells #[.int .i64 (-9223372036854775808), .int .i64 (-1), .int .i64 0, .int .i64 1, .int .i64 64, .int .i64 65, .int .i64 1099511627776, .int .i64 1099511627777, .int .i64 9223372036854775807] 3)) (w.heap.size + 1 + 1) 30 (portsL.map (Value.int .i64)).toArray ∧ Blk ((wA.alloc (.cells #[.int .i64 0, .int .i64 0, .int .i64 0, .int .i64 0, .int .i64 0, .int .i64 0, .int .i64 1, .int .i64 0, .int .i64 1, .int .i64 1, .int .i64 0, .int .i64 1, .int .i64 1, .int .i64 0, .int .i64 1, .int .i64 16, .int .i64 0, .int .i64 64, .int .i64 1, .int .i64 0, .int .i64 1, .int .i64 17, .int .i64 0, .int .i64 1, .int .i64 1, .int .i64 0, .int .i64 1, .int .i64 0, .int .i64 0, .int .i64 1, .int .i64 1, .int .i64 0, .int .i64 1, .int .i64 1, .int .i64 0, .int .i64 65, .int .i64 1, .int .i64 0, .int .i64 1, .int .i64 1, .int .i64 0, .int .i64 0, .int .i64 1, .int .i64 0, .int .i64 1, .int .i64 1, .int .i64 1, .int .i64 1, .int .i64 2, .int .i64 0, .int .i64 1, .int .i64 1, .int .i64 1, .int .i64 0, .int .i64 2, .int .i64 0, .int .i64 3, .int .i64 2, .int .i64 4, .int .i64 0, .int .i64 2, .int .i64 0, .int .i64 1, .int .i64 1, .int .i64 5, .int .i64 0, .int .i64 2, .int .i64 0, .int .i64 1, .int .i64 1, .int .i64 1, .int .i64 1, .int .i64 2, .int .i64 0, .int .i64 1, .int .i64 1, .int .i64 0, .int .i64 0, .int .i64 3, .int .i64 0, .int .i64 1, .int .i64 1, .int .i64 1, .int .i64 0, .int .i64 2, .int .i64 0, .int .i64 4, .int .i64 1, .int .i64 1, .int .i64 0, .int .i64 2, .int .i64 (-1), .int .i64 0, .int .i64 1, .int .i64 1, .int .i64 0, .int .i64 2, .int .i64 2, .int .i64 2, .int .i64 1, .int .i64 1, .int .i64 0, .int .i64 2, .int .i64 4, .int .i64 0, .int .i64 1, .int .i64 1, .int .i64 0] 30)).alloc (.cells #[.int .i64 (-9223372036854775808), .int .i64 (-1), .int .i64 0, .int .i64 1, .int .i64 64, .int .i64 65, .int .i64 1099511627776, .int .i64 1099511627777, .int .i64 9223372036854775807] 3)) (w.heap.size + 1 + 1 + 1) 3 (endsL.map (Value.int .i64)).toArray ∧ Below w.heap.size w ((wA.alloc (.cells #[.int .i64 0, .int .i64 0, .int .i64 0, .int .i64 0, .int .i64 0, .int .i64 0, .int .i64 1, .int .i64 0, .int .i64 1, .int .i64 1, .int .i64 0, .int .i64 1, .int .i64 1, .int .i64 0, .int .i64 1, .int .i64 16, .int .i64 0, .int .i64 64, .int .i64 1, .int .i64 0, .int .i64 1, .int .i64 17, .int .i64 0, .int .i64 1, .int .i64 1, .int .i64 0, .int .i64 1, .int .i64 0, .int .i64 0, .int .i64 1, .int .i64 1, .int .i64 0, .int .i64 1, .int .i64 1, .int .i64 0, .int .i64 65, .int .i64 1, .int .i64 0, .int .i64 1, .int .i64 1, .int .i64 0, .int .i64 0, .int .i64 1, .int .i64 0, .int .i64 1, .int .i64 1, .int .i64 1, .int .i64 1, .int .i64 2, .int .i64 0, .int .i64 1, .int .i64 1, .int .i64 1, .int .i64 0, .int .i64 2, .int .i64 0, .int .i64 3, .int .i64 2, .int .i64 4, .int .i64 0, .int .i64 2, .int .i64 0, .int .i64 1, .int .i64 1, .int .i64 5, .int .i64 0, .int .i64 2, .int .i64 0, .int .i64 1, .int .i64 1, .int .i64 1, .int .i64 1, .int .i64 2, .int .i64 0, .int .i64 1, .int .i64 1, .int .i64 0, .int .i64 0, .int .i64 3, .int .i64 0, .int .i64 1, .int .i64 1, .int .i64 1, .int .i64 0, .int .i64 2, .int .i64 0, .int .i64 4, .int .i64 1, .int .i64 1, .int .i64 0, .int .i64 2, .int .i64 (-1), .int .i64 0, .int .i64 1, .int .i64 1, .int .i64 0, .int .i64 2, .int .i64 2, .int .i64 2, .int .i64 1, .int .i64 1, .int .i64 0, .int .i64 2, .int .i64 4, .int .i64 0, .int .i64 1, .int .i64 1, .int .i64 0] 30)).alloc (.cells #[.int .i64 (-9223372036854775808), .int .i64 (-1), .int .i64 0, .int .i64 1, .int .i64 64, .int .i64 65, .int .i64 1099511627776, .int .i64 1099511627777, .int .i64 9223372036854775807] 3))) := ⟨hP, hE, hB⟩
  rw [← hwA]
  generalize ((wA.alloc (.cells #[.int .i64 0, .int .i64 0, .int .i64 0, .int .i64 0, .int .i64 0, .int .i64 0, .int .i64 1, .int .i64 0, .int .i64 1, .int .i64 1, .int .i64 0, .int .i64 1, .int .i64 1, .int .i64 0, .int .i64 1, .int .i64 16, .int .i64 0, .int .i64 64, .int .i64 1, .int .i64 0, .int .i64 1, .int .i64 17, .int .i64 0, .int .i64 1, .int .i64 1, .int .i64 0, .int .i64 1, .int .i64 0, .int .i64 0, .int .i64 1, .int .i64 1, .int .i64 0, .int .i64 1, .int .i64 1, .int .i64 0, .int .i64 65, .int .i64 1, .int .i64 0, .int .i64 1, .int .i64 1, .int .i64 0, .int .i64 0, .int .i64 1, .int .i64 0, .int .i64 1, .int .i64 1, .int .i64 1, .int .i64 1, .int .i64 2, .int .i64 0, .int .i64 1, .int .i64 1, .int .i64 1, .int .i64 0, .int .i64 2, .int .i64 0, .int .i64 3, .int .i64 2, .int .i64 4, .int .i64 0, .int .i64 2, .int .i64 0, .int .i64 1, .int .i64 1, .int .i64 5, .int .i64 0, .int .i64 2, .int .i64 0, .int .i64 1, .int .i64 1, .int .i64 1, .int .i64 1, .int .i64 2, .int .i64 0, .int .i64 1, .int .i64 1, .int .i64 0, .int .i64 0, .int .i64 3, .int .i64 0, .int .i64 1, .int .i64 1, .int .i64 1, .int .i64 0, .int .i64 2, .int .i64 0, .int .i64 4, .int .i64 1, .int .i64 1, .int .i64 0, .int .i64 2, .int .i64 (-1), .int .i64 0, .int .i64 1, .int .i64 1, .int .i64 0, .int .i64 2, .int .i64 2, .int .i64 2, .int .i64 1, .int .i64 1, .int .i64 0, .int .i64 2, .int .i64 4, .int .i64 0, .int .i64 1, .int .i64 1, .int .i64 0] 30)).alloc (.cells #[.int .i64 (-9223372036854775808), .int .i64 (-1), .int .i64 0, .int .i64 1, .int .i64 64, .int .i64 65, .int .i64 1099511627776, .int .i64 1099511627777, .int .i64 9223372036854775807] 3)) = wB at HA ⊢
  clear hA hwA hAs hP hE hB
  go_loopw [7, 9] (fun v j wr => ∃ (m : Nat) (xs : List Value), m ≤ 9 ∧ j = .int .i64 m ∧ Hid (wr.ownsRow (w.heap.size + 1 + 1 + 1 + 1) 42 3 v (m * 7) xs ∧ GoodC [.int .i64, .int .i64, .str] (m * 7) xs) ∧ Hid (Blk wr (w.heap.size + 1 + 1) 30 (portsL.map (Value.int .i64)).toArray ∧ Blk wr (w.heap.size + 1 + 1 + 1) 3 (endsL.map (Value.int .i64)).toArray ∧ Below w.heap.size w wr)) (fun _ j _ => 9 - (intOf j).toNat)
  case atStart => exact ⟨0, [], by omega, rfl, ⟨World.ownsRow_nil _ _ _ _, GoodC.nil _⟩, HA.out⟩
  case round =>
    obtain ⟨m, xs, hm, rfl, hown, HR⟩ := hrel
    clear HA
    have hsz : w.heap.size + 1 + 1 + 1 + 1 ≤ wr.heap.size := by have := Blk.lt HR.out.2.1; omega
    have HG := Lib.hid hown.out.2
    have H1 := hown.out.1
    have hne' : ∀ b, b < w.heap.size + 1 + 1 + 1 + 1 → some b ≠ u7.ownBlock := by
      intro b hb e
      rcases H1.2 with ⟨h, _⟩ | ⟨g, cap, cur, h, hg, _⟩
      · rw [h] at e; simp [Value.ownBlock] at e
      · rw [h] at e; simp [Value.ownBlock] at e; omega
    have hne := Lib.hid hne'
    clear hne'
    by_cases hc2 : m < 9
    · have hcell : wr.cell? ⟨w.heap.size + 1 + 1 + 1, m, none⟩ = some (.int .i64 (endsL.getD m 0)) := row_cell HR.out.2.1 hc2
      have hzb := I64_dec endsL (by decide) m
      obtain ⟨z, hz⟩ : ∃ z, z = endsL.getD m 0 := ⟨_, rfl⟩
      rw [← hz] at hcell hzb
      clear hz
      have hx0 : (0 : Int) ≤ (m : Int) := by omega
      have hx1 : (m : Int) < 9 := by omega
      go_wp2_with fail
      go_region_held3 (fun w' => w'.cell? ⟨w.heap.size + 1 + 1 + 1, m, none⟩ = some (.int .i64 z)) (first | go_keep | (rw [hgrow.cell_far _ (by simp; omega) (hne.out _ (by simp))]; assumption))
        ((refine step_append_lies _ (by rfl) _ _ _ (by rfl) (w.heap.size + 1 + 1 + 1 + 1) 42 i0 _ 3 32 Try.underlying36 hi0 hz0 hz1 hz2 doCells (by omega) u7 (m * 7) xs (by rfl) ((H1.alloc _).drew)
            ⟨wr.heap.size, 0, none⟩ 7 7 [.int .i64 0, .int .i64 z, .string ⟨#[97]⟩, .int .i64 1, .int .i64 z, .string ⟨#[]⟩, .int .i64 0, .int .i64 1, .string ⟨#[48, 49, 50, 51, 52, 53, 54, 55, 56, 57, 97, 98, 99, 100, 101, 102]⟩, .int .i64 0, .int .i64 0, .string ⟨#[48, 49, 50, 51, 52, 53, 54, 55, 56, 57, 97, 98, 99, 100, 101, 102, 48]⟩, .int .i64 1, .int .i64 66, .string ⟨#[]⟩, .int .i64 0, .int .i64 0, .string ⟨#[]⟩, .int .i64 1, .int .i64 0, .string ⟨#[]⟩] (by rfl) (by rfl) (World.news_of_block (cs := #[.int .i64 0, .int .i64 z, .string ⟨#[97]⟩, .int .i64 1, .int .i64 z, .string ⟨#[]⟩, .int .i64 0, .int .i64 1, .string ⟨#[48, 49, 50, 51, 52, 53, 54, 55, 56, 57, 97, 98, 99, 100, 101, 102]⟩, .int .i64 0, .int .i64 0, .string ⟨#[48, 49, 50, 51, 52, 53, 54, 55, 56, 57, 97, 98, 99, 100, 101, 102, 48]⟩, .int .i64 1, .int .i64 66, .string ⟨#[]⟩, .int .i64 0, .int .i64 0, .string ⟨#[]⟩, .int .i64 1, .int .i64 0, .string ⟨#[]⟩]) (t := 42) (fr := (0, 0)) (heap_alloc_new wr _)) (by simp [Value.oneCell'])
            (by omega) (by unfold maxLen; omega) (by omega) (by simp; omega) (wr.heap.size + 1) (by simp) ?_; intro gg cap w1 hown1 hgrow hat hlt))
      go_wp2
      have hg3 := GoodC.snoc HG.out (good7 hzb)
      have e3 : m * 7 + 7 = (m + 1) * 7 := by omega
      rw [e3] at hown1 hg3
      refine ⟨⟨m + 1, _, by omega, by go_num, ⟨?_, hg3⟩, ?_, ?_, ?_⟩, by simp [intOf]; omega⟩
      · rw [e3]; exact hown1
      · exact (hgrow.block _ (by simp; omega) (hne.out _ (by omega))).trans ((HR.out.1.alloc _).drew)
      · exact (hgrow.block _ (by simp; omega) (hne.out _ (by omega))).trans ((HR.out.2.1.alloc _).drew)
      · exact (((HR.out.2.2.alloc (by omega) _).drew).grown hgrow (by simp; omega) (fun k hk => by
          rcases Nat.lt_or_ge k w.heap.size with h | h
          · exact absurd hk.symm (hne.out k (by omega))
          · exact h))
    · obtain rfl : m = 9 := by omega
      go_wp2_with (at_builtin
                   refine wpList_append_lies _ (by rfl) _ _ 36 (by rfl) (w.heap.size + 1 + 1 + 1 + 1) 42 i0 _ 3 32 Try.underlying36 hi0 hz0 hz1 hz2 doCells (by decide) u7 (9 * 7) xs (by rfl) (H1.alloc _) ⟨wr.heap.size, 0, none⟩ 2 2 [.int .i64 2, .int .i64 0, .string ⟨#[]⟩, .int .i64 1, .int .i64 0, .string ⟨#[]⟩] (by rfl) (by rfl) (World.news_of_block (cs := #[.int .i64 2, .int .i64 0, .string ⟨#[]⟩, .int .i64 1, .int .i64 0, .string ⟨#[]⟩]) (t := 42) (fr := (0, 0)) (heap_alloc_new wr _)) (by simp [Value.oneCell']) (by decide) (by decide) (by decide) (by simp; omega) (wr.heap.size + 1) (by simp) ?_
                   intro gg cap w1 hown1 hgrow hat hlt
                   have HP1 : Hid (Blk w1 (w.heap.size + 1 + 1) 30 (portsL.map (Value.int .i64)).toArray) := (hgrow.block _ (by simp; omega) (hne.out _ (by omega))).trans (HR.out.1.alloc _)
                   have HB1 : Hid (Below w.heap.size w w1) := (HR.out.2.2.alloc (by omega) _).grown hgrow (by simp; omega) (fun k hk => by
                     rcases Nat.lt_or_ge k w.heap.size with h | h
                     · exact absurd hk.symm (hne.out k (by omega))
                     · exact h)
                   have HRD := Lib.hid (rd_of_own (ls := [.int .i64, .int .i64, .str]) (n := 65) (by simpa using hown1) (GoodC.snoc HG.out good2'))
                   clear hown1 hgrow hat)
      clear hne HG H1 hown HR
      go_loopw [10] (fun i wr => ∃ k : Nat, k ≤ 18 ∧ i = .int .i64 k ∧ Hid (Blk wr (w.heap.size + 1 + 1) 30 (portsL.map (Value.int .i64)).toArray ∧ Below w1.heap.size w1 wr)) (fun i _ => 18 - (intOf i).toNat)
      case atStart => exact ⟨0, by omega, rfl, ⟨HP1.out, Below.refl _ _⟩⟩
      case round =>
        obtain ⟨k, hk, rfl, HR3⟩ := hrel
        by_cases hk8 : k < 18
        · have hx0 : (0 : Int) ≤ k := by omega
          have hx1 : (k : Int) < 18 := by omega
          have d0 := row_cell HR3.out.1 (k := k * 6) (by show k * 6 < 108; omega)
          have d1 := row_cell HR3.out.1 (k := k * 6 + 1) (by show k * 6 + 1 < 108; omega)
          have d2 := row_cell HR3.out.1 (k := k * 6 + 2) (by show k * 6 + 2 < 108; omega)
          have d3 := row_cell HR3.out.1 (k := k * 6 + 3) (by show k * 6 + 3 < 108; omega)
          have d4 := row_cell HR3.out.1 (k := k * 6 + 4) (by show k * 6 + 4 < 108; omega)
          have d5 := row_cell HR3.out.1 (k := k * 6 + 5) (by show k * 6 + 5 < 108; omega)
          have I := Lib.hid (I64_dec portsL (by decide))
          obtain ⟨p0, hp0⟩ : ∃ z, z = portsL.getD (k * 6) 0 := ⟨_, rfl⟩
          obtain ⟨p1, hp1⟩ : ∃ z, z = portsL.getD (k * 6 + 1) 0 := ⟨_, rfl⟩
          obtain ⟨p2, hp2⟩ : ∃ z, z = portsL.getD (k * 6 + 2) 0 := ⟨_, rfl⟩
          obtain ⟨p3, hp3⟩ : ∃ z, z = portsL.getD (k * 6 + 3) 0 := ⟨_, rfl⟩
          obtain ⟨p4, hp4⟩ : ∃ z, z = portsL.getD (k * 6 + 4) 0 := ⟨_, rfl⟩
          obtain ⟨p5, hp5⟩ : ∃ z, z = portsL.getD (k * 6 + 5) 0 := ⟨_, rfl⟩
          have b0 := I.out (k * 6)
          have b1 := I.out (k * 6 + 1)
          have b2 := I.out (k * 6 + 2)
          have b3 := I.out (k * 6 + 3)
          have b4 := I.out (k * 6 + 4)
          have b5 := I.out (k * 6 + 5)
          rw [← hp0] at d0 b0
          rw [← hp1] at d1 b1
          rw [← hp2] at d2 b2
          rw [← hp3] at d3 b3
          rw [← hp4] at d4 b4
          rw [← hp5] at d5 b5
          have HBD := Lib.hid (And.intro b0 (And.intro b1 (And.intro b2 (And.intro b3 (And.intro b4 b5)))))
          clear hp0 hp1 hp2 hp3 hp4 hp5 b0 b1 b2 b3 b4 b5
          go_wp2_with (go_at_call 4; refine (portPlays_core _ p0 HBD.out.1 p1 HBD.out.2.1 p2 HBD.out.2.2.1 p3 HBD.out.2.2.2.1 p4 HBD.out.2.2.2.2.1 p5 HBD.out.2.2.2.2.2 _ 65 _ _ (by decide) (HRD.out.keep HR3.out.2)).mono ?_; rintro r x1 ⟨rfl, hx⟩; have HX := Lib.hid hx; clear hx)
          exact ⟨⟨k + 1, by omega, by go_num, ⟨HR3.out.1.below HX.out HR3.out.1.lt, HR3.out.2.trans (HX.out.mono HR3.out.2.size)⟩⟩, by simp [intOf]; omega⟩
        · obtain rfl : k = 18 := by omega
          have HF := Lib.hid (HB1.out.trans (HR3.out.2.mono HB1.out.size))
          go_wp2_with (go_at_call 9; refine (port_works _).mono ?_; rintro r x1 ⟨rfl, hx⟩; have HX := Lib.hid hx; clear hx)
          go_ret
          exact ⟨rfl, HF.out.trans (HX.out.mono HF.out.size)⟩
end Go.Proofs.Ytlaakcgipecldaa
