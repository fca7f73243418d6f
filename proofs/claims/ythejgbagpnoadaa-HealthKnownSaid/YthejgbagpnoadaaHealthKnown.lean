/- HealthKnown: the walk of the closed law. -/
import Derived.Test.YthejgbagpnoadaaHealthPlays
import Derived.Test.YthejgbagpnoadaaOwn
namespace Go.Proofs.Ythejgbagpnoadaa
set_option linter.all false
open Go.RowKit
attribute [local go_sem ↓] Go.wp_at_zero Go.wp_at_succ

set_option maxHeartbeats 400000 in
theorem nil_tell (v0 v1 : Value) (w : World) : Calls Try.prog 14 #[.pointer none, v0, v1] w fun r w' => r = .returned (.tuple #[.int .i64 0, .int .i64 1]) ∧ w = w' := by
  go_enter Try.func14, Try.ntmps14
  go_wp2
  go_ret2
  exact ⟨rfl, rfl⟩

set_option maxHeartbeats 400000 in
theorem nil_set (v0 v1 v2 : Value) (w : World) : Calls Try.prog 10 #[.pointer none, v0, v1, v2] w fun r w' => r = .returned (.int .i64 1) ∧ w = w' := by
  go_enter Try.func10, Try.ntmps10
  go_wp2
  go_ret
  exact ⟨rfl, rfl⟩

set_option maxHeartbeats 400000 in
theorem nil_pat (v0 v1 : Value) (w : World) : Calls Try.prog 12 #[.pointer none, v0, v1] w fun r w' => r = .returned (.int .i64 1) ∧ w = w' := by
  go_enter Try.func12, Try.ntmps12
  go_wp2
  go_ret
  exact ⟨rfl, rfl⟩

set_option maxHeartbeats 400000 in
theorem nil_clear (v0 : Value) (w : World) : Calls Try.prog 16 #[.pointer none, v0] w fun r w' => r = .returned (.int .i64 1) ∧ w = w' := by
  go_enter Try.func16, Try.ntmps16
  go_wp2
  go_ret
  exact ⟨rfl, rfl⟩

set_option maxHeartbeats 400000 in
theorem nil_count (v0 v1 : Value) (w : World) : Calls Try.prog 18 #[.pointer none, v0, v1] w fun r w' => r = .returned (.int .i64 0) ∧ w = w' := by
  go_enter Try.func18, Try.ntmps18
  go_wp2
  go_ret
  exact ⟨rfl, rfl⟩

set_option maxHeartbeats 400000 in
theorem zero_tell (g : Nat) (v0 v1 : Value) (w : World) (c0 : w.cell? ⟨g, 0, none⟩ = some (.bool false)) : Calls Try.prog 14 #[.pointer (some ⟨g, 0, none⟩), v0, v1] w fun r w' => r = .returned (.tuple #[.int .i64 0, .int .i64 1]) ∧ w = w' := by
  go_enter Try.func14, Try.ntmps14
  go_wp2
  go_ret2
  exact ⟨rfl, rfl⟩

set_option maxHeartbeats 400000 in
theorem zero_set (g : Nat) (v0 v1 v2 : Value) (w : World) (c0 : w.cell? ⟨g, 0, none⟩ = some (.bool false)) : Calls Try.prog 10 #[.pointer (some ⟨g, 0, none⟩), v0, v1, v2] w fun r w' => r = .returned (.int .i64 1) ∧ w = w' := by
  go_enter Try.func10, Try.ntmps10
  go_wp2
  go_ret
  exact ⟨rfl, rfl⟩

set_option maxHeartbeats 400000 in
theorem zero_pat (g : Nat) (v0 v1 : Value) (w : World) (c0 : w.cell? ⟨g, 0, none⟩ = some (.bool false)) : Calls Try.prog 12 #[.pointer (some ⟨g, 0, none⟩), v0, v1] w fun r w' => r = .returned (.int .i64 1) ∧ w = w' := by
  go_enter Try.func12, Try.ntmps12
  go_wp2
  go_ret
  exact ⟨rfl, rfl⟩

set_option maxHeartbeats 400000 in
theorem zero_clear (g : Nat) (v0 : Value) (w : World) (c0 : w.cell? ⟨g, 0, none⟩ = some (.bool false)) : Calls Try.prog 16 #[.pointer (some ⟨g, 0, none⟩), v0] w fun r w' => r = .returned (.int .i64 1) ∧ w = w' := by
  go_enter Try.func16, Try.ntmps16
  go_wp2
  go_ret
  exact ⟨rfl, rfl⟩

set_option maxHeartbeats 400000 in
theorem zero_count (g : Nat) (v0 v1 : Value) (w : World) (c0 : w.cell? ⟨g, 0, none⟩ = some (.bool false)) : Calls Try.prog 18 #[.pointer (some ⟨g, 0, none⟩), v0, v1] w fun r w' => r = .returned (.int .i64 0) ∧ w = w' := by
  go_enter Try.func18, Try.ntmps18
  go_wp2
  go_ret
  exact ⟨rfl, rfl⟩

def endsL : List Int := [-9223372036854775808, -1, 0, 1, 3, 4, 5, 255, 256, 9223372036854775807]
theorem endsL_ok (k : Nat) : I64 (endsL.getD k 0) := by
  by_cases h : k < 10
  · exact (by unfold I64; decide : ∀ k, k < 10 → I64 (endsL.getD k 0)) k h
  · rw [List.getD_eq_getElem?_getD, List.getElem?_eq_none (by simp [endsL]; omega)]
    unfold I64
    decide
theorem ends_cell {w : World} {g : Nat} {t : TypeId} (h : Blk w g t #[.int .i64 (-9223372036854775808), .int .i64 (-1), .int .i64 0, .int .i64 1, .int .i64 3, .int .i64 4, .int .i64 5, .int .i64 255, .int .i64 256, .int .i64 9223372036854775807]) {k : Nat} (hk : k < 10) : w.cell? ⟨g, k, none⟩ = some (.int .i64 (endsL.getD k 0)) := by
  refine h.cellAt ?_
  match k, hk with
  | 0, _ => rfl
  | 1, _ => rfl
  | 2, _ => rfl
  | 3, _ => rfl
  | 4, _ => rfl
  | 5, _ => rfl
  | 6, _ => rfl
  | 7, _ => rfl
  | 8, _ => rfl
  | 9, _ => rfl

theorem infoDo : (Try.prog.info? 28).map (fun i => (i.zero, i.size, i.bytes)) = some (some (.agg #[.int .i64 0, .int .i64 0, .int .i64 0, .int .i64 0]), 4, 32) := by kernel_rfl
theorem good9 {y z : Int} (hy : I64 y) (hz : I64 z) : GoodC [.int .i64, .int .i64, .int .i64, .int .i64] 9 ([.int .i64 0, .int .i64 y, .int .i64 z, .int .i64 2, .int .i64 2, .int .i64 y, .int .i64 z, .int .i64 0, .int .i64 0, .int .i64 1, .int .i64 4, .int .i64 z, .int .i64 2, .int .i64 1, .int .i64 4, .int .i64 0, .int .i64 0, .int .i64 2, .int .i64 2, .int .i64 y, .int .i64 2, .int .i64 2, .int .i64 2, .int .i64 0, .int .i64 1, .int .i64 y, .int .i64 0, .int .i64 z, .int .i64 2, .int .i64 3, .int .i64 1, .int .i64 0, .int .i64 3, .int .i64 z, .int .i64 0, .int .i64 0] : List Value) := by
  have := good_of_ints (ls := [.int .i64, .int .i64, .int .i64, .int .i64]) (n := 9) (zs := [0, y, z, 2, 2, y, z, 0, 0, 1, 4, z, 2, 1, 4, 0, 0, 2, 2, y, 2, 2, 2, 0, 1, y, 0, z, 2, 3, 1, 0, 3, z, 0, 0]) (fun j l hj => by
      match j, hj with
      | 0, hj => cases hj; rfl
      | 1, hj => cases hj; rfl
      | 2, hj => cases hj; rfl
      | 3, hj => cases hj; rfl
      | j + 4, hj => simp at hj) rfl (by
      repeat (first | exact all_nil | refine all_cons (by first | exact hy | exact hz | (unfold I64; decide)) ?_))
  exact this


set_option maxRecDepth 100000 in
set_option maxHeartbeats 8000000 in
theorem healthKnown_core (w : World) : Calls Try.prog 6 #[] w (Holds w) := by
  go_enter Try.func6, Try.ntmps6
  go_wp2_with fail
  refine wp_loop_rounds 3 ?_
  rw [rounds_succ]
  go_wp2_with (first
    | (go_at_call 14; refine (nil_tell _ _ _).mono ?_; rintro r x1 ⟨rfl, rfl⟩)
    | (go_at_call 10; refine (nil_set _ _ _ _).mono ?_; rintro r x1 ⟨rfl, rfl⟩)
    | (go_at_call 12; refine (nil_pat _ _ _).mono ?_; rintro r x1 ⟨rfl, rfl⟩)
    | (go_at_call 16; refine (nil_clear _ _).mono ?_; rintro r x1 ⟨rfl, rfl⟩)
    | (go_at_call 18; refine (nil_count _ _ _).mono ?_; rintro r x1 ⟨rfl, rfl⟩))
  rw [rounds_succ]
  have hb : (w.alloc (.cells #[.bool false, .int .i64 0, .int .i64 0, .int .i64 0, .int .i64 0, .int .i64 0, .int .i64 0, .int .i64 0, .int .i64 0, .int .i64 0, .int .i64 0, .int .i64 0, .int .i64 0, .int .i64 0, .int .i64 0, .int .i64 0, .int .i64 0, .int .i64 0, .int .i64 0, .int .i64 0, .int .i64 0, .int .i64 0, .int .i64 0, .int .i64 0, .int .i64 0, .int .i64 0, .int .i64 0, .int .i64 0, .int .i64 0, .int .i64 0, .int .i64 0, .int .i64 0, .int .i64 0, .int .i64 0, .int .i64 0, .int .i64 0, .int .i64 0, .int .i64 0, .int .i64 0, .int .i64 0, .int .i64 0, .int .i64 0, .int .i64 0, .int .i64 0, .int .i64 0] 48)).cell? ⟨w.heap.size, 0, none⟩ = some (.bool false) := (Blk.new w 48 #[.bool false, .int .i64 0, .int .i64 0, .int .i64 0, .int .i64 0, .int .i64 0, .int .i64 0, .int .i64 0, .int .i64 0, .int .i64 0, .int .i64 0, .int .i64 0, .int .i64 0, .int .i64 0, .int .i64 0, .int .i64 0, .int .i64 0, .int .i64 0, .int .i64 0, .int .i64 0, .int .i64 0, .int .i64 0, .int .i64 0, .int .i64 0, .int .i64 0, .int .i64 0, .int .i64 0, .int .i64 0, .int .i64 0, .int .i64 0, .int .i64 0, .int .i64 0, .int .i64 0, .int .i64 0, .int .i64 0, .int .i64 0, .int .i64 0, .int .i64 0, .int .i64 0, .int .i64 0, .int .i64 0, .int .i64 0, .int .i64 0, .int .i64 0, .int .i64 0]).cell 0
  go_wp2_with (first
    | (go_at_call 14; refine (zero_tell _ _ _ _ hb).mono ?_; rintro r x1 ⟨rfl, rfl⟩)
    | (go_at_call 10; refine (zero_set _ _ _ _ _ hb).mono ?_; rintro r x1 ⟨rfl, rfl⟩)
    | (go_at_call 12; refine (zero_pat _ _ _ _ hb).mono ?_; rintro r x1 ⟨rfl, rfl⟩)
    | (go_at_call 16; refine (zero_clear _ _ _ hb).mono ?_; rintro r x1 ⟨rfl, rfl⟩)
    | (go_at_call 18; refine (zero_count _ _ _ _ hb).mono ?_; rintro r x1 ⟨rfl, rfl⟩))
  rw [rounds_succ]
  go_wp2_with fail
  obtain ⟨wA, hwA⟩ : ∃ wA : World, wA = (w.alloc (.cells #[.bool false, .int .i64 0, .int .i64 0, .int .i64 0, .int .i64 0, .int .i64 0, .int .i64 0, .int .i64 0, .int .i64 0, .int .i64 0, .int .i64 0, .int .i64 0, .int .i64 0, .int .i64 0, .int .i64 0, .int .i64 0, .int .i64 0, .int .i64 0, .int .i64 0, .int .i64 0, .int .i64 0, .int .i64 0, .int .i64 0, .int .i64 0, .int .i64 0, .int .i64 0, .int .i64 0, .int .i64 0, .int .i64 0, .int .i64 0, .int .i64 0, .int .i64 0, .int .i64 0, .int .i64 0, .int .i64 0, .int .i64 0, .int .i64 0, .int .i64 0, .int .i64 0, .int .i64 0, .int .i64 0, .int .i64 0, .int .i64 0, .int .i64 0, .int .i64 0] 48)).alloc (.cells #[.bool false, .int .i64 0, .int .i64 0, .int .i64 0, .int .i64 0, .int .i64 0, .int .i64 0, .int .i64 0, .int .i64 0, .int .i64 0, .int .i64 0, .int .i64 0, .int .i64 0, .int .i64 0, .int .i64 0, .int .i64 0, .int .i64 0, .int .i64 0, .int .i64 0, .int .i64 0, .int .i64 0, .int .i64 0, .int .i64 0, .int .i64 0, .int .i64 0, .int .i64 0, .int .i64 0, .int .i64 0, .int .i64 0, .int .i64 0, .int .i64 0, .int .i64 0, .int .i64 0, .int .i64 0, .int .i64 0, .int .i64 0, .int .i64 0, .int .i64 0, .int .i64 0, .int .i64 0, .int .i64 0, .int .i64 0, .int .i64 0, .int .i64 0, .int .i64 0] 48) := ⟨_, rfl⟩
  have hA : Below w.heap.size w wA := by rw [hwA]; exact ((Below.refl _ _).alloc (Nat.le_refl _) _).alloc (by simp) _
  have hAs : wA.heap.size = w.heap.size + 1 + 1 := by rw [hwA]; simp
  obtain ⟨i0, hi0, hz0, hz1, hz2⟩ := info_parts infoDo
  have hE := Blk.new wA 3 #[.int .i64 (-9223372036854775808), .int .i64 (-1), .int .i64 0, .int .i64 1, .int .i64 3, .int .i64 4, .int .i64 5, .int .i64 255, .int .i64 256, .int .i64 9223372036854775807]
  rw [hAs, hwA] at hE
  have HA := Lib.hid (And.intro hA (And.intro hwA hAs))
  clear hA hwA hAs hb
  go_loopw [6] (fun i wr => ∃ (k : Nat), k ≤ 10 ∧ i = .int .i64 k ∧ Hid (Blk wr (w.heap.size + 1 + 1) 3 #[.int .i64 (-9223372036854775808), .int .i64 (-1), .int .i64 0, .int .i64 1, .int .i64 3, .int .i64 4, .int .i64 5, .int .i64 255, .int .i64 256, .int .i64 9223372036854775807] ∧ Below w.heap.size w wr)) (fun i _ => 10 - (intOf i).toNat)
  case atStart =>
    refine ⟨0, by omega, rfl, hE, ?_⟩
    rw [← HA.out.2.1]
    exact HA.out.1.alloc HA.out.1.size _
  case round =>
    obtain ⟨k, hk, rfl, hv⟩ := hrel
    by_cases hc : k < 10
    · have hd : decide ((k : Int) < 10) = true := by simp; omega
      go_wp2_with fail
      obtain ⟨wo, rfl⟩ : ∃ wo : World, wo = wr := ⟨_, rfl⟩
      go_loopw [7, 8] (fun v j wr => ∃ (m : Nat) (xs : List Value), m ≤ 10 ∧ j = .int .i64 m ∧ Hid (wr.ownsRow (w.heap.size + 1 + 1 + 1) 28 4 v (m * 9) xs ∧ GoodC [.int .i64, .int .i64, .int .i64, .int .i64] (m * 9) xs ∧ Blk wr (w.heap.size + 1 + 1) 3 #[.int .i64 (-9223372036854775808), .int .i64 (-1), .int .i64 0, .int .i64 1, .int .i64 3, .int .i64 4, .int .i64 5, .int .i64 255, .int .i64 256, .int .i64 9223372036854775807] ∧ Below w.heap.size w wr)) (fun _ j _ => 10 - (intOf j).toNat)
      case atStart => exact ⟨0, [], by omega, rfl, ⟨World.ownsRow_nil _ _ _ _, GoodC.nil _, hv.out.1, hv.out.2⟩⟩
      case round =>
        obtain ⟨m, xs, hm, rfl, hu⟩ := hrel
        by_cases hc2 : m < 10
        · have hcz : wr.cell? ⟨w.heap.size + 1 + 1, m, none⟩ = some (.int .i64 (endsL.getD m 0)) := ends_cell hu.out.2.2.1 hc2
          have hcy : wr.cell? ⟨w.heap.size + 1 + 1, k, none⟩ = some (.int .i64 (endsL.getD k 0)) := ends_cell hu.out.2.2.1 hc
          obtain ⟨z, hz⟩ : ∃ z, z = endsL.getD m 0 := ⟨_, rfl⟩
          obtain ⟨y, hy⟩ : ∃ z, z = endsL.getD k 0 := ⟨_, rfl⟩
          rw [← hz] at hcz
          rw [← hy] at hcy
          have hzb := endsL_ok m
          have hyb := endsL_ok k
          rw [← hz] at hzb
          rw [← hy] at hyb
          have GG := Lib.hid (good9 hyb hzb)
          have hx0 : (0 : Int) ≤ (m : Int) := by omega
          have hx1 : (m : Int) < 10 := by omega
          have hx2 : (0 : Int) ≤ (k : Int) := by omega
          have hx3 : (k : Int) < 10 := by omega
          have hsz : w.heap.size + 1 + 1 + 1 ≤ wr.heap.size := by have := Blk.lt hu.out.2.2.1; omega
          have hne' : ∀ b, b < w.heap.size + 1 + 1 + 1 → some b ≠ u7.ownBlock := by
            intro b hb e
            rcases hu.out.1.2 with ⟨h, _⟩ | ⟨g, cap, cur, h, hg, _⟩
            · rw [h] at e; simp [Value.ownBlock] at e
            · rw [h] at e; simp [Value.ownBlock] at e; omega
          have hne := Lib.hid hne'
          clear hne' hz hy hzb hyb hv
          go_wp2_with fail
          go_region_held3 (fun w' => w'.cell? ⟨w.heap.size + 1 + 1, m, none⟩ = some (.int .i64 z) ∧ w'.cell? ⟨w.heap.size + 1 + 1, k, none⟩ = some (.int .i64 y)) (first | go_keep | (go_split_ands; refine ⟨?_, ?_⟩ <;> (rw [hgrow.cell_far _ (by simp; omega) (hne.out _ (by simp))]; assumption)))
            ((refine step_append_lies _ (by rfl) _ _ _ (by rfl) (w.heap.size + 1 + 1 + 1) 28 i0 _ 4 32 Try.underlying22 hi0 hz0 hz1 hz2 rfl (by omega) u7 (m * 9) xs (by rfl) ((hu.out.1.alloc _).drew)
                ⟨wr.heap.size, 0, none⟩ 9 9 [.int .i64 0, .int .i64 y, .int .i64 z, .int .i64 2, .int .i64 2, .int .i64 y, .int .i64 z, .int .i64 0, .int .i64 0, .int .i64 1, .int .i64 4, .int .i64 z, .int .i64 2, .int .i64 1, .int .i64 4, .int .i64 0, .int .i64 0, .int .i64 2, .int .i64 2, .int .i64 y, .int .i64 2, .int .i64 2, .int .i64 2, .int .i64 0, .int .i64 1, .int .i64 y, .int .i64 0, .int .i64 z, .int .i64 2, .int .i64 3, .int .i64 1, .int .i64 0, .int .i64 3, .int .i64 z, .int .i64 0, .int .i64 0] (by rfl) (by rfl) (World.news_of_block (cs := #[.int .i64 0, .int .i64 y, .int .i64 z, .int .i64 2, .int .i64 2, .int .i64 y, .int .i64 z, .int .i64 0, .int .i64 0, .int .i64 1, .int .i64 4, .int .i64 z, .int .i64 2, .int .i64 1, .int .i64 4, .int .i64 0, .int .i64 0, .int .i64 2, .int .i64 2, .int .i64 y, .int .i64 2, .int .i64 2, .int .i64 2, .int .i64 0, .int .i64 1, .int .i64 y, .int .i64 0, .int .i64 z, .int .i64 2, .int .i64 3, .int .i64 1, .int .i64 0, .int .i64 3, .int .i64 z, .int .i64 0, .int .i64 0]) (t := 28) (fr := (0, 0)) (heap_alloc_new wr _)) (by simp [Value.oneCell'])
                (by omega) (by unfold maxLen; omega) (by omega) (by simp; omega) (wr.heap.size + 1) (by simp) ?_; intro gg cap w1 hown1 hgrow hat hlt))
          go_wp2
          have hg3 := GoodC.snoc hu.out.2.1 GG.out
          have e3 : m * 9 + 9 = (m + 1) * 9 := by omega
          rw [e3] at hown1 hg3
          refine ⟨⟨m + 1, _, by omega, by go_num, ⟨?_, hg3, ?_, ?_⟩⟩, by simp [intOf]; omega⟩
          · rw [e3]; exact hown1
          · exact (hgrow.block _ (by simp; omega) (hne.out _ (by omega))).trans ((hu.out.2.2.1.alloc _).drew)
          · exact (((hu.out.2.2.2.alloc (by omega) _).drew).grown hgrow (by simp; omega) (fun q hq => by
              rcases Nat.lt_or_ge q w.heap.size with h | h
              · exact absurd hq.symm (hne.out q (by omega))
              · exact h))
        · have hm10 : m = 10 := by omega
          subst hm10
          obtain ⟨g, cap, hval, _⟩ := hu.out.1.form (by decide)
          have hrd := Lib.hid (rd_of_own (ls := [.int .i64, .int .i64, .int .i64, .int .i64]) (by rw [← hval]; exact hu.out.1) hu.out.2.1)
          rw [hval]
          go_wp2_with (go_at_call 3; refine (healthPlays_core _ _ _ _ _ (by simp [maxLen]) hrd.out).mono ?_; rintro r x1 ⟨rfl, hx⟩; have HX1 := Lib.hid hx; clear hx)
          exact ⟨⟨k + 1, by omega, by go_num, ⟨hu.out.2.2.1.below HX1.out hu.out.2.2.1.lt, hu.out.2.2.2.trans (HX1.out.mono hu.out.2.2.2.size)⟩⟩, by simp [intOf]; omega⟩
    · have hk10 : k = 10 := by omega
      subst hk10
      have HB := Lib.hid hv.out.2
      go_wp2_with (go_at_call 20; refine (health_works _).mono ?_; rintro r x1 ⟨rfl, hx⟩)
      go_ret
      exact ⟨rfl, HB.out.trans (hx.mono HB.out.size)⟩
end Go.Proofs.Ythejgbagpnoadaa
