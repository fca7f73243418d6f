/- SporeKnown: the walk of the closed law. -/
import Derived.Test.YtclbbnoinnmdnaaSporePlays
import Derived.Test.YtclbbnoinnmdnaaOwn
namespace Go.Proofs.Ytclbbnoinnmdnaa
set_option linter.all false
open Go.RowKit

set_option maxHeartbeats 400000 in
theorem nil_release (v : Value) (w : World) : Calls Try.prog 16 #[.pointer none, v] w fun r w' => r = .returned (.int .i64 1) ∧ w = w' := by
  go_enter Try.func16, Try.ntmps16
  go_wp2
  go_ret
  exact ⟨rfl, rfl⟩
set_option maxHeartbeats 400000 in
theorem nil_change (v : Value) (w : World) : Calls Try.prog 20 #[.pointer none, v] w fun r w' => r = .returned (.int .i64 1) ∧ w = w' := by
  go_enter Try.func20, Try.ntmps20
  go_wp2
  go_ret
  exact ⟨rfl, rfl⟩
set_option maxHeartbeats 400000 in
theorem nil_may (v : Value) (w : World) : Calls Try.prog 18 #[.pointer none, v] w fun r w' => r = .returned (.bool false) ∧ w = w' := by
  go_enter Try.func18, Try.ntmps18
  go_wp2
  go_ret
  exact ⟨rfl, rfl⟩
set_option maxHeartbeats 400000 in
theorem nil_next (w : World) : Calls Try.prog 22 #[.pointer none] w fun r w' => r = .returned (.int .i64 0) ∧ w = w' := by
  go_enter Try.func22, Try.ntmps22
  go_wp2
  go_ret
  exact ⟨rfl, rfl⟩
set_option maxHeartbeats 400000 in
theorem zero_release (g : Nat) (e : Int) (v : Value) (w : World) (hb : Blk w g 42 #[.int .i64 0, .int .i64 e]) : Calls Try.prog 16 #[.pointer (some ⟨g, 0, none⟩), v] w fun r w' => r = .returned (.int .i64 1) ∧ w = w' := by
  have c0 := hb.cell 0
  simp at c0
  clear hb
  go_enter Try.func16, Try.ntmps16
  go_wp2
  go_ret
  exact ⟨rfl, rfl⟩
set_option maxHeartbeats 400000 in
theorem zero_change (g : Nat) (e : Int) (v : Value) (w : World) (hb : Blk w g 42 #[.int .i64 0, .int .i64 e]) : Calls Try.prog 20 #[.pointer (some ⟨g, 0, none⟩), v] w fun r w' => r = .returned (.int .i64 1) ∧ w = w' := by
  have c0 := hb.cell 0
  simp at c0
  clear hb
  go_enter Try.func20, Try.ntmps20
  go_wp2
  go_ret
  exact ⟨rfl, rfl⟩
set_option maxHeartbeats 400000 in
theorem zero_may (g : Nat) (e : Int) (v : Value) (w : World) (hb : Blk w g 42 #[.int .i64 0, .int .i64 e]) : Calls Try.prog 18 #[.pointer (some ⟨g, 0, none⟩), v] w fun r w' => r = .returned (.bool false) ∧ w = w' := by
  have c0 := hb.cell 0
  simp at c0
  clear hb
  go_enter Try.func18, Try.ntmps18
  go_wp2
  go_ret
  exact ⟨rfl, rfl⟩
set_option maxHeartbeats 400000 in
theorem zero_next (g : Nat) (e : Int) (w : World) (hb : Blk w g 42 #[.int .i64 0, .int .i64 e]) : Calls Try.prog 22 #[.pointer (some ⟨g, 0, none⟩)] w fun r w' => r = .returned (.int .i64 0) ∧ w = w' := by
  have c0 := hb.cell 0
  simp at c0
  clear hb
  go_enter Try.func22, Try.ntmps22
  go_wp2
  go_ret
  exact ⟨rfl, rfl⟩

theorem infoDo : (Try.prog.info? 31).map (fun i => (i.zero, i.size, i.bytes)) = some (some (.agg #[.int .i64 0, .int .i64 0]), 2, 16) := by kernel_rfl
def endsL : List Int := [-9223372036854775808, -1, 0, 1, 63, 64, 65, 1099511627712, 1099511627775, 1099511627776, 1099511627777, 9223372036854775807]
theorem endsL_ok (k : Nat) : -9223372036854775808 ≤ endsL.getD k 0 ∧ endsL.getD k 0 ≤ 9223372036854775807 := by
  by_cases h : k < 12
  · exact (by decide : ∀ k, k < 12 → -9223372036854775808 ≤ endsL.getD k 0 ∧ endsL.getD k 0 ≤ 9223372036854775807) k h
  · rw [List.getD_eq_getElem?_getD, List.getElem?_eq_none (by simp [endsL]; omega)]
    decide
theorem ends_cell {w : World} {g : Nat} {t : TypeId} (h : Blk w g t #[.int .i64 (-9223372036854775808), .int .i64 (-1), .int .i64 0, .int .i64 1, .int .i64 63, .int .i64 64, .int .i64 65, .int .i64 1099511627712, .int .i64 1099511627775, .int .i64 1099511627776, .int .i64 1099511627777, .int .i64 9223372036854775807]) {k : Nat} (hk : k < 12) :
    w.cell? ⟨g, k, none⟩ = some (.int .i64 (endsL.getD k 0)) := by
  refine h.cellAt ?_
  match k, hk with
  | 0, _ => rfl
  | 1, _ => rfl
  | 2, _ => rfl
  | 3, _ => rfl
  | 4, _ => rfl
  | 5, _ => rfl
  | 6, _ => rfl
  | 7, _ => rfl
  | 8, _ => rfl
  | 9, _ => rfl
  | 10, _ => rfl
  | 11, _ => rfl

theorem good6 {z : Int} (h : -9223372036854775808 ≤ z ∧ z ≤ 9223372036854775807) : Good [.int .i64, .int .i64] 3 [.int .i64 0, .int .i64 z, .int .i64 1, .int .i64 z, .int .i64 2, .int .i64 z] := by
  refine ⟨rfl, fun i hi j l hj => ?_⟩
  have hj2 : j < 2 := by
    rcases Nat.lt_or_ge j 2 with h3 | h3
    · exact h3
    · rw [List.getElem?_eq_none (by simpa using h3)] at hj; cases hj
  match i, hi, j, hj2, hj with
  | 0, _, 0, _, hj => cases hj; exact Leaf.int_ok (by decide)
  | 0, _, 1, _, hj => cases hj; exact Leaf.int_ok h
  | 1, _, 0, _, hj => cases hj; exact Leaf.int_ok (by decide)
  | 1, _, 1, _, hj => cases hj; exact Leaf.int_ok h
  | 2, _, 0, _, hj => cases hj; exact Leaf.int_ok (by decide)
  | 2, _, 1, _, hj => cases hj; exact Leaf.int_ok h

set_option maxRecDepth 100000 in
set_option maxHeartbeats 1000000 in
theorem sporeKnown_core (w : World) : Calls Try.prog 6 #[] w (Holds w) := by
  go_enter Try.func6, Try.ntmps6
  go_wp2_with fail
  refine wp_loop_rounds 3 ?_
  rw [rounds_succ]
  go_wp2_with (first
    | (go_at_call 16; refine (nil_release _ _).mono ?_; rintro r x1 ⟨rfl, rfl⟩)
    | (go_at_call 20; refine (nil_change _ _).mono ?_; rintro r x1 ⟨rfl, rfl⟩)
    | (go_at_call 18; refine (nil_may _ _).mono ?_; rintro r x1 ⟨rfl, rfl⟩)
    | (go_at_call 22; refine (nil_next _).mono ?_; rintro r x1 ⟨rfl, rfl⟩))
  rw [rounds_succ]
  have hb := Blk.new w 42 #[.int .i64 0, .int .i64 0]
  go_wp2_with (first
    | (go_at_call 16; refine (zero_release _ _ _ _ hb).mono ?_; rintro r x1 ⟨rfl, rfl⟩)
    | (go_at_call 20; refine (zero_change _ _ _ _ hb).mono ?_; rintro r x1 ⟨rfl, rfl⟩)
    | (go_at_call 18; refine (zero_may _ _ _ _ hb).mono ?_; rintro r x1 ⟨rfl, rfl⟩)
    | (go_at_call 22; refine (zero_next _ _ _ hb).mono ?_; rintro r x1 ⟨rfl, rfl⟩))
  rw [rounds_succ]
  go_wp2_with fail
  obtain ⟨wA, hwA⟩ : ∃ wA : World, wA = (w.alloc (.cells #[.int .i64 0, .int .i64 0] 42)).alloc (.cells #[.int .i64 0, .int .i64 0] 42) := ⟨_, rfl⟩
  have hA : Below w.heap.size w wA := by rw [hwA]; exact ((Below.refl _ _).alloc (Nat.le_refl _) _).alloc (by simp) _
  have hAs : wA.heap.size = w.heap.size + 1 + 1 := by rw [hwA]; simp
  obtain ⟨i0, hi0, hz0, hz1, hz2⟩ := info_parts infoDo
  have hE := Blk.new wA 3 #[.int .i64 (-9223372036854775808), .int .i64 (-1), .int .i64 0, .int .i64 1, .int .i64 63, .int .i64 64, .int .i64 65, .int .i64 1099511627712, .int .i64 1099511627775, .int .i64 1099511627776, .int .i64 1099511627777, .int .i64 9223372036854775807]
  rw [hAs, hwA] at hE
  have HA := Lib.hid (And.intro hA (And.intro hwA hAs))
  clear hA hwA hAs hb
  go_loopw [4] (fun i wr => ∃ (k : Nat), k ≤ 12 ∧ i = .int .i64 k ∧ Hid (Blk wr (w.heap.size + 1 + 1) 3 #[.int .i64 (-9223372036854775808), .int .i64 (-1), .int .i64 0, .int .i64 1, .int .i64 63, .int .i64 64, .int .i64 65, .int .i64 1099511627712, .int .i64 1099511627775, .int .i64 1099511627776, .int .i64 1099511627777, .int .i64 9223372036854775807]) ∧ Below w.heap.size w wr) (fun i _ => 12 - (intOf i).toNat)
  case atStart =>
    refine ⟨0, by omega, rfl, hE, ?_⟩
    rw [← HA.out.2.1]
    exact HA.out.1.alloc HA.out.1.size _
  case round =>
    obtain ⟨k, hk, rfl, hb, hB⟩ := hrel
    by_cases hc : k < 12
    · have hd : decide ((k : Int) < 12) = true := by simp; omega
      go_wp2_with fail
      obtain ⟨wo, rfl⟩ : ∃ wo : World, wo = wr := ⟨_, rfl⟩
      go_loopw [5, 6] (fun v j wr => ∃ (m : Nat) (xs : List Value), m ≤ 12 ∧ j = .int .i64 m ∧ Hid (wr.ownsRow (w.heap.size + 1 + 1 + 1) 31 2 v (m * 3) xs ∧ Good [.int .i64, .int .i64] (m * 3) xs) ∧
        Hid (Blk wr (w.heap.size + 1 + 1) 3 #[.int .i64 (-9223372036854775808), .int .i64 (-1), .int .i64 0, .int .i64 1, .int .i64 63, .int .i64 64, .int .i64 65, .int .i64 1099511627712, .int .i64 1099511627775, .int .i64 1099511627776, .int .i64 1099511627777, .int .i64 9223372036854775807]) ∧ Below w.heap.size w wr) (fun _ j _ => 12 - (intOf j).toNat)
      case atStart => exact ⟨0, [], by omega, rfl, ⟨World.ownsRow_nil _ _ _ _, Good.nil _⟩, hb, hB⟩
      case round =>
        obtain ⟨m, xs, hm, rfl, hown, hb2, hB2⟩ := hrel
        by_cases hc2 : m < 12
        · have hcell : wr.cell? ⟨w.heap.size + 1 + 1, m, none⟩ = some (.int .i64 (endsL.getD m 0)) := ends_cell hb2 hc2
          have hx0 : (0 : Int) ≤ (m : Int) := by omega
          have hx1 : (m : Int) < 12 := by omega
          go_wp2_with fail
          obtain ⟨H1, H2⟩ := hown
          have hsz : w.heap.size + 1 + 1 + 1 ≤ wr.heap.size := by have := Blk.lt hb2.out; omega
          have HB2 := Lib.hid (And.intro hb2.out hB2)
          have HG := Lib.hid H2
          clear hb2 hB2 hb hB H2
          obtain ⟨z, hz⟩ : ∃ z, z = endsL.getD m 0 := ⟨_, rfl⟩
          rw [← hz] at hcell
          have hzb := endsL_ok m
          rw [← hz] at hzb
          clear hz
          have hne' : ∀ b, b < w.heap.size + 1 + 1 + 1 → some b ≠ u5.ownBlock := by
            intro b hb e
            rcases H1.2 with ⟨h, _⟩ | ⟨g, cap, cur, h, hg, _⟩
            · rw [h] at e; simp [Value.ownBlock] at e
            · rw [h] at e; simp [Value.ownBlock] at e; omega
          have hne := Lib.hid hne'
          clear hne'
          go_region_held3 (fun w' => w'.cell? ⟨w.heap.size + 1 + 1, m, none⟩ = some (.int .i64 z)) (first | go_keep | (rw [hgrow.cell_far _ (by simp; omega) (hne.out _ (by simp))]; assumption))
            ((refine step_append_lies _ (by rfl) _ _ _ (by rfl) (w.heap.size + 1 + 1 + 1) 31 i0 _ 2 16 Try.underlying22 hi0 hz0 hz1 hz2 rfl (by omega) u5 (m * 3) xs (by rfl) ((H1.alloc _).drew)
                ⟨wr.heap.size, 0, none⟩ 3 3 [.int .i64 0, .int .i64 z, .int .i64 1, .int .i64 z, .int .i64 2, .int .i64 z] (by rfl) (by rfl) (World.news_of_block (cs := #[.int .i64 0, .int .i64 z, .int .i64 1, .int .i64 z, .int .i64 2, .int .i64 z]) (t := 31) (fr := (0, 0)) (heap_alloc_new wr _)) (by simp [Value.oneCell'])
                (by omega) (by unfold maxLen; omega) (by omega) (by simp; omega) (wr.heap.size + 1) (by simp) ?_; intro gg cap w1 hown1 hgrow hat hlt))
          go_wp2
          have hg3 := Good.snoc HG.out (good6 hzb)
          have e3 : m * 3 + 3 = (m + 1) * 3 := by omega
          rw [e3] at hown1 hg3
          refine ⟨⟨m + 1, _, by omega, by go_num, ⟨?_, hg3⟩, ?_, ?_⟩, by simp [intOf]; omega⟩
          · rw [e3]; exact hown1
          · exact (hgrow.block _ (by simp; omega) (hne.out _ (by omega))).trans ((HB2.out.1.alloc _).drew)
          · exact (((HB2.out.2.alloc (by omega) _).drew).grown hgrow (by simp; omega) (fun k hk => by
              rcases Nat.lt_or_ge k w.heap.size with h | h
              · exact absurd hk.symm (hne.out k (by omega))
              · exact h))
        · obtain rfl : m = 12 := by omega
          have HB2 := Lib.hid (And.intro hb2.out hB2)
          have hE2 : wr.cell? ⟨w.heap.size + 1 + 1, k, none⟩ = some (.int .i64 (endsL.getD k 0)) := ends_cell hb2 hc
          have hval : ∃ A c, u5 = .slice A 36 c := by
            obtain ⟨g, cap, h, _⟩ := hown.1.form (by decide)
            exact ⟨_, _, h⟩
          obtain ⟨A, c, hval⟩ := hval
          have hrd := Lib.hid (rd_of_own (ls := [.int .i64, .int .i64]) (by rw [← hval]; exact hown.1) hown.2)
          have hkb := endsL_ok k
          clear hb2 hB2 hb hB hown
          rw [hval]
          have hx0 : (0 : Int) ≤ (k : Int) := by omega
          have hx1 : (k : Int) < 12 := by omega
          go_wp2_with (first
            | (go_at_call 3; first
                | (refine (sporePlays_core _ _ (by assumption) A _ c _ (by simp [maxLen]) hrd.out).mono ?_; rintro r x1 ⟨rfl, hx⟩; have hrd1 := Lib.hid (hrd.out.keep hx); have HX1 := Lib.hid hx; clear hx hrd)
                | (refine (sporePlays_core _ _ (by omega) A _ c _ (by simp [maxLen]) hrd1.out).mono ?_; rintro r x2 ⟨rfl, hx⟩; have HX2 := Lib.hid hx; clear hx hrd1)))
          refine ⟨⟨k + 1, by omega, by go_num, ?_, ?_⟩, by simp [intOf]; omega⟩
          · exact ((HB2.out.1.below HX1.out HB2.out.1.lt).below HX2.out (Nat.lt_of_lt_of_le HB2.out.1.lt HX1.out.size))
          · exact (HB2.out.2.trans (HX1.out.mono HB2.out.2.size)).trans (HX2.out.mono (Nat.le_trans HB2.out.2.size HX1.out.size))
    · obtain rfl : k = 12 := by omega
      have HB := Lib.hid hB
      clear hb hB
      go_wp2_with (go_at_call 24; refine (spore_works _).mono ?_; rintro r x1 ⟨rfl, hx⟩)
      go_ret
      exact ⟨rfl, HB.out.trans (hx.mono HB.out.size)⟩
end Go.Proofs.Ytclbbnoinnmdnaa
