/- BellKnown: the walk of the closed law. -/
import Derived.Test.YtbfbahedbfjcoaaBellPlays
import Derived.Test.YtbfbahedbfjcoaaBellOnce
import Derived.Test.YtbfbahedbfjcoaaOwn
namespace Go.Proofs.Ytbfbahedbfjcoaa
set_option linter.all false
open Go.RowKit
attribute [local go_sem ↓] Go.wp_at_zero Go.wp_at_succ

def NoB (w : World) (v : Value) : Prop := Calls Try.prog 24 #[v] w fun r w' => r = .returned (.bool true) ∧ w = w'
theorem nob_nil (w : World) : NoB w (.pointer none) := by
  unfold NoB
  go_enter Try.func24, Try.ntmps24
  go_wp2_with fail
  go_ret
  exact ⟨rfl, rfl⟩
theorem nob_zero {w : World} {g : Nat} (h : Blk w g 49 #[.pointer none]) : NoB w (.pointer (some ⟨g, 0, none⟩)) := by
  have c1 : w.cell? ⟨g, 0, none⟩ = some (.pointer none) := h.cell 0
  clear h
  unfold NoB
  go_enter Try.func24, Try.ntmps24
  go_wp2_with fail
  go_ret
  exact ⟨rfl, rfl⟩
theorem nob_count {w : World} {v : Value} (h : NoB w v) : Calls Try.prog 14 #[v] w fun r w' => r = .returned (.int .i64 0) ∧ w = w' := by
  have H := Lib.hid h
  clear h
  go_enter Try.func14, Try.ntmps14
  go_wp2_with (go_at_call 24; refine H.out.mono ?_; rintro r w1 ⟨rfl, rfl⟩)
  go_ret
  exact ⟨rfl, rfl⟩
theorem nob_next {w : World} {v : Value} (h : NoB w v) : Calls Try.prog 15 #[v] w fun r w' => r = .returned (.tuple #[.int .i64 0, .bool false]) ∧ w = w' := by
  have H := Lib.hid h
  clear h
  go_enter Try.func15, Try.ntmps15
  go_wp2_with (go_at_call 24; refine H.out.mono ?_; rintro r w1 ⟨rfl, rfl⟩)
  go_ret2
  exact ⟨rfl, rfl⟩
theorem nob_at {w : World} {v : Value} (a b : Value) (h : NoB w v) : Calls Try.prog 19 #[v, a, b] w fun r w' => r = .returned (.tuple #[.int .i64 0, .bool false]) ∧ w = w' := by
  have H := Lib.hid h
  clear h
  go_enter Try.func19, Try.ntmps19
  go_wp2_with (go_at_call 24; refine H.out.mono ?_; rintro r w1 ⟨rfl, rfl⟩)
  go_ret2
  exact ⟨rfl, rfl⟩
theorem nob_arm {w : World} {v : Value} (a b c : Value) (h : NoB w v) : Calls Try.prog 10 #[v, a, b, c] w fun r w' => r = .returned (.int .i64 1) ∧ w = w' := by
  have H := Lib.hid h
  clear h
  go_enter Try.func10, Try.ntmps10
  go_wp2_with (go_at_call 24; refine H.out.mono ?_; rintro r w1 ⟨rfl, rfl⟩)
  go_ret
  exact ⟨rfl, rfl⟩
theorem nob_cancel {w : World} {v : Value} (a b : Value) (h : ∀ k, NoB (w.drewN k) v) : Calls Try.prog 11 #[v, a, b] w fun r w' => r = .returned (.bool false) ∧ ∃ k, w' = w.drewN k := by
  have H := Lib.hid h
  clear h
  go_enter Try.func11, Try.ntmps11
  go_wp2_with fail
  go_quiet ((go_at_call 24; exact (H.out _).mono fun _ _ ⟨he, hw⟩ => ⟨he, _, hw.symm⟩))
  go_wp2_with fail
  go_ret
  exact ⟨rfl, _, rfl⟩
theorem nob_due {w : World} {v : Value} (a : Int) (h : NoB w v) : Calls Try.prog 12 #[v, .int .i64 a] w fun r w' => r = .returned (.slice none 0 0) ∧ w = w' := by
  have H := Lib.hid h
  clear h
  go_enter Try.func12, Try.ntmps12
  go_wp2_with (go_at_call 15; refine (nob_next H.out).mono ?_; rintro r w1 ⟨rfl, rfl⟩)
  refine wp_loop_rounds 1 ?_
  rw [rounds_succ]
  go_wp2_with fail
  go_ret
  exact ⟨rfl, rfl⟩
def endsB : List Int := [-9223372036854775808, -1, 0, 1, 3, 4, 15, 16, 1099511627776, 1099511627777, 9223372036854775807]
theorem I64_dec (l : List Int) (h : ∀ z, z ∈ l → -9223372036854775808 ≤ z ∧ z ≤ 9223372036854775807) (k : Nat) : -9223372036854775808 ≤ l.getD k 0 ∧ l.getD k 0 ≤ 9223372036854775807 := by
  rw [List.getD_eq_getElem?_getD]
  rcases Nat.lt_or_ge k l.length with h1 | h1
  · rw [List.getElem?_eq_getElem h1]; exact h _ (List.getElem_mem h1)
  · rw [List.getElem?_eq_none h1]; decide
theorem row_cell {w : World} {g : Nat} {t : TypeId} {l : List Int} (h : Blk w g t (l.map (Value.int .i64)).toArray) {k : Nat} (hk : k < l.length) : w.cell? ⟨g, k, none⟩ = some (.int .i64 (l.getD k 0)) := by
  rw [h.cell k]
  simp [hk]
theorem infoDo : (Try.prog.info? 28).map (fun i => (i.zero, i.size, i.bytes)) = some (some (.agg #[.int .i64 0, .int .i64 0, .int .i64 0, .int .i64 0]), 4, 32) := by kernel_rfl
theorem doCells : (Value.agg #[.int .i64 0, .int .i64 0, .int .i64 0, .int .i64 0]).cells.size = 4 := by kernel_rfl

/-- A row of calls that is built. -/
structure DoJ (wB wr : World) (v : Value) (n : Nat) (zs : List Int) : Prop where
  own : wr.ownsRow wB.heap.size 28 4 v n (zs.map (Value.int .i64))
  b : Below wB.heap.size wB wr
  len : zs.length = n * 4
  ok : ∀ z, z ∈ zs → I64 z
theorem DoJ.nil (w : World) : DoJ w w (.slice none 0 0) 0 [] := ⟨World.ownsRow_nil _ _ _ _, Below.refl _ _, rfl, fun z hz => (by cases hz)⟩
theorem DoJ.snoc {wB wr x3 : World} {v v' : Value} {n m : Nat} {zs ys : List Int} (h : DoJ wB wr v n zs) (hown : x3.ownsRow wB.heap.size 28 4 v' (n + m) (zs.map (Value.int .i64) ++ ys.map (Value.int .i64))) (hu : Upd (fun q => some q = v.ownBlock) wr x3) (hl : ys.length = m * 4) (hok : ∀ z, z ∈ ys → I64 z) : DoJ wB x3 v' (n + m) (zs ++ ys) := by
  refine ⟨by rw [List.map_append]; exact hown, ?_, by rw [List.length_append, h.len, hl, Nat.add_mul], fun z hz => ?_⟩
  · refine h.b.trans (hu.below h.b.size fun q hq => ?_)
    rcases h.own.2 with ⟨h1, _⟩ | ⟨gl, cap, cur, h1, h0, _⟩
    · rw [h1] at hq; simp [Value.ownBlock] at hq
    · rw [h1] at hq
      have : some q = some gl := hq
      cases this
      exact h0
  · rcases List.mem_append.1 hz with h1 | h1
    · exact h.ok z h1
    · exact hok z h1
theorem DoJ.sl {wB wr : World} {v : Value} {n : Nat} {zs : List Int} (h : DoJ wB wr v n zs) : ∃ A c, v = .slice A n c := by
  rcases h.own.2 with ⟨h1, h2⟩ | ⟨g, cap, cur, h1, _⟩
  · rw [h1, h2]; exact ⟨_, _, rfl⟩
  · exact ⟨_, _, h1⟩
theorem DoJ.rd {wB wr : World} {A : Option Addr} {n c : Nat} {zs : List Int} (h : DoJ wB wr (.slice A n c) n zs) : ∃ Z, Rd wr A n [.int .i64, .int .i64, .int .i64, .int .i64] Z :=
  ⟨_, rd_of_own (ls := [.int .i64, .int .i64, .int .i64, .int .i64]) h.own (good_of_ints (fun j l hl => by
    match j with
    | 0 => cases hl; rfl
    | 1 => cases hl; rfl
    | 2 => cases hl; rfl
    | 3 => cases hl; rfl
    | j + 4 => simp at hl) h.len h.ok)⟩

set_option maxRecDepth 100000 in
set_option maxHeartbeats 8000000 in
theorem bellKnown_core (w : World) : Calls Try.prog 6 #[] w (Holds w) := by
  obtain ⟨i0, hi0, hz0, hz1, hz2⟩ := info_parts infoDo
  go_enter Try.func6, Try.ntmps6
  go_wp2_with fail
  refine wp_loop_rounds 3 ?_
  rw [rounds_succ]
  go_wp2_with (first
    | (go_at_call 19; refine (nob_at _ _ (nob_nil _)).mono ?_; rintro r x1 ⟨rfl, rfl⟩)
    | (go_at_call 15; refine (nob_next (nob_nil _)).mono ?_; rintro r x1 ⟨rfl, rfl⟩)
    | (go_at_call 10; refine (nob_arm _ _ _ (nob_nil _)).mono ?_; rintro r x1 ⟨rfl, rfl⟩)
    | (go_at_call 11; refine (nob_cancel _ _ (fun k => nob_nil _)).mono ?_; rintro r x1 ⟨rfl, k1, rfl⟩)
    | (go_at_call 12; refine (nob_due _ (nob_nil _)).mono ?_; rintro r x1 ⟨rfl, rfl⟩)
    | (go_at_call 14; refine (nob_count (nob_nil _)).mono ?_; rintro r x1 ⟨rfl, rfl⟩))
  rw [rounds_succ]
  go_wp2_with (first
    | (go_at_call 19; refine (nob_at _ _ (nob_zero (Blk.new _ _ _))).mono ?_; rintro r x1 ⟨rfl, rfl⟩)
    | (go_at_call 15; refine (nob_next (nob_zero (Blk.new _ _ _))).mono ?_; rintro r x1 ⟨rfl, rfl⟩)
    | (go_at_call 10; refine (nob_arm _ _ _ (nob_zero (Blk.new _ _ _))).mono ?_; rintro r x1 ⟨rfl, rfl⟩)
    | (go_at_call 11; refine (nob_cancel _ _ (fun k => nob_zero ((Blk.new _ _ _).drewN k))).mono ?_; rintro r x1 ⟨rfl, k2, rfl⟩)
    | (go_at_call 12; refine (nob_due _ (nob_zero ((Blk.new _ _ _).drewN k2))).mono ?_; rintro r x1 ⟨rfl, rfl⟩)
    | (go_at_call 14; refine (nob_count (nob_zero ((Blk.new _ _ _).drewN k2))).mono ?_; rintro r x1 ⟨rfl, rfl⟩))
  rw [rounds_succ]
  go_wp2_with fail
  have hA : Below w.heap.size w ((((w.drewN k1).alloc (.cells #[.pointer none] 49)).drewN k2).alloc (.cells #[.pointer none] 49)) := (belowN ((belowN (Below.refl _ _) k1).alloc (by simp) _) k2).alloc (by simp) _
  have hE := Blk.new ((((w.drewN k1).alloc (.cells #[.pointer none] 49)).drewN k2).alloc (.cells #[.pointer none] 49)) 3 (endsB.map (Value.int .i64)).toArray
  have hB : Below w.heap.size w (((((w.drewN k1).alloc (.cells #[.pointer none] 49)).drewN k2).alloc (.cells #[.pointer none] 49)).alloc (.cells #[.int .i64 (-9223372036854775808), .int .i64 (-1), .int .i64 0, .int .i64 1, .int .i64 3, .int .i64 4, .int .i64 15, .int .i64 16, .int .i64 1099511627776, .int .i64 1099511627777, .int .i64 9223372036854775807] 3)) := hA.alloc (by simp; omega) _
  have hgE : ((((w.drewN k1).alloc (.cells #[.pointer none] 49)).drewN k2).alloc (.cells #[.pointer none] 49)).heap.size = w.heap.size + 1 + 1 := by simp
  rw [hgE] at hE
  have HA : Hid (Blk (((((w.drewN k1).alloc (.cells #[.pointer none] 49)).drewN k2).alloc (.cells #[.pointer none] 49)).alloc (.cells #[.int .i64 (-9223372036854775808), .int .i64 (-1), .int .i64 0, .int .i64 1, .int .i64 3, .int .i64 4, .int .i64 15, .int .i64 16, .int .i64 1099511627776, .int .i64 1099511627777, .int .i64 9223372036854775807] 3)) (w.heap.size + 1 + 1) 3 (endsB.map (Value.int .i64)).toArray ∧ Below w.heap.size w (((((w.drewN k1).alloc (.cells #[.pointer none] 49)).drewN k2).alloc (.cells #[.pointer none] 49)).alloc (.cells #[.int .i64 (-9223372036854775808), .int .i64 (-1), .int .i64 0, .int .i64 1, .int .i64 3, .int .i64 4, .int .i64 15, .int .i64 16, .int .i64 1099511627776, .int .i64 1099511627777, .int .i64 9223372036854775807] 3))) := ⟨hE, hB⟩
  clear hA hE hB hgE
  generalize (((((w.drewN k1).alloc (.cells #[.pointer none] 49)).drewN k2).alloc (.cells #[.pointer none] 49)).alloc (.cells #[.int .i64 (-9223372036854775808), .int .i64 (-1), .int .i64 0, .int .i64 1, .int .i64 3, .int .i64 4, .int .i64 15, .int .i64 16, .int .i64 1099511627776, .int .i64 1099511627777, .int .i64 9223372036854775807] 3)) = wB at HA ⊢
  have HI := Lib.hid (And.intro hi0 (And.intro hz0 (And.intro hz1 hz2)))
  clear hi0 hz0 hz1 hz2
  go_loopw [7, 9] (fun v j wr => ∃ (m : Nat) (zs : List Int), m ≤ 11 ∧ j = .int .i64 (m : Int) ∧ Hid (DoJ wB wr v (m * 7) zs)) (fun _ j _ => 11 - (intOf j).toNat)
  case atStart => exact ⟨0, [], by omega, rfl, DoJ.nil wB⟩
  case round =>
    obtain ⟨m, zs, hm, rfl, HD⟩ := hrel
    have hx0 : (0 : Int) ≤ (m : Int) := by omega
    have w1 : IntKind.i64.wrap ((m : Int) + 1) = (m : Int) + 1 := IntWalk.i64_in _ (by omega)
    by_cases hc2 : m < 11
    · have hx1 : (m : Int) < 11 := by omega
      have hcell : wr.cell? ⟨w.heap.size + 1 + 1, m, none⟩ = some (.int .i64 (endsB.getD m 0)) := row_cell (HA.out.1.below HD.out.b HA.out.1.lt) hc2
      have hzb := I64_dec endsB (by decide) m
      obtain ⟨z, hz⟩ : ∃ z, z = endsB.getD m 0 := ⟨_, rfl⟩
      rw [← hz] at hcell hzb
      clear hz
      obtain ⟨z2, hz2⟩ : ∃ z2, z.tdiv 2 = z2 := ⟨_, rfl⟩
      have hz2b : -9223372036854775808 ≤ z2 ∧ z2 ≤ 9223372036854775807 := by
        rw [← hz2]
        rcases Int.le_total 0 z with h | h
        · rw [Int.tdiv_eq_ediv_of_nonneg h]; omega
        · have e : z.tdiv 2 = -((-z).tdiv 2) := by rw [Int.neg_tdiv]; omega
          rw [e, Int.tdiv_eq_ediv_of_nonneg (by omega)]; omega
      have wz : IntKind.i64.wrap (z.tdiv 2) = z2 := by rw [hz2]; exact IntWalk.i64_in _ hz2b
      have HZ := Lib.hid (And.intro hzb hz2b)
      have hsz : wB.heap.size ≤ wr.heap.size := HD.out.b.size
      have hgs : w.heap.size + 1 + 1 < wr.heap.size := Nat.lt_of_lt_of_le HA.out.1.lt hsz
      have hgB : w.heap.size + 1 + 1 < wB.heap.size := HA.out.1.lt
      have H1 := HD.out.own
      have hne' : ∀ b, b < wB.heap.size → some b ≠ u7.ownBlock := by
        intro b hb e
        rcases H1.2 with ⟨h, _⟩ | ⟨g, cap, cur, h, hg, _⟩
        · rw [h] at e; simp [Value.ownBlock] at e
        · rw [h] at e; simp [Value.ownBlock] at e; omega
      have hne := Lib.hid hne'
      clear hne' hz2 hzb hz2b
      go_wp2_with fail
      go_region_held3 (fun w' => w'.cell? ⟨w.heap.size + 1 + 1, m, none⟩ = some (.int .i64 z)) (first | go_keep | (rw [hgrow.cell_far _ (by simp; omega) (hne.out _ (by simp; omega))]; assumption))
        ((refine step_append_lies _ (by rfl) _ _ _ (by rfl) wB.heap.size 28 i0 _ 4 32 Try.underlying22 HI.out.1 HI.out.2.1 HI.out.2.2.1 HI.out.2.2.2 doCells (by omega) u7 (m * 7) (zs.map (Value.int .i64)) (by rfl) ((H1.alloc _).drew)
            ⟨wr.heap.size, 0, none⟩ 7 7 [.int .i64 0, .int .i64 z, .int .i64 0, .int .i64 0, .int .i64 0, .int .i64 0, .int .i64 z, .int .i64 4, .int .i64 0, .int .i64 1, .int .i64 0, .int .i64 z, .int .i64 1, .int .i64 z, .int .i64 0, .int .i64 0, .int .i64 2, .int .i64 0, .int .i64 0, .int .i64 z2, .int .i64 0, .int .i64 3, .int .i64 15, .int .i64 9, .int .i64 3, .int .i64 0, .int .i64 0, .int .i64 0] (by rfl) (by rfl) (World.news_of_block (cs := #[.int .i64 0, .int .i64 z, .int .i64 0, .int .i64 0, .int .i64 0, .int .i64 0, .int .i64 z, .int .i64 4, .int .i64 0, .int .i64 1, .int .i64 0, .int .i64 z, .int .i64 1, .int .i64 z, .int .i64 0, .int .i64 0, .int .i64 2, .int .i64 0, .int .i64 0, .int .i64 z2, .int .i64 0, .int .i64 3, .int .i64 15, .int .i64 9, .int .i64 3, .int .i64 0, .int .i64 0, .int .i64 0]) (t := 28) (fr := (0, 0)) (heap_alloc_new wr _)) (by simp [Value.oneCell'])
            (by omega) (by unfold maxLen; omega) (by omega) (by simp; omega) (wr.heap.size + 1) (by simp) ?_; intro gg cap w1 hown1 hgrow hat hlt))
      go_wp2
      have hu3 : Upd (fun q => some q = u7.ownBlock) wr w1 := (((Upd.refl _ wr).alloc (.cells #[.int .i64 0, .int .i64 z, .int .i64 0, .int .i64 0, .int .i64 0, .int .i64 0, .int .i64 z, .int .i64 4, .int .i64 0, .int .i64 1, .int .i64 0, .int .i64 z, .int .i64 1, .int .i64 z, .int .i64 0, .int .i64 0, .int .i64 2, .int .i64 0, .int .i64 0, .int .i64 z2, .int .i64 0, .int .i64 3, .int .i64 15, .int .i64 9, .int .i64 3, .int .i64 0, .int .i64 0, .int .i64 0] 28)).drew).trans ⟨hgrow.os, hgrow.tape, hgrow.output, hgrow.size, fun k hk hn => hgrow.block k hk (fun e => hn e)⟩
      have hD2 := HD.out.snoc (ys := [0, z, 0, 0, 0, 0, z, 4, 0, 1, 0, z, 1, z, 0, 0, 2, 0, 0, z2, 0, 3, 15, 9, 3, 0, 0, 0]) hown1 hu3 rfl (by
        have hz1 : I64 z := HZ.out.1
        have hz2 : I64 z2 := HZ.out.2
        have hc : ∀ q : Int, -1000 ≤ q ∧ q ≤ 1000 → I64 q := fun q hq => by unfold I64; omega
        repeat' (first | exact all_nil | refine all_cons ?_ ?_ | exact hz1 | exact hz2 | exact hc _ (by decide)))
      have e3 : m * 7 + 7 = (m + 1) * 7 := by omega
      rw [e3] at hD2
      exact ⟨⟨m + 1, zs ++ [0, z, 0, 0, 0, 0, z, 4, 0, 1, 0, z, 1, z, 0, 0, 2, 0, 0, z2, 0, 3, 15, 9, 3, 0, 0, 0], by omega, by go_num, by rw [e3]; exact hD2⟩, by simp [intOf]; omega⟩
    · obtain rfl : m = 11 := by omega
      have HD1 : Hid (DoJ wB wr u7 77 zs) := HD.out
      have e11 : ((11 : Nat) : Int) = 11 := rfl
      rw [e11]
      clear e11
      clear HD hm hx0 w1
      obtain ⟨A1, q1, rfl⟩ := HD1.out.sl
      have HA1 := Lib.hid (HA.out.2.trans (HD1.out.b.mono HA.out.2.size))
      obtain ⟨wE, hwE⟩ : ∃ wE, wE = wr := ⟨_, rfl⟩
      subst hwE
      go_wp2_with fail
      go_loopw [10, 11] (fun v j wr => ∃ (m : Nat) (ys : List Int), m ≤ 64 ∧ j = .int .i64 (m : Int) ∧ Hid (DoJ wE wr v m ys)) (fun _ j _ => 64 - (intOf j).toNat)
      case atStart => exact ⟨0, [], by omega, rfl, DoJ.nil wE⟩
      case round =>
        obtain ⟨m, ys, hm, rfl, HD⟩ := hrel
        have hx0 : (0 : Int) ≤ (m : Int) := by omega
        have w1 : IntKind.i64.wrap ((m : Int) + 1) = (m : Int) + 1 := IntWalk.i64_in _ (by omega)
        by_cases hc2 : m < 64
        · have hx1 : (m : Int) < 64 := by omega
          obtain ⟨z, hz⟩ : ∃ z : Int, (m : Int) = z := ⟨_, rfl⟩
          obtain ⟨a, ha⟩ : ∃ a : Int, z.tdiv 16 = a := ⟨_, rfl⟩
          obtain ⟨b, hb⟩ : ∃ a : Int, z.tmod 16 = a := ⟨_, rfl⟩
          obtain ⟨c, hc⟩ : ∃ a : Int, z * 5 = a := ⟨_, rfl⟩
          obtain ⟨d, hd⟩ : ∃ a : Int, c.tmod 7 = a := ⟨_, rfl⟩
          have ba : 0 ≤ a ∧ a ≤ 3 := by rw [← ha, Int.tdiv_eq_ediv_of_nonneg (by omega)]; omega
          have bb : 0 ≤ b ∧ b ≤ 15 := by rw [← hb, Int.tmod_eq_emod_of_nonneg (by omega)]; omega
          have bd : 0 ≤ d ∧ d ≤ 6 := by rw [← hd, Int.tmod_eq_emod_of_nonneg (by omega)]; omega
          have wa : IntKind.i64.wrap (z.tdiv 16) = a := by rw [ha]; exact IntWalk.i64_in _ (by omega)
          have wc : IntKind.i64.wrap (z * 5) = c := by rw [hc]; exact IntWalk.i64_in _ (by omega)
          have HZ : Hid (I64 a ∧ I64 b ∧ I64 d) := ⟨by unfold I64; omega, by unfold I64; omega, by unfold I64; omega⟩
          have HZM := Lib.hid hz
          rw [hz] at hx0 hx1 w1
          have hsz := HD.out.b.size
          have HOA := Lib.hid (own_belowB HD.out.own ((Below.refl wr.heap.size wr).alloc (Nat.le_refl _) (.cells #[.int .i64 0, .int .i64 a, .int .i64 b, .int .i64 d] 28)))
          have H63 : Hid (m + 1 ≤ maxLen ∧ (m + 1) * 32 ≤ 140737488355328 ∧ wE.heap.size ≤ wr.heap.size) := ⟨by unfold maxLen; omega, by omega, hsz⟩
          clear ha hc ba bb bd hsz
          rw [hz]
          go_wp2_with (at_builtin
                       refine wpList_append_lies _ (by rfl) _ _ 22 (by rfl) wE.heap.size 28 i0 _ 4 32 Try.underlying22 HI.out.1 HI.out.2.1 HI.out.2.2.1 HI.out.2.2.2 doCells (by decide) u10 m (ys.map (Value.int .i64)) (by rfl) HOA.out ⟨wr.heap.size, 0, none⟩ 1 1 [.int .i64 0, .int .i64 a, .int .i64 b, .int .i64 d] (by rfl) (by rfl) (World.news_of_block (cs := #[.int .i64 0, .int .i64 a, .int .i64 b, .int .i64 d]) (t := 28) (fr := (0, 0)) (heap_alloc_new wr _)) (by simp [Value.oneCell']) (by decide) H63.out.1 H63.out.2.1 (by have := H63.out.2.2; simp; omega) (wr.heap.size + 1) (by simp) ?_
                       intro gg cap x3 hown1 hgrow hat hlt
                       have hu3 : Upd (fun q => some q = u10.ownBlock) wr x3 := ((Upd.refl _ wr).alloc (.cells #[.int .i64 0, .int .i64 a, .int .i64 b, .int .i64 d] 28)).trans ⟨hgrow.os, hgrow.tape, hgrow.output, hgrow.size, fun k hk hn => hgrow.block k hk (fun e => hn e)⟩
                       have HD2 := Lib.hid (HD.out.snoc (ys := [0, a, b, d]) (m := 1) hown1 hu3 rfl (all_cons (by unfold I64; decide) (all_cons HZ.out.1 (all_cons HZ.out.2.1 (all_cons HZ.out.2.2 all_nil)))))
                       clear hown1 hgrow hat hlt hu3)
          have hzz := HZM.out
          subst hzz
          exact ⟨⟨m + 1, _, by omega, by go_num, HD2.out⟩, by simp [intOf]; try omega⟩
        · obtain rfl : m = 64 := by omega
          obtain ⟨A2, q2, rfl⟩ := HD.out.sl
          have ho1 := own_belowB HD1.out.own HD.out.b
          have hd1 : DoJ wB wr (.slice A1 77 q1) 77 zs := ⟨ho1, HD1.out.b.trans (HD.out.b.mono HD1.out.b.size), HD1.out.len, HD1.out.ok⟩
          obtain ⟨Z1, hr1⟩ := hd1.rd
          obtain ⟨Z2, hr2⟩ := HD.out.rd
          have HRR := Lib.hid (And.intro hr1 (And.intro hr2 (HA1.out.trans (HD.out.b.mono HA1.out.size))))
          have T1 := Lib.hid True.intro
          clear ho1 hd1 hr1 hr2 hx0 w1 hm
          go_wp2_with (first
            | (go_at_call 7; refine (bell_works _).mono ?_; rintro r x1 ⟨rfl, hx⟩; have HX1 := Lib.hid hx; clear hx)
            | (go_at_call 5; first
                | (have _tk := T1; refine (bellPlays_core _ A1 77 q1 Z1 (by decide) (HRR.out.1.keep HX1.out)).mono ?_; rintro r x2 ⟨rfl, hx⟩; have HX2 := Lib.hid (HX1.out.trans (hx.mono HX1.out.size)); clear hx T1 _tk)
                | (refine (bellPlays_core _ A2 64 q2 Z2 (by decide) (HRR.out.2.1.keep HX2.out)).mono ?_; rintro r x3 ⟨rfl, hx⟩; have HX3 := Lib.hid (HX2.out.trans (hx.mono HX2.out.size)); clear hx))
            | (go_at_call 4; refine (bellNext_core _ A2 64 q2 Z2 (by decide) (HRR.out.2.1.keep HX3.out)).mono ?_; rintro r x4 ⟨rfl, hx⟩; have HX4 := Lib.hid (HX3.out.trans (hx.mono HX3.out.size)); clear hx)
            | (go_at_call 3; refine (bellOnce_core _ A2 64 q2 Z2 (by decide) (HRR.out.2.1.keep HX4.out)).mono ?_; rintro r x5 ⟨rfl, hx⟩; have HX5 := Lib.hid (HX4.out.trans (hx.mono HX4.out.size)); clear hx))
          go_ret
          exact ⟨rfl, HRR.out.2.2.trans (HX5.out.mono HRR.out.2.2.size)⟩
end Go.Proofs.Ytbfbahedbfjcoaa
