/- The contract of runs: as many ticks in each of 40 periods as the budget says. -/
import Derived.Test.YtclbbnoinnmdnaaSupplyRun
import Derived.Test.YtclbbnoinnmdnaaSupplyMade
import Derived.Test.YtclbbnoinnmdnaaOwn
namespace Go.Proofs.Ytclbbnoinnmdnaa
set_option linter.all false
open Go.RowKit

structure RunInv (P B k i : Nat) (left : Int) (L : List Bool) : Prop where
  len : L.length = k * P + i
  base : ∀ k', k' ≤ k → cntT L (k' * P) = k' * B
  now : cntT L (k * P + i) = k * B + (B - left)
  l0 : 0 ≤ left
  l1 : left ≤ (P : Int) - i

theorem RunInv.step {P B k i : Nat} {left : Int} {L : List Bool} (h : RunInv P B k i left L) (hi : i < P) (x : Bool) (h1 : x = true → 1 ≤ left) (h2 : (P : Int) - i ≤ left → x = true) :
    RunInv P B k (i + 1) (left - if x = true then 1 else 0) (L ++ [x]) := by
  have hl := h.len
  have hs := cntT_step (L ++ [x]) (k * P + i) (by simp [hl])
  have hx : (L ++ [x])[k * P + i]'(by simp [hl]) = x := by
    rw [List.getElem_append_right (by omega)]
    simp [hl]
  rw [hx] at hs
  rw [cntT_append L [x] (k * P + i) (by omega), h.now] at hs
  have := h.l0
  have := h.l1
  refine ⟨by simp [hl]; omega, fun k' hk' => ?_, ?_, ?_, ?_⟩
  · have hm : k' * P ≤ k * P := Nat.mul_le_mul_right _ hk'
    rw [cntT_append L [x] _ (by omega)]
    exact h.base k' hk'
  · rw [show k * P + (i + 1) = k * P + i + 1 from by omega, hs]
    omega
  · cases x with
    | true => have := h1 rfl; simp; omega
    | false => simp; omega
  · cases x with
    | true => simp; omega
    | false =>
      have : ¬ ((P : Int) - i ≤ left) := fun hc => by simpa using h2 hc
      simp
      omega

theorem RunInv.next {P B k : Nat} {left : Int} {L : List Bool} (h : RunInv P B k P left L) (hB : B ≤ P) : RunInv P B (k + 1) 0 B L := by
  have h0 := h.l0
  have h1 := h.l1
  have hz : left = 0 := by omega
  subst hz
  have hn := h.now
  have e : k * P + P = (k + 1) * P := by rw [Nat.succ_mul]
  have eb : ((k + 1 : Nat) : Int) * B = k * B + B := by rw [Int.natCast_add, Int.add_mul]; omega
  refine ⟨by rw [h.len]; omega, fun k' hk' => ?_, ?_, by omega, by omega⟩
  · rcases Nat.lt_or_ge k' (k + 1) with hlt | hge
    · exact h.base k' (by omega)
    · obtain rfl : k' = k + 1 := by omega
      rw [← e, hn, eb]; omega
  · rw [Nat.add_zero, ← e, hn, eb]; omega

theorem infoBool : (Try.prog.info? 4).map (fun i => (i.zero, i.size, i.bytes)) = some (some (.bool false), 1, 1) := by kernel_rfl

def RunsPost (P B : Nat) (w : World) (r : Ending) (w' : World) : Prop := ∃ g cap L, r = .returned (.slice (some ⟨g, 0, none⟩) (40 * P) cap) ∧
      w'.ownsRow w.heap.size 4 1 (.slice (some ⟨g, 0, none⟩) (40 * P) cap) (40 * P) (L.map Value.bool) ∧ L.length = 40 * P ∧ (∀ k, k ≤ 40 → cntT L (k * P) = k * B) ∧ Below w.heap.size w w'

set_option maxRecDepth 100000 in
set_option maxHeartbeats 4000000 in
theorem runs_any (P B : Nat) (w : World) (h : OkS P B) (A : Option Addr) (n c : Nat) (Z : Nat → Nat → Value) (hn : n ≤ maxLen) (hr : Rd w A n [.int .i64] Z) :
    Calls Try.prog 31 #[.agg #[.int .i64 P, .int .i64 B], .slice A n c] w (RunsPost P B w) := by
  unfold maxLen at hn
  obtain ⟨i0, hi0, hz0, hz1, hz2⟩ := info_parts infoBool
  have HR := Lib.hid hr
  clear hr
  obtain ⟨k1, k2, k3, k4⟩ := h
  go_enter Try.func31, Try.ntmps31
  go_wp2_with fail
  have hb0 := Blk.new w 47 #[.int .i64 P, .int .i64 B]
  go_loopw [5, 6] (fun v i wr => ∃ (k : Nat) (L : List Bool), k ≤ 40 ∧ i = .int .i64 k ∧ Hid (RunInv P B k 0 B L ∧ wr.ownsRow (w.heap.size + 1) 4 1 v (k * P) (L.map Value.bool) ∧ Blk wr w.heap.size 47 #[.int .i64 P, .int .i64 B] ∧ Below w.heap.size w wr)) (fun _ i _ => 40 - (intOf i).toNat)
  case atStart =>
    exact ⟨0, [], by omega, rfl, ⟨⟨by simp, fun k' hk' => by obtain rfl : k' = 0 := by omega
                                                             simp [cntT], by simp [cntT], by omega, by omega⟩, by simpa using World.ownsRow_nil _ _ _ _, hb0, (Below.refl _ _).alloc (Nat.le_refl _) _⟩⟩
  case round =>
    obtain ⟨k, L, hk, rfl, hw⟩ := hrel
    clear hb0
    have c0 := (two_facts hw.out.2.2.1).1
    have c1 := (two_facts hw.out.2.2.1).2.1
    by_cases hc : k < 40
    · by_cases hn0 : 0 < n
      · have hkn := Nat.mod_lt k hn0
        obtain ⟨b, off, rfl, hltb, hz⟩ := HR.out (k % n) hkn
        obtain ⟨hzz, z0, e0, w0⟩ := hz 0 _ rfl
        rw [e0] at hzz
        have d0 : wr.cell? ⟨b, off + k % n, none⟩ = some (.int .i64 z0) := by have := (hw.out.2.2.2.cell (by exact hltb)).trans hzz; simpa using this
        have hx0 := Int.emod_nonneg z0 (b := 1048576) (by decide)
        have hx1 := Int.emod_lt_of_pos z0 (b := 1048576) (by decide)
        have hnz : ((n : Int) == 0) = false := by simp; omega
        have hdn : decide ((0 : Int) < n) = true := by simp; omega
        clear hz hzz e0
        have hd : decide ((k : Int) < 40) = true := by simp; omega
        go_wp2_with (go_at_call 15; refine (bring_any _ _ _ (wf_bounds w0) (by omega)).mono ?_; rintro r x1 ⟨rfl, -, rfl⟩)
        obtain ⟨wo, rfl⟩ : ∃ wo : World, wo = wr := ⟨_, rfl⟩
        go_loopw [5, 8, 9] (fun v l j wr => ∃ (m : Nat) (left : Int) (M : List Bool), m ≤ P ∧ j = .int .i64 m ∧ l = .int .i64 left ∧ 0 ≤ left ∧ left ≤ 64 ∧
          Hid (RunInv P B k m left M ∧ wr.ownsRow (w.heap.size + 1) 4 1 v (k * P + m) (M.map Value.bool) ∧ Blk wr w.heap.size 47 #[.int .i64 P, .int .i64 B] ∧ Below w.heap.size w wr)) (fun _ _ j _ => P - (intOf j).toNat)
        case atStart => exact ⟨0, B, L, by omega, rfl, rfl, by omega, by omega, hw⟩
        case round =>
          obtain ⟨m, left, M, hm, rfl, rfl, hl0, hl64, hv⟩ := hrel
          clear hw c0 c1
          have c0 := (two_facts hv.out.2.2.1).1
          have c1 := (two_facts hv.out.2.2.1).2.1
          have hb40 : k * P + m ≤ 40 * 64 := by
            have h1 : (k + 1) * P ≤ 40 * 64 := Nat.mul_le_mul (by omega) (by omega)
            rw [Nat.succ_mul] at h1
            omega
          have HB1 : Hid (k * P + m + 1 ≤ maxLen) := (by simp only [maxLen]; omega : k * P + m + 1 ≤ maxLen)
          have HB2 : Hid ((k * P + m + 1) * 1 ≤ 140737488355328) := (by omega : (k * P + m + 1) * 1 ≤ 140737488355328)
          clear hb40
          have hsz : w.heap.size + 1 ≤ wr.heap.size := hv.out.2.2.1.lt
          by_cases hlt : m < P
          · have hm20 := Int.emod_nonneg (m : Int) (b := 20) (by decide)
            have hm21 := Int.emod_lt_of_pos (m : Int) (b := 20) (by decide)
            have hne : ∀ b, b < w.heap.size + 1 → some b ≠ u5.ownBlock := by
              intro b hb e
              rcases hv.out.2.1.2 with ⟨h, _⟩ | ⟨g, cap, cur, h, hg, _⟩
              · rw [h] at e; simp [Value.ownBlock] at e
              · rw [h] at e; simp [Value.ownBlock] at e; omega
            have HNE := Lib.hid hne
            clear hne
            by_cases hl : 0 < left
            · have hdl : decide (0 < left) = true := by simpa using hl
              by_cases hmu : (P : Int) - m ≤ left
              · have hdm : decide ((P : Int) - m ≤ left) = true := by simpa using hmu
                skip
                go_wp2_with (first
                  | (at_builtin
                     refine wpList_append_lies _ (by rfl) _ _ 49 (by rfl) (w.heap.size + 1) 4 i0 (.bool false) 1 1 Try.underlying49 hi0 hz0 hz1 hz2 (by rfl) (by decide) u5 (k * P + m) (M.map Value.bool) (by rfl) (hv.out.2.1.alloc _) ⟨wr.heap.size, 0, none⟩ 1 1 [.bool true] (by rfl) (by rfl) (World.news_of_block (cs := #[.bool true]) (t := 4) (fr := (0, 0)) (heap_alloc_new wr _)) (by simp [Value.oneCell']) (by decide) HB1.out HB2.out (by simp; omega) (wr.heap.size + 1) (by simp) ?_
                     intro g cap w1 hown1 hgrow hat hlt1))
                have RS := Lib.hid (hv.out.1.step hlt true (by intro; omega) (by intro; rfl))
                refine ⟨⟨m + 1, left - 1, M ++ [true], by omega, by go_num, by first | rfl | go_num, by omega, by omega, ⟨by have := RS.out; simpa using this, by simpa [Nat.add_assoc] using hown1, ?_, ?_⟩⟩, by simp [intOf]; omega⟩
                · exact (hgrow.block _ (by simp; omega) (HNE.out _ (by omega))).trans (hv.out.2.2.1.alloc _)
                · exact (hv.out.2.2.2.alloc (by omega) _).grown hgrow (by simp; omega) (fun q hq => by
                    rcases Nat.lt_or_ge q w.heap.size with h | h
                    · exact absurd hq.symm (HNE.out q (by omega))
                    · exact h)
              · have hdm : decide ((P : Int) - m ≤ left) = false := by simpa using hmu
                by_cases hbit : (bits BinOp.and IntKind.i64 (z0 % 1048576 / 2 ^ (m % 20)) 1 == 1) = true
                · skip
                  go_wp2_with (first
                    | (at_builtin
                       refine wpList_append_lies _ (by rfl) _ _ 49 (by rfl) (w.heap.size + 1) 4 i0 (.bool false) 1 1 Try.underlying49 hi0 hz0 hz1 hz2 (by rfl) (by decide) u5 (k * P + m) (M.map Value.bool) (by rfl) (hv.out.2.1.alloc _) ⟨wr.heap.size, 0, none⟩ 1 1 [.bool true] (by rfl) (by rfl) (World.news_of_block (cs := #[.bool true]) (t := 4) (fr := (0, 0)) (heap_alloc_new wr _)) (by simp [Value.oneCell']) (by decide) HB1.out HB2.out (by simp; omega) (wr.heap.size + 1) (by simp) ?_
                       intro g cap w1 hown1 hgrow hat hlt1))
                  have RS := Lib.hid (hv.out.1.step hlt true (by intro; omega) (by intro; rfl))
                  refine ⟨⟨m + 1, left - 1, M ++ [true], by omega, by go_num, by first | rfl | go_num, by omega, by omega, ⟨by have := RS.out; simpa using this, by simpa [Nat.add_assoc] using hown1, ?_, ?_⟩⟩, by simp [intOf]; omega⟩
                  · exact (hgrow.block _ (by simp; omega) (HNE.out _ (by omega))).trans (hv.out.2.2.1.alloc _)
                  · exact (hv.out.2.2.2.alloc (by omega) _).grown hgrow (by simp; omega) (fun q hq => by
                      rcases Nat.lt_or_ge q w.heap.size with h | h
                      · exact absurd hq.symm (HNE.out q (by omega))
                      · exact h)
                · have hbit' : (bits BinOp.and IntKind.i64 (z0 % 1048576 / 2 ^ (m % 20)) 1 == 1) = false := by simpa using hbit
                  clear hbit
                  skip
                  go_wp2_with (first
                    | (at_builtin
                       refine wpList_append_lies _ (by rfl) _ _ 49 (by rfl) (w.heap.size + 1) 4 i0 (.bool false) 1 1 Try.underlying49 hi0 hz0 hz1 hz2 (by rfl) (by decide) u5 (k * P + m) (M.map Value.bool) (by rfl) (hv.out.2.1.alloc _) ⟨wr.heap.size, 0, none⟩ 1 1 [.bool false] (by rfl) (by rfl) (World.news_of_block (cs := #[.bool false]) (t := 4) (fr := (0, 0)) (heap_alloc_new wr _)) (by simp [Value.oneCell']) (by decide) HB1.out HB2.out (by simp; omega) (wr.heap.size + 1) (by simp) ?_
                       intro g cap w1 hown1 hgrow hat hlt1))
                  have RS := Lib.hid (hv.out.1.step hlt false (by intro h; cases h) (by intro; omega))
                  refine ⟨⟨m + 1, left, M ++ [false], by omega, by go_num, by first | rfl | go_num, by omega, by omega, ⟨by have := RS.out; simpa using this, by simpa [Nat.add_assoc] using hown1, ?_, ?_⟩⟩, by simp [intOf]; omega⟩
                  · exact (hgrow.block _ (by simp; omega) (HNE.out _ (by omega))).trans (hv.out.2.2.1.alloc _)
                  · exact (hv.out.2.2.2.alloc (by omega) _).grown hgrow (by simp; omega) (fun q hq => by
                      rcases Nat.lt_or_ge q w.heap.size with h | h
                      · exact absurd hq.symm (HNE.out q (by omega))
                      · exact h)
            · have hdl : decide (0 < left) = false := by simpa using hl
              skip
              go_wp2_with (first
                | (at_builtin
                   refine wpList_append_lies _ (by rfl) _ _ 49 (by rfl) (w.heap.size + 1) 4 i0 (.bool false) 1 1 Try.underlying49 hi0 hz0 hz1 hz2 (by rfl) (by decide) u5 (k * P + m) (M.map Value.bool) (by rfl) (hv.out.2.1.alloc _) ⟨wr.heap.size, 0, none⟩ 1 1 [.bool false] (by rfl) (by rfl) (World.news_of_block (cs := #[.bool false]) (t := 4) (fr := (0, 0)) (heap_alloc_new wr _)) (by simp [Value.oneCell']) (by decide) HB1.out HB2.out (by simp; omega) (wr.heap.size + 1) (by simp) ?_
                   intro g cap w1 hown1 hgrow hat hlt1))
              have RS := Lib.hid (hv.out.1.step hlt false (by intro h; cases h) (by intro; omega))
              refine ⟨⟨m + 1, left, M ++ [false], by omega, by go_num, by first | rfl | go_num, by omega, by omega, ⟨by have := RS.out; simpa using this, by simpa [Nat.add_assoc] using hown1, ?_, ?_⟩⟩, by simp [intOf]; omega⟩
              · exact (hgrow.block _ (by simp; omega) (HNE.out _ (by omega))).trans (hv.out.2.2.1.alloc _)
              · exact (hv.out.2.2.2.alloc (by omega) _).grown hgrow (by simp; omega) (fun q hq => by
                  rcases Nat.lt_or_ge q w.heap.size with h | h
                  · exact absurd hq.symm (HNE.out q (by omega))
                  · exact h)
          · obtain rfl : m = P := by omega
            go_wp2_with fail
            have RN := hv.out.1.next (by omega)
            refine ⟨⟨k + 1, M, by omega, by go_num, ⟨RN, ?_, hv.out.2.2.1, hv.out.2.2.2⟩⟩, by simp [intOf]; omega⟩
            have := hv.out.2.1
            rwa [show k * m + m = (k + 1) * m from by rw [Nat.succ_mul]] at this
      · have hdn : decide ((0 : Int) < n) = false := by simp; omega
        have hd : decide ((k : Int) < 40) = true := by simp; omega
        go_wp2_with fail
        obtain ⟨wo, rfl⟩ : ∃ wo : World, wo = wr := ⟨_, rfl⟩
        go_loopw [5, 8, 9] (fun v l j wr => ∃ (m : Nat) (left : Int) (M : List Bool), m ≤ P ∧ j = .int .i64 m ∧ l = .int .i64 left ∧ 0 ≤ left ∧ left ≤ 64 ∧
          Hid (RunInv P B k m left M ∧ wr.ownsRow (w.heap.size + 1) 4 1 v (k * P + m) (M.map Value.bool) ∧ Blk wr w.heap.size 47 #[.int .i64 P, .int .i64 B] ∧ Below w.heap.size w wr)) (fun _ _ j _ => P - (intOf j).toNat)
        case atStart => exact ⟨0, B, L, by omega, rfl, rfl, by omega, by omega, hw⟩
        case round =>
          obtain ⟨m, left, M, hm, rfl, rfl, hl0, hl64, hv⟩ := hrel
          clear hw c0 c1
          have c0 := (two_facts hv.out.2.2.1).1
          have c1 := (two_facts hv.out.2.2.1).2.1
          have hb40 : k * P + m ≤ 40 * 64 := by
            have h1 : (k + 1) * P ≤ 40 * 64 := Nat.mul_le_mul (by omega) (by omega)
            rw [Nat.succ_mul] at h1
            omega
          have HB1 : Hid (k * P + m + 1 ≤ maxLen) := (by simp only [maxLen]; omega : k * P + m + 1 ≤ maxLen)
          have HB2 : Hid ((k * P + m + 1) * 1 ≤ 140737488355328) := (by omega : (k * P + m + 1) * 1 ≤ 140737488355328)
          clear hb40
          have hsz : w.heap.size + 1 ≤ wr.heap.size := hv.out.2.2.1.lt
          by_cases hlt : m < P
          · have hm20 := Int.emod_nonneg (m : Int) (b := 20) (by decide)
            have hm21 := Int.emod_lt_of_pos (m : Int) (b := 20) (by decide)
            have hne : ∀ b, b < w.heap.size + 1 → some b ≠ u5.ownBlock := by
              intro b hb e
              rcases hv.out.2.1.2 with ⟨h, _⟩ | ⟨g, cap, cur, h, hg, _⟩
              · rw [h] at e; simp [Value.ownBlock] at e
              · rw [h] at e; simp [Value.ownBlock] at e; omega
            have HNE := Lib.hid hne
            clear hne
            by_cases hl : 0 < left
            · have hdl : decide (0 < left) = true := by simpa using hl
              by_cases hmu : (P : Int) - m ≤ left
              · have hdm : decide ((P : Int) - m ≤ left) = true := by simpa using hmu
                skip
                go_wp2_with (first
                  | (at_builtin
                     refine wpList_append_lies _ (by rfl) _ _ 49 (by rfl) (w.heap.size + 1) 4 i0 (.bool false) 1 1 Try.underlying49 hi0 hz0 hz1 hz2 (by rfl) (by decide) u5 (k * P + m) (M.map Value.bool) (by rfl) (hv.out.2.1.alloc _) ⟨wr.heap.size, 0, none⟩ 1 1 [.bool true] (by rfl) (by rfl) (World.news_of_block (cs := #[.bool true]) (t := 4) (fr := (0, 0)) (heap_alloc_new wr _)) (by simp [Value.oneCell']) (by decide) HB1.out HB2.out (by simp; omega) (wr.heap.size + 1) (by simp) ?_
                     intro g cap w1 hown1 hgrow hat hlt1))
                have RS := Lib.hid (hv.out.1.step hlt true (by intro; omega) (by intro; rfl))
                refine ⟨⟨m + 1, left - 1, M ++ [true], by omega, by go_num, by first | rfl | go_num, by omega, by omega, ⟨by have := RS.out; simpa using this, by simpa [Nat.add_assoc] using hown1, ?_, ?_⟩⟩, by simp [intOf]; omega⟩
                · exact (hgrow.block _ (by simp; omega) (HNE.out _ (by omega))).trans (hv.out.2.2.1.alloc _)
                · exact (hv.out.2.2.2.alloc (by omega) _).grown hgrow (by simp; omega) (fun q hq => by
                    rcases Nat.lt_or_ge q w.heap.size with h | h
                    · exact absurd hq.symm (HNE.out q (by omega))
                    · exact h)
              · have hdm : decide ((P : Int) - m ≤ left) = false := by simpa using hmu
                skip
                go_wp2_with (first
                  | (at_builtin
                     refine wpList_append_lies _ (by rfl) _ _ 49 (by rfl) (w.heap.size + 1) 4 i0 (.bool false) 1 1 Try.underlying49 hi0 hz0 hz1 hz2 (by rfl) (by decide) u5 (k * P + m) (M.map Value.bool) (by rfl) (hv.out.2.1.alloc _) ⟨wr.heap.size, 0, none⟩ 1 1 [.bool false] (by rfl) (by rfl) (World.news_of_block (cs := #[.bool false]) (t := 4) (fr := (0, 0)) (heap_alloc_new wr _)) (by simp [Value.oneCell']) (by decide) HB1.out HB2.out (by simp; omega) (wr.heap.size + 1) (by simp) ?_
                     intro g cap w1 hown1 hgrow hat hlt1))
                have RS := Lib.hid (hv.out.1.step hlt false (by intro h; cases h) (by intro; omega))
                refine ⟨⟨m + 1, left, M ++ [false], by omega, by go_num, by first | rfl | go_num, by omega, by omega, ⟨by have := RS.out; simpa using this, by simpa [Nat.add_assoc] using hown1, ?_, ?_⟩⟩, by simp [intOf]; omega⟩
                · exact (hgrow.block _ (by simp; omega) (HNE.out _ (by omega))).trans (hv.out.2.2.1.alloc _)
                · exact (hv.out.2.2.2.alloc (by omega) _).grown hgrow (by simp; omega) (fun q hq => by
                    rcases Nat.lt_or_ge q w.heap.size with h | h
                    · exact absurd hq.symm (HNE.out q (by omega))
                    · exact h)
            · have hdl : decide (0 < left) = false := by simpa using hl
              skip
              go_wp2_with (first
                | (at_builtin
                   refine wpList_append_lies _ (by rfl) _ _ 49 (by rfl) (w.heap.size + 1) 4 i0 (.bool false) 1 1 Try.underlying49 hi0 hz0 hz1 hz2 (by rfl) (by decide) u5 (k * P + m) (M.map Value.bool) (by rfl) (hv.out.2.1.alloc _) ⟨wr.heap.size, 0, none⟩ 1 1 [.bool false] (by rfl) (by rfl) (World.news_of_block (cs := #[.bool false]) (t := 4) (fr := (0, 0)) (heap_alloc_new wr _)) (by simp [Value.oneCell']) (by decide) HB1.out HB2.out (by simp; omega) (wr.heap.size + 1) (by simp) ?_
                   intro g cap w1 hown1 hgrow hat hlt1))
              have RS := Lib.hid (hv.out.1.step hlt false (by intro h; cases h) (by intro; omega))
              refine ⟨⟨m + 1, left, M ++ [false], by omega, by go_num, by first | rfl | go_num, by omega, by omega, ⟨by have := RS.out; simpa using this, by simpa [Nat.add_assoc] using hown1, ?_, ?_⟩⟩, by simp [intOf]; omega⟩
              · exact (hgrow.block _ (by simp; omega) (HNE.out _ (by omega))).trans (hv.out.2.2.1.alloc _)
              · exact (hv.out.2.2.2.alloc (by omega) _).grown hgrow (by simp; omega) (fun q hq => by
                  rcases Nat.lt_or_ge q w.heap.size with h | h
                  · exact absurd hq.symm (HNE.out q (by omega))
                  · exact h)
          · obtain rfl : m = P := by omega
            go_wp2_with fail
            have RN := hv.out.1.next (by omega)
            refine ⟨⟨k + 1, M, by omega, by go_num, ⟨RN, ?_, hv.out.2.2.1, hv.out.2.2.2⟩⟩, by simp [intOf]; omega⟩
            have := hv.out.2.1
            rwa [show k * m + m = (k + 1) * m from by rw [Nat.succ_mul]] at this
    · obtain rfl : k = 40 := by omega
      go_wp2_with fail
      go_ret
      obtain ⟨g, cap, hu, _⟩ := hw.out.2.1.form (by omega)
      refine ⟨g, cap, L, congrArg Ending.returned hu, ?_, by simpa using hw.out.1.len, hw.out.1.base, hw.out.2.2.2⟩
      have := hw.out.2.1
      rw [hu] at this
      obtain ⟨q1, q2⟩ := this
      refine ⟨q1, ?_⟩
      rcases q2 with ⟨q3, _⟩ | ⟨g', cap', cur, q3, q4, q5⟩
      · cases q3
      · exact .inr ⟨g', cap', cur, q3, by omega, q5⟩
end Go.Proofs.Ytclbbnoinnmdnaa
