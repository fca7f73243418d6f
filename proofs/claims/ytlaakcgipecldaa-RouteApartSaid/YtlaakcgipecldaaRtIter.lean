/- The iterator over the partitions to which a partition has ports: what it hands out, round by round. Conditions: the routes' cells lie below a bound that the rounds keep, as does the iterator's second box. -/
import Derived.Test.YtlaakcgipecldaaBase
import Derived.Test.YtlaakcgipecldaaProg
import Derived.RangeFuncNested
import Derived.RangeFuncBound
import Derived.RangeFuncCalls
import Derived.RangeFuncLeaves
import Derived.Shelf.Abstract
import Derived.WalkKit
import Derived.OwnWalkIn
import Derived.TacticsInMore
import Derived.LoopNIn
import Derived.LoopIn
import Derived.BigRegionIn
import Derived.Stop.RegionWithIn
namespace Go.Proofs.Ytlaakcgipecldaa
set_option linter.all false
open Go.RowKit

/-- The routes at rp in cells: the ports' two ends, in order; all of it below n₀. -/
structure RtRd (n₀ : Nat) (w : World) (rp : Nat) (es : List (Int × Int)) : Prop where
  lt : rp < n₀
  made : w.cell? ⟨rp, 1, none⟩ = some (.bool true)
  ways : ∃ A c, w.cell? ⟨rp, 0, none⟩ = some (.slice A es.length c) ∧ ∀ i (h : i < es.length), ∃ b o g, A = some ⟨b, o, none⟩ ∧ b < n₀ ∧ g < n₀ ∧
    w.cell? ⟨b, o + i, none⟩ = some (.pointer (some ⟨g, 0, none⟩)) ∧ w.cell? ⟨g, 1, none⟩ = some (.int .i64 es[i].1) ∧ w.cell? ⟨g, 2, none⟩ = some (.int .i64 es[i].2)

theorem RtRd.below {n₀ rp : Nat} {w w' : World} {es : List (Int × Int)} (h : RtRd n₀ w rp es) (hb : Below n₀ w w') : RtRd n₀ w' rp es := by
  obtain ⟨hlt, hm, A, c, hA, hi⟩ := h
  refine ⟨hlt, (hb.cell (p := ⟨rp, 1, none⟩) hlt).trans hm, A, c, (hb.cell (p := ⟨rp, 0, none⟩) hlt).trans hA, fun i h => ?_⟩
  obtain ⟨b, o, g, e, h1, h2, h3, h4, h5⟩ := hi i h
  exact ⟨b, o, g, e, h1, h2, (hb.cell (p := ⟨b, o + i, none⟩) h1).trans h3, (hb.cell (p := ⟨g, 1, none⟩) h2).trans h4, (hb.cell (p := ⟨g, 2, none⟩) h2).trans h5⟩

/-- Where the ports of partition v lead, in order. -/
def outs (v : Int) (es : List (Int × Int)) : List Int := (es.filter fun p => decide (p.1 = v)).map (·.2)
theorem outs_succ (v : Int) (es : List (Int × Int)) (k : Nat) (hk : k < es.length) : outs v (es.take (k + 1)) = outs v (es.take k) ++ (if es[k].1 = v then [es[k].2] else []) := by
  unfold outs
  rw [List.take_succ_eq_append_getElem hk, List.filter_append, List.map_append]
  by_cases h : es[k].1 = v <;> simp [h]
theorem outs_take_le (v : Int) (es : List (Int × Int)) (k : Nat) : (outs v (es.take k)) <+: outs v es := by
  unfold outs
  conv => rhs; rw [← List.take_append_drop k es, List.filter_append, List.map_append]
  exact List.prefix_append _ _

/-- What a round keeps. -/
def Kp2 (n₀ Bf : Nat) (w w' : World) : Prop := Below n₀ w w' ∧ w'.heap[Bf]? = w.heap[Bf]?

theorem steps_any (rp : Nat) (v : Int) (w : World) : Calls Try.prog 45 #[.pointer (some ⟨rp, 0, none⟩), .int .i64 v] w fun e w' =>
    e = .returned (.func (.func 47) #[] #[.pointer (some ⟨w.heap.size, 0, none⟩), .pointer (some ⟨w.heap.size + 1, 0, none⟩)]) ∧
    w' = (w.alloc (.cells #[.pointer (some ⟨rp, 0, none⟩)] 53)).alloc (.cells #[.int .i64 v] 3) := by
  go_enter Try.func45, Try.ntmps45
  go_wp2
  go_ret
  exact ⟨by simp, rfl⟩

set_option maxRecDepth 100000 in
set_option maxHeartbeats 2000000 in
theorem it_in (n : Nat) (l Br Bf n₀ rp : Nat) (v : Int) (es : List (Int × Int)) (J Jx : List Int → World → Prop)
    (hY : ∀ pre x W, J pre W → pre.length < (outs v es).length → YieldAt Fence.wide (n - 1) Try.prog l #[.int .i64 x] W fun e W' =>
      (e = .returned (.bool true) ∧ J (pre ++ [x]) W' ∧ Kp2 n₀ Bf W W') ∨ (e = .returned (.bool false) ∧ Jx (pre ++ [x]) W'))
    (hJd : ∀ pre W, J pre W → J pre W.drew) (w : World) (hBr : Blk w Br 53 #[.pointer (some ⟨rp, 0, none⟩)]) (hBf : Blk w Bf 3 #[.int .i64 v]) (hR : RtRd n₀ w rp es) (h0 : J [] w) (hlen : es.length ≤ 1000) :
    CallsIn Fence.wide n Try.prog 47 #[.func (.yield l) #[] #[], .pointer (some ⟨Br, 0, none⟩), .pointer (some ⟨Bf, 0, none⟩)] w fun e W' => (∃ v, e = .returned v) ∧
      ((∃ ys, ys = outs v es ∧ J ys W') ∨ (∃ pre, pre <+: outs v es ∧ Jx pre W')) := by
  have cBr : w.cell? ⟨Br, 0, none⟩ = some (.pointer (some ⟨rp, 0, none⟩)) := by simp [World.cell?, show w.heap[Br]? = _ from hBr]
  obtain ⟨hlt, hm, A, c, hA, hi⟩ := hR
  refine callsIn_of_wp Try.func47 rfl trivial ?_ rfl
  simp only [Try.ntmps47, List.size_toArray, List.length_cons, List.length_nil, Nat.reduceAdd, Nat.reduceSub, Array.replicate_succ, Array.replicate_zero, List.push_toArray, List.append_toArray, List.nil_append, List.cons_append]
  gi_wp2
  gi_loopw [11] (fun p wr => ∃ k : Nat, p = .int .i64 (k : Int) ∧ k ≤ es.length ∧ J (outs v (es.take k)) wr ∧ Below n₀ w wr ∧ wr.heap[Bf]? = w.heap[Bf]?)
    (fun p wr => es.length - (intOf p).toNat)
  case atStart => exact ⟨0, rfl, by omega, by simpa [outs] using h0, Below.refl _ _, rfl⟩
  case round =>
    obtain ⟨k, rfl, hk, hJ, hB, hbf⟩ := hrel
    by_cases hlt2 : k < es.length
    · obtain ⟨b, o, g, hA2, hb, hg, h3, h4, h5⟩ := hi k hlt2
      subst hA2
      have c3 : wr.cell? ⟨b, o + k, none⟩ = some (.pointer (some ⟨g, 0, none⟩)) := (hB.cell (p := ⟨b, o + k, none⟩) hb).trans h3
      have c4 := (hB.cell (p := ⟨g, 1, none⟩) hg).trans h4
      have c5 := (hB.cell (p := ⟨g, 2, none⟩) hg).trans h5
      have cBf : wr.cell? ⟨Bf, 0, none⟩ = some (.int .i64 v) := by simp [World.cell?, hbf.trans (show w.heap[Bf]? = _ from hBf)]
      have hd : decide (k < es.length) = true := decide_eq_true hlt2
      by_cases hv : es[k].1 = v
      · have hdv : decide (es[k].1 = v) = true := decide_eq_true hv
        have hlen2 : (outs v (es.take k)).length < (outs v es).length := by
          have h1 := outs_succ v es k hlt2
          rw [if_pos hv] at h1
          have h2 := (outs_take_le v es (k + 1)).length_le
          rw [h1, List.length_append, List.length_singleton] at h2
          omega
        obtain ⟨fn, tmps, assign, body, hy, hR⟩ := hY _ es[k].2 wr.drew (hJd _ _ hJ) hlen2
        gi_wp2
        have d4 : wr.drew.cell? ⟨g, 1, none⟩ = _ := c4
        have d5 : wr.drew.cell? ⟨g, 2, none⟩ = _ := c5
        have df : wr.drew.cell? ⟨Bf, 0, none⟩ = _ := cBf
        gi_region_with (refine ⟨fun h => (by cases h), ?_⟩; refine hR.mono ?_; rintro e W3 h; obtain ⟨bb, rfl, hbb⟩ : ∃ bb, e = .returned (.bool bb) ∧ ((bb = true ∧ J (outs v (es.take k) ++ [es[k].2]) W3 ∧ Kp2 n₀ Bf wr.drew W3) ∨ (bb = false ∧ Jx (outs v (es.take k) ++ [es[k].2]) W3)) := (by rcases h with ⟨rfl, h⟩ | ⟨rfl, h⟩; exact ⟨true, rfl, .inl ⟨rfl, h⟩⟩; exact ⟨false, rfl, .inr ⟨rfl, h⟩⟩))
        all_goals (rcases hbb with ⟨rfl, hJ3, hk3, hf3⟩ | ⟨rfl, hJ3⟩)
        all_goals gi_wp2
        all_goals first
          | (refine bodyPost_ret (results_none rfl _ _ _) rfl ?_
             exact ⟨⟨_, rfl⟩, .inr ⟨_, by have h1 := outs_take_le v es (k + 1); rw [outs_succ v es k hlt2, if_pos hv] at h1; exact h1, hJ3⟩⟩)
          | (go_roundw
             case rel => exact ⟨k + 1, by simp, by omega, by rw [outs_succ v es k hlt2, if_pos hv]; exact hJ3, (hB.drew).trans hk3, hf3.trans hbf⟩
             case measure => (simp [intOf]; omega))
      · have hdv : decide (es[k].1 = v) = false := decide_eq_false hv
        gi_wp2
        have d4 : wr.drew.cell? ⟨g, 1, none⟩ = _ := c4
        have df : wr.drew.cell? ⟨Bf, 0, none⟩ = _ := cBf
        have hbq : (es[k].1 == v) = false := by simp [hv]
        first | gi_region_with (refine ⟨fun _ h => (by cases h), ?_⟩) | fail "no"
        all_goals gi_wp2
        all_goals (
          go_roundw
          case rel => exact ⟨k + 1, by simp, by omega, by rw [outs_succ v es k hlt2, if_neg hv, List.append_nil]; exact hJd _ _ hJ, hB.drew, hbf⟩
          case measure => (simp [intOf]; omega))
    · have hd : decide (k < es.length) = false := decide_eq_false hlt2
      gi_wp2
      go_end0
      exact ⟨⟨_, rfl⟩, .inl ⟨_, by rw [show k = es.length by omega, List.take_length], hJ⟩⟩
end Go.Proofs.Ytlaakcgipecldaa
