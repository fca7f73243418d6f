/- Contracts of the guard (package spore) and of the document's one. -/
import Derived.Test.YtclbbnoinnmdnaaProg
import Derived.Test.YtclbbnoinnmdnaaBase
namespace Go.Proofs.Ytclbbnoinnmdnaa
set_option linter.all false
open Go.RowKit

def askE (e now : Int) : Int := if now < 0 then 2 else if 1099511627776 < now then 10 else if now < e then 140 else 0
theorem askE_ok {e now : Int} (h : askE e now = 0) : 0 ≤ now ∧ now ≤ 1099511627776 ∧ e ≤ now := by
  unfold askE at h
  split at h
  · omega
  · split at h
    · omega
    · split at h
      · omega
      · omega
def relE (p e now : Int) : Int := if askE e now = 0 then now + p else e

set_option maxHeartbeats 400000 in
theorem asked_any (g : Nat) (p e now : Int) (w : World) (hb : Blk w g 42 #[.int .i64 p, .int .i64 e]) (hp : 1 ≤ p) :
    Calls Try.prog 33 #[.pointer (some ⟨g, 0, none⟩), .int .i64 now] w fun r w' => r = .returned (.int .i64 (askE e now)) ∧ w = w' := by
  have c0 := hb.cell 0
  have c1 := hb.cell 1
  simp at c0 c1
  have h0 : (p == 0) = false := by simp; omega
  clear hb
  go_enter Try.func33, Try.ntmps33
  go_wp2
  all_goals
    go_ret
    refine ⟨?_, rfl⟩
    unfold askE
    split <;> (try split) <;> (try split) <;> first | rfl | omega

set_option maxHeartbeats 400000 in
theorem release_any (g : Nat) (p e now : Int) (w : World) (hb : Blk w g 42 #[.int .i64 p, .int .i64 e]) (hp : 1 ≤ p ∧ p ≤ 64) :
    Calls Try.prog 16 #[.pointer (some ⟨g, 0, none⟩), .int .i64 now] w fun r w' => r = .returned (.int .i64 (askE e now)) ∧
      Blk w' g 42 #[.int .i64 p, .int .i64 (relE p e now)] ∧ Upd (· = g) w w' := by
  have c0 := hb.cell 0
  have c1 := hb.cell 1
  have f1 := hb.frozen 1
  simp at c0 c1
  have HB := Lib.hid hb
  clear hb
  go_enter Try.func16, Try.ntmps16
  go_wp2_with (go_at_call 33; refine (asked_any g p e now _ HB.out hp.1).mono ?_; rintro r w' ⟨rfl, rfl⟩)
  all_goals go_ret
  · have hz : askE e now = 0 := by simpa using (by assumption : (askE e now == 0) = true)
    have hn := askE_ok hz
    have hw : wrap64 (now + p) = now + p := IntWalk.wrap64_in _ ⟨by omega, by omega⟩
    rw [hw]
    refine ⟨rfl, ?_, Upd.set1 _ _ _⟩
    have := HB.out.set_ 1 (.int .i64 (now + p))
    simpa [relE, hz] using this
  · have hz : ¬ askE e now = 0 := by simpa using (by assumption : (askE e now == 0) = false)
    exact ⟨rfl, by simpa [relE, hz] using HB.out, Upd.refl _ _⟩

set_option maxHeartbeats 400000 in
theorem may_any (g : Nat) (p e now : Int) (w : World) (hb : Blk w g 42 #[.int .i64 p, .int .i64 e]) (hp : 1 ≤ p) :
    Calls Try.prog 18 #[.pointer (some ⟨g, 0, none⟩), .int .i64 now] w fun r w' => r = .returned (.bool (askE e now == 0)) ∧ w = w' := by
  have HB := Lib.hid hb
  clear hb
  go_enter Try.func18, Try.ntmps18
  go_wp2_with (go_at_call 33; refine (asked_any g p e now _ HB.out hp).mono ?_; rintro r w' ⟨rfl, rfl⟩)
  go_ret
  exact ⟨rfl, rfl⟩

set_option maxHeartbeats 400000 in
theorem next_any (g : Nat) (p e : Int) (w : World) (hb : Blk w g 42 #[.int .i64 p, .int .i64 e]) (hp : 1 ≤ p) :
    Calls Try.prog 22 #[.pointer (some ⟨g, 0, none⟩)] w fun r w' => r = .returned (.int .i64 e) ∧ w = w' := by
  have c0 := hb.cell 0
  have c1 := hb.cell 1
  simp at c0 c1
  have h0 : (p == 0) = false := by simp; omega
  clear hb
  go_enter Try.func22, Try.ntmps22
  go_wp2
  go_ret
  exact ⟨rfl, rfl⟩

def mayS (p : Int) : Bool := decide (1 ≤ p ∧ p ≤ 64)
def chgS (p q : Int) : Int := if 1 ≤ q ∧ q ≤ 64 then q else p
theorem chgS_pos {p q : Int} (h : 1 ≤ p) : 1 ≤ chgS p q := by unfold chgS; split <;> omega
theorem chgS_le {p q : Int} (h : p ≤ 64) : chgS p q ≤ 64 := by unfold chgS; split <;> omega
theorem relE_pos {p e now : Int} (h : 0 ≤ e) (hp : 1 ≤ p) : 0 ≤ relE p e now := by
  unfold relE
  split
  · have := askE_ok (by assumption : askE e now = 0); omega
  · exact h
def chgE (q : Int) : Int := if 1 ≤ q ∧ q ≤ 64 then 0 else 2

set_option maxHeartbeats 400000 in
theorem change_any (g : Nat) (p e q : Int) (w : World) (hb : Blk w g 42 #[.int .i64 p, .int .i64 e]) (hp : 1 ≤ p ∧ p ≤ 64) :
    Calls Try.prog 20 #[.pointer (some ⟨g, 0, none⟩), .int .i64 q] w fun r w' => r = .returned (.int .i64 (chgE q)) ∧
      Blk w' g 42 #[.int .i64 (chgS p q), .int .i64 e] ∧ Upd (· = g) w w' := by
  have c0 := hb.cell 0
  have c1 := hb.cell 1
  have f0 := hb.frozen 0
  simp at c0 c1
  have h0 : (p == 0) = false := by simp; omega
  have HB := Lib.hid hb
  clear hb
  go_enter Try.func20, Try.ntmps20
  go_wp2
  all_goals go_ret
  · have hq : ¬ (1 ≤ q ∧ q ≤ 64) := by have : (!decide (q ≤ 64)) = true := by assumption
                                       simp at this; omega
    exact ⟨by simp [chgE, hq], by simpa [chgS, hq] using HB.out, Upd.refl _ _⟩
  · have hq : (1 ≤ q ∧ q ≤ 64) := by have : (!decide (q ≤ 64)) = false := by assumption
                                     simp at this; omega
    have := HB.out.set_ 0 (.int .i64 q)
    exact ⟨by simp [chgE, hq], by simpa [chgS, hq] using this, Upd.set1 _ _ _⟩
  · have hq : ¬ (1 ≤ q ∧ q ≤ 64) := by omega
    exact ⟨by simp [chgE, hq], by simpa [chgS, hq] using HB.out, Upd.refl _ _⟩

set_option maxHeartbeats 400000 in
theorem new_ok (p : Int) (w : World) (h : 1 ≤ p ∧ p ≤ 64) :
    Calls Try.prog 13 #[.int .i64 p] w fun r w' => r = .returned (.tuple #[.pointer (some ⟨w.heap.size, 0, none⟩), .int .i64 0]) ∧ w.alloc (.cells #[.int .i64 p, .int .i64 0] 42) = w' := by
  go_enter Try.func13, Try.ntmps13
  go_wp2
  go_ret2
  exact ⟨rfl, rfl⟩

set_option maxHeartbeats 400000 in
theorem new_no (p : Int) (w : World) (h : ¬ (1 ≤ p ∧ p ≤ 64)) :
    Calls Try.prog 13 #[.int .i64 p] w fun r w' => r = .returned (.tuple #[.pointer none, .int .i64 2]) ∧ w = w' := by
  by_cases h1 : 1 ≤ p
  · have h2 : decide (p ≤ 64) = false := by simp; omega
    clear h
    go_enter Try.func13, Try.ntmps13
    go_wp2
    go_ret2
    exact ⟨rfl, rfl⟩
  · clear h
    go_enter Try.func13, Try.ntmps13
    go_wp2
    go_ret2
    exact ⟨rfl, rfl⟩

/-! ### the document's guard -/
set_option maxHeartbeats 400000 in
theorem r_asked_any (g : Nat) (p e now : Int) (w : World) (hb : Blk w g 55 #[.int .i64 p, .int .i64 e]) :
    Calls Try.prog 34 #[.pointer (some ⟨g, 0, none⟩), .int .i64 now] w fun r w' => r = .returned (.int .i64 (askE e now)) ∧ w = w' := by
  have c1 := hb.cell 1
  simp at c1
  clear hb
  go_enter Try.func34, Try.ntmps34
  go_wp2
  all_goals
    go_ret
    refine ⟨?_, rfl⟩
    unfold askE
    split <;> (try split) <;> (try split) <;> first | rfl | omega

set_option maxHeartbeats 400000 in
theorem r_release_any (g : Nat) (p e now : Int) (w : World) (hb : Blk w g 55 #[.int .i64 p, .int .i64 e]) (hp : 1 ≤ p ∧ p ≤ 64) :
    Calls Try.prog 17 #[.pointer (some ⟨g, 0, none⟩), .int .i64 now] w fun r w' => r = .returned (.int .i64 (askE e now)) ∧
      Blk w' g 55 #[.int .i64 p, .int .i64 (relE p e now)] ∧ Upd (· = g) w w' := by
  have c0 := hb.cell 0
  have c1 := hb.cell 1
  have f1 := hb.frozen 1
  simp at c0 c1
  have HB := Lib.hid hb
  clear hb
  go_enter Try.func17, Try.ntmps17
  go_wp2_with (go_at_call 34; refine (r_asked_any g p e now _ HB.out).mono ?_; rintro r w' ⟨rfl, rfl⟩)
  all_goals go_ret
  · have hz : askE e now = 0 := by simpa using (by assumption : (askE e now == 0) = true)
    have hn := askE_ok hz
    have hw : wrap64 (now + p) = now + p := IntWalk.wrap64_in _ ⟨by omega, by omega⟩
    rw [hw]
    refine ⟨rfl, ?_, Upd.set1 _ _ _⟩
    have := HB.out.set_ 1 (.int .i64 (now + p))
    simpa [relE, hz] using this
  · have hz : ¬ askE e now = 0 := by simpa using (by assumption : (askE e now == 0) = false)
    exact ⟨rfl, by simpa [relE, hz] using HB.out, Upd.refl _ _⟩

set_option maxHeartbeats 400000 in
theorem r_may_any (g : Nat) (p e now : Int) (w : World) (hb : Blk w g 55 #[.int .i64 p, .int .i64 e]) :
    Calls Try.prog 19 #[.pointer (some ⟨g, 0, none⟩), .int .i64 now] w fun r w' => r = .returned (.bool (askE e now == 0)) ∧ w = w' := by
  have HB := Lib.hid hb
  clear hb
  go_enter Try.func19, Try.ntmps19
  go_wp2_with (go_at_call 34; refine (r_asked_any g p e now _ HB.out).mono ?_; rintro r w' ⟨rfl, rfl⟩)
  go_ret
  exact ⟨rfl, rfl⟩

set_option maxHeartbeats 400000 in
theorem r_next_any (g : Nat) (p e : Int) (w : World) (hb : Blk w g 55 #[.int .i64 p, .int .i64 e]) :
    Calls Try.prog 23 #[.pointer (some ⟨g, 0, none⟩)] w fun r w' => r = .returned (.int .i64 e) ∧ w = w' := by
  have c1 := hb.cell 1
  simp at c1
  clear hb
  go_enter Try.func23, Try.ntmps23
  go_wp2
  go_ret
  exact ⟨rfl, rfl⟩

set_option maxHeartbeats 400000 in
theorem r_change_any (g : Nat) (p e q : Int) (w : World) (hb : Blk w g 55 #[.int .i64 p, .int .i64 e]) :
    Calls Try.prog 21 #[.pointer (some ⟨g, 0, none⟩), .int .i64 q] w fun r w' => r = .returned (.int .i64 (chgE q)) ∧
      Blk w' g 55 #[.int .i64 (chgS p q), .int .i64 e] ∧ Upd (· = g) w w' := by
  have c0 := hb.cell 0
  have f0 := hb.frozen 0
  simp at c0
  have HB := Lib.hid hb
  clear hb
  go_enter Try.func21, Try.ntmps21
  go_wp2
  all_goals go_ret
  all_goals first
    | (have hq : ¬ (1 ≤ q ∧ q ≤ 64) := by omega
       exact ⟨by simp [chgE, hq], by simpa [chgS, hq] using HB.out, Upd.refl _ _⟩)
    | (have hq : (1 ≤ q ∧ q ≤ 64) := by omega
       have := HB.out.set_ 0 (.int .i64 q)
       exact ⟨by simp [chgE, hq], by simpa [chgS, hq] using this, Upd.set1 _ _ _⟩)

set_option maxHeartbeats 400000 in
theorem r_new_ok (p : Int) (w : World) (h : 1 ≤ p ∧ p ≤ 64) :
    Calls Try.prog 14 #[.int .i64 p] w fun r w' => r = .returned (.tuple #[.pointer (some ⟨w.heap.size, 0, none⟩), .int .i64 0]) ∧ w.alloc (.cells #[.int .i64 p, .int .i64 0] 55) = w' := by
  go_enter Try.func14, Try.ntmps14
  go_wp2
  go_ret2
  exact ⟨rfl, rfl⟩

set_option maxHeartbeats 400000 in
theorem r_new_no (p : Int) (w : World) (h : ¬ (1 ≤ p ∧ p ≤ 64)) :
    Calls Try.prog 14 #[.int .i64 p] w fun r w' => r = .returned (.tuple #[.pointer none, .int .i64 2]) ∧ w = w' := by
  by_cases h1 : p < 1
  · go_enter Try.func14, Try.ntmps14
    go_wp2
    go_ret2
    exact ⟨rfl, rfl⟩
  · have h2 : 64 < p := by omega
    clear h
    go_enter Try.func14, Try.ntmps14
    go_wp2
    go_ret2
    exact ⟨rfl, rfl⟩

end Go.Proofs.Ytclbbnoinnmdnaa
