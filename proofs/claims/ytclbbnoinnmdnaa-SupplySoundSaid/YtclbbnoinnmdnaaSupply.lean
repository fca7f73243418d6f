/- Contracts of package supply. -/
import Derived.Test.YtclbbnoinnmdnaaTicks
import Derived.Test.YtclbbnoinnmdnaaOwn
namespace Go.Proofs.Ytclbbnoinnmdnaa
set_option linter.all false
open Go.RowKit

def givesI (p b t : Int) : Int := if t < p - b then 0 else (t - (p - b)) / p * b + max 0 (t - (p - b) - (t - (p - b)) / p * p - (p - b))
def OkS (p b : Int) : Prop := 1 ≤ p ∧ p ≤ 64 ∧ 1 ≤ b ∧ b ≤ p

set_option maxHeartbeats 1000000 in
theorem over_ok (a b : Int) (w : World) (ha : 0 ≤ a ∧ a ≤ 1099511627776) (hb : 1 ≤ b ∧ b ≤ 1099511627776) :
    Calls Try.prog 40 #[.int .i64 a, .int .i64 b] w fun r w' => r = .returned (.int .i64 (a / b)) ∧ Below w.heap.size w w' := by
  go_enter Try.func40, Try.ntmps40
  go_wp2_with (go_at_call 42; refine (div_ok a b _ ha hb).mono ?_; rintro r w' ⟨rfl, hx⟩)
  go_ret
  exact ⟨rfl, hx⟩

set_option maxHeartbeats 1000000 in
theorem idle_any (p b : Int) (w : World) (hp : 0 ≤ p ∧ p ≤ 64) (hb : 0 ≤ b ∧ b ≤ 64) :
    Calls Try.prog 41 #[.agg #[.int .i64 p, .int .i64 b]] w fun r w' => r = .returned (.int .i64 (p - b)) ∧ Below w.heap.size w w' := by
  obtain ⟨p1, p2⟩ := hp
  obtain ⟨b1, b2⟩ := hb
  go_enter Try.func41, Try.ntmps41
  go_wp2
  go_ret
  exact ⟨rfl, (Below.refl _ _).alloc (Nat.le_refl _) _⟩

set_option maxHeartbeats 1000000 in
theorem sof_ok (p b : Int) (w : World) (h : OkS p b) :
    Calls Try.prog 36 #[.int .i64 p, .int .i64 b] w fun r w' => r = .returned (.tuple #[.agg #[.int .i64 p, .int .i64 b], .bool true]) ∧ Below w.heap.size w w' := by
  obtain ⟨h1, h2, h3, h4⟩ := h
  have d1 : decide (b ≤ p) = true := by simp; omega
  go_enter Try.func36, Try.ntmps36
  go_wp2
  exact bodyPost_ret (v := .tuple #[.agg #[.int .i64 p, .int .i64 b], .bool true]) (by simp [results, Try.results36, go_sem]) rfl ⟨rfl, by repeat (first | exact Below.refl _ _ | exact Nat.le_refl _ | (apply Below.setCell) | (apply Below.alloc) | (simp; done))⟩

set_option maxHeartbeats 1000000 in
theorem sof_no (p b : Int) (w : World) (h : ¬ OkS p b) :
    Calls Try.prog 36 #[.int .i64 p, .int .i64 b] w fun r w' => r = .returned (.tuple #[.agg #[.int .i64 p, .int .i64 b], .bool false]) ∧ Below w.heap.size w w' := by
  unfold OkS at h
  by_cases h5 : b ≤ p
  · have h6 : 1 ≤ p → p ≤ 64 → ¬ 1 ≤ b := by omega
    have H6 := Lib.hid h6
    clear h h6
    go_enter Try.func36, Try.ntmps36
    go_wp2
    · have h7 := H6.out (by assumption) (by assumption)
      omega
    all_goals exact bodyPost_ret (v := .tuple #[.agg #[.int .i64 p, .int .i64 b], .bool false]) (by simp [results, Try.results36, go_sem]) rfl ⟨rfl, by repeat (first | exact Below.refl _ _ | exact Nat.le_refl _ | (apply Below.setCell) | (apply Below.alloc) | (simp; done))⟩
  · have d5 : decide (b ≤ p) = false := by simpa using h5
    clear h h5
    go_enter Try.func36, Try.ntmps36
    go_wp2
    all_goals exact bodyPost_ret (v := .tuple #[.agg #[.int .i64 p, .int .i64 b], .bool false]) (by simp [results, Try.results36, go_sem]) rfl ⟨rfl, by repeat (first | exact Below.refl _ _ | exact Nat.le_refl _ | (apply Below.setCell) | (apply Below.alloc) | (simp; done))⟩

set_option maxHeartbeats 2000000 in
theorem gives_ok (p b t : Int) (w : World) (h : OkS p b) (ht : 0 ≤ t ∧ t ≤ 1048576) :
    Calls Try.prog 37 #[.agg #[.int .i64 p, .int .i64 b], .int .i64 t] w fun r w' => r = .returned (.int .i64 (givesI p b t)) ∧ Below w.heap.size w w' := by
  obtain ⟨h1, h2, h3, h4⟩ := h
  obtain ⟨t1, t2⟩ := ht
  by_cases hc : t < p - b
  · have hg : givesI p b t = 0 := by unfold givesI; rw [if_pos hc]
    rw [hg]
    clear hg
    go_enter Try.func37, Try.ntmps37
    go_wp2_with (go_at_call 41; refine (idle_any p b _ (by omega) (by omega)).mono ?_; rintro r w' ⟨rfl, hx⟩)
    go_ret
    exact ⟨rfl, ((Below.refl _ _).alloc (Nat.le_refl _) _).trans (hx.mono (by simp))⟩
  · have hg : givesI p b t = (t - (p - b)) / p * b + max 0 (t - (p - b) - (t - (p - b)) / p * p - (p - b)) := by unfold givesI; rw [if_neg hc]
    rw [hg]
    clear hg
    obtain ⟨q, hq⟩ : ∃ q, (t - (p - b)) / p = q := ⟨_, rfl⟩
    have q1 : 0 ≤ q := by rw [← hq]; exact Int.ediv_nonneg (by omega) (by omega)
    have q2 : q * p ≤ t - (p - b) := by rw [← hq]; exact Int.ediv_mul_le _ (by omega)
    have q3 : q * b ≤ q * p := Int.mul_le_mul_of_nonneg_left h4 q1
    have q4 : 0 ≤ q * b := Int.mul_nonneg q1 (by omega)
    rw [hq]
    go_enter Try.func37, Try.ntmps37
    go_wp2_with (first
      | (go_at_call 41; refine (idle_any p b _ (by omega) (by omega)).mono ?_; rintro r w1 ⟨rfl, hx⟩; have e0 : w1.cell? ⟨w.heap.size, 0, none⟩ = some (.int .i64 p) := (hx.cell (p := ⟨w.heap.size, 0, none⟩) (by simp)).trans (by simp); have e1 : w1.cell? ⟨w.heap.size, 1, none⟩ = some (.int .i64 b) := (hx.cell (p := ⟨w.heap.size, 1, none⟩) (by simp)).trans (by simp); have hs := hx.size; have HX := Lib.hid hx; clear hx)
      | (go_at_call 40; refine (over_ok _ _ _ (by omega) (by omega)).mono ?_; rintro r w2 ⟨rfl, hx⟩; have HX2 := Lib.hid hx; clear hx))
    have hsz : w.heap.size < w2.heap.size := by have := HX.out.size; have := HX2.out.size; simp at *; omega
    have f0 : w2.cell? ⟨w.heap.size, 0, none⟩ = some (.int .i64 p) := (HX2.out.cell (p := ⟨w.heap.size, 0, none⟩) (by have := HX.out.size; simp at *; omega)).trans e0
    have f1 : w2.cell? ⟨w.heap.size, 1, none⟩ = some (.int .i64 b) := (HX2.out.cell (p := ⟨w.heap.size, 1, none⟩) (by have := HX.out.size; simp at *; omega)).trans e1
    have m0 : 0 ≤ max 0 (t - (p - b) - q * p - (p - b)) ∧ max 0 (t - (p - b) - q * p - (p - b)) ≤ 1048576 := by omega
    have g1 : IntKind.i64.wrap (q * b) = q * b := IntWalk.i64_in _ (by omega)
    have g2 : IntKind.i64.wrap (t - (p - b)) = t - (p - b) := IntWalk.i64_in _ (by omega)
    have g3 : IntKind.i64.wrap (q * p) = q * p := IntWalk.i64_in _ (by omega)
    have g4 : IntKind.i64.wrap (t - (p - b) - q * p) = t - (p - b) - q * p := IntWalk.i64_in _ (by omega)
    have g5 : IntKind.i64.wrap (t - (p - b) - q * p - (p - b)) = t - (p - b) - q * p - (p - b) := IntWalk.i64_in _ (by omega)
    have g6 : IntKind.i64.wrap (q * b + max 0 (t - (p - b) - q * p - (p - b))) = q * b + max 0 (t - (p - b) - q * p - (p - b)) := IntWalk.i64_in _ (by omega)
    have HSZ := Lib.hid hsz
    clear e0 e1 m0 hsz
    go_region_held3 (fun w' => w'.cell? ⟨w.heap.size, 0, none⟩ = some (.int .i64 p) ∧ w'.cell? ⟨w.heap.size, 1, none⟩ = some (.int .i64 b))
      (first | go_keep | (go_split_ands; refine ⟨(hx3.cell (p := ⟨w.heap.size, 0, none⟩) HSZ.out).trans f0, (hx3.cell (p := ⟨w.heap.size, 1, none⟩) HSZ.out).trans f1⟩))
      ((go_at_call 41; refine (idle_any p b _ (by omega) (by omega)).mono ?_; rintro r w3 ⟨rfl, hx3⟩))
    clear g1 g2 g3 g4 g5 g6
    have hB : Below w.heap.size w w3 := ((((Below.refl _ _).alloc (Nat.le_refl _) _).trans (HX.out.mono (by simp))).trans (HX2.out.mono (by have := HX.out.size; simp at *; omega))).drew.trans (hx3.mono (by show _ ≤ w2.heap.size; exact Nat.le_of_lt HSZ.out))
    have HB := Lib.hid hB
    clear hB hx3
    go_wp2
    all_goals
      go_ret
      exact ⟨ret_int (by first | (rw [IntWalk.i64_in (q * b) (by omega)]; omega) | (rw [IntWalk.i64_in (q * b + (t - (p - b) - q * p - (p - b))) (by omega)]; omega) | omega), by first | exact HB.out | exact HB.out.drew⟩

set_option maxHeartbeats 1000000 in
theorem Of_ok (p b t : Int) (w : World) (h : OkS p b) (ht : 0 ≤ t ∧ t ≤ 1048576) :
    Calls Try.prog 25 #[.int .i64 p, .int .i64 b, .int .i64 t] w fun r w' => r = .returned (.tuple #[.int .i64 (givesI p b t), .int .i64 0]) ∧ Below w.heap.size w w' := by
  have H := Lib.hid h
  obtain ⟨t1, t2⟩ := ht
  clear h
  go_enter Try.func25, Try.ntmps25
  go_wp2_with (first
    | (go_at_call 36; refine (sof_ok p b _ H.out).mono ?_; rintro r w1 ⟨rfl, hx⟩; have HX := Lib.hid hx; clear hx)
    | (go_at_call 37; refine (gives_ok p b t _ H.out ⟨t1, t2⟩).mono ?_; rintro r w2 ⟨rfl, hx⟩; have HX2 := Lib.hid hx; clear hx))
  go_ret2
  exact ⟨rfl, (HX.out.alloc HX.out.size _).trans (HX2.out.mono (by have := HX.out.size; simp; omega))⟩

set_option maxHeartbeats 1000000 in
theorem Of_no (p b t : Int) (w : World) (h : ¬ (OkS p b ∧ 0 ≤ t ∧ t ≤ 1048576)) :
    Calls Try.prog 25 #[.int .i64 p, .int .i64 b, .int .i64 t] w fun r w' => r = .returned (.tuple #[.int .i64 0, .int .i64 2]) ∧ Below w.heap.size w w' := by
  by_cases hs : OkS p b
  · have H := Lib.hid hs
    have ht : t < 0 ∨ 1048576 < t := by
      rcases Int.lt_or_le t 0 with h1 | h1
      · exact .inl h1
      · rcases Int.lt_or_le 1048576 t with h2 | h2
        · exact .inr h2
        · exact absurd ⟨hs, h1, h2⟩ h
    clear h hs
    rcases ht with ht | ht
    all_goals
      go_enter Try.func25, Try.ntmps25
      go_wp2_with (go_at_call 36; refine (sof_ok p b _ H.out).mono ?_; rintro r w1 ⟨rfl, hx⟩; have HX := Lib.hid hx; clear hx)
      go_ret2
      exact ⟨rfl, (HX.out.alloc HX.out.size _)⟩
  · have H := Lib.hid hs
    clear h hs
    go_enter Try.func25, Try.ntmps25
    go_wp2_with (go_at_call 36; refine (sof_no p b _ H.out).mono ?_; rintro r w1 ⟨rfl, hx⟩; have HX := Lib.hid hx; clear hx)
    go_ret2
    exact ⟨rfl, (HX.out.alloc HX.out.size _)⟩

def waitI (p b n : Int) : Int := if n = 0 then 0 else 2 * (p - b) + (n - 1) / b * p + n - (n - 1) / b * b

set_option maxHeartbeats 1000000 in
theorem Wait_ok (p b n : Int) (w : World) (h : OkS p b) (ht : 0 ≤ n ∧ n ≤ 4096) :
    Calls Try.prog 28 #[.int .i64 p, .int .i64 b, .int .i64 n] w fun r w' => r = .returned (.tuple #[.int .i64 (waitI p b n), .int .i64 0]) ∧ Below w.heap.size w w' := by
  have H := Lib.hid h
  obtain ⟨h1, h2, h3, h4⟩ := h
  obtain ⟨t1, t2⟩ := ht
  by_cases hn : n = 0
  · subst hn
    have hg : waitI p b 0 = 0 := rfl
    rw [hg]
    clear hg
    go_enter Try.func28, Try.ntmps28
    go_wp2_with (go_at_call 36; refine (sof_ok p b _ H.out).mono ?_; rintro r w1 ⟨rfl, hx⟩; have HX := Lib.hid hx; clear hx)
    go_ret2
    exact ⟨rfl, (HX.out.alloc HX.out.size _)⟩
  · have hg : waitI p b n = 2 * (p - b) + (n - 1) / b * p + n - (n - 1) / b * b := by unfold waitI; rw [if_neg hn]
    rw [hg]
    clear hg
    obtain ⟨q, hq⟩ : ∃ q, (n - 1) / b = q := ⟨_, rfl⟩
    have q1 : 0 ≤ q := by rw [← hq]; exact Int.ediv_nonneg (by omega) (by omega)
    have q2 : q ≤ 4096 := by rw [← hq]; have := Int.ediv_le_self (b := b) (a := n - 1) (by omega); omega
    have q3 : q * p ≤ q * 64 := Int.mul_le_mul_of_nonneg_left h2 q1
    have q4 : 0 ≤ q * p := Int.mul_nonneg q1 (by omega)
    have q5 : q * b ≤ q * p := Int.mul_le_mul_of_nonneg_left h4 q1
    have q6 : 0 ≤ q * b := Int.mul_nonneg q1 (by omega)
    have hn0 : (n == 0) = false := by simpa using hn
    rw [hq]
    go_enter Try.func28, Try.ntmps28
    go_wp2_with (first
      | (go_at_call 36; refine (sof_ok p b _ H.out).mono ?_; rintro r w1 ⟨rfl, hx⟩; have HX := Lib.hid hx; clear hx)
      | (go_at_call 40; refine (over_ok _ _ _ (by omega) (by omega)).mono ?_; rintro r w2 ⟨rfl, hx⟩; have e0 : w2.cell? ⟨w1.heap.size, 0, none⟩ = some (.int .i64 p) := (hx.cell (p := ⟨w1.heap.size, 0, none⟩) (by simp)).trans (by simp); have e1 : w2.cell? ⟨w1.heap.size, 1, none⟩ = some (.int .i64 b) := (hx.cell (p := ⟨w1.heap.size, 1, none⟩) (by simp)).trans (by simp); have HX2 := Lib.hid hx; clear hx)
      | (go_at_call 41; refine (idle_any p b _ (by omega) (by omega)).mono ?_; rintro r w3 ⟨rfl, hx⟩; have HX3 := Lib.hid hx; clear hx))
    go_ret2
    have y1 : w.heap.size ≤ w1.heap.size := HX.out.size
    have y2 : w1.heap.size ≤ w2.heap.size := by have := HX2.out.size; simp at this; omega
    exact ⟨rfl, ((HX.out.alloc y1 _).trans (HX2.out.mono (by simp; omega))).trans (HX3.out.mono (by omega))⟩

set_option maxHeartbeats 1000000 in
theorem Wait_no (p b n : Int) (w : World) (h : ¬ (OkS p b ∧ 0 ≤ n ∧ n ≤ 4096)) :
    Calls Try.prog 28 #[.int .i64 p, .int .i64 b, .int .i64 n] w fun r w' => r = .returned (.tuple #[.int .i64 0, .int .i64 2]) ∧ Below w.heap.size w w' := by
  by_cases hs : OkS p b
  · have H := Lib.hid hs
    have ht : n < 0 ∨ 4096 < n := by
      rcases Int.lt_or_le n 0 with h1 | h1
      · exact .inl h1
      · rcases Int.lt_or_le 4096 n with h2 | h2
        · exact .inr h2
        · exact absurd ⟨hs, h1, h2⟩ h
    clear h hs
    rcases ht with ht | ht
    all_goals
      go_enter Try.func28, Try.ntmps28
      go_wp2_with (go_at_call 36; refine (sof_ok p b _ H.out).mono ?_; rintro r w1 ⟨rfl, hx⟩; have HX := Lib.hid hx; clear hx)
      go_ret2
      exact ⟨rfl, (HX.out.alloc HX.out.size _)⟩
  · have H := Lib.hid hs
    clear h hs
    go_enter Try.func28, Try.ntmps28
    go_wp2_with (go_at_call 36; refine (sof_no p b _ H.out).mono ?_; rintro r w1 ⟨rfl, hx⟩; have HX := Lib.hid hx; clear hx)
    go_ret2
    exact ⟨rfl, (HX.out.alloc HX.out.size _)⟩
end Go.Proofs.Ytclbbnoinnmdnaa
