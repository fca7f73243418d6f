/- Contracts of package port: Check, New. -/
import Derived.Test.YtlaakcgipecldaaPortWay3
namespace Go.Proofs.Ytlaakcgipecldaa
set_option linter.all false
open Go.RowKit

def PortOk (k f t s d a : Int) : Prop := ((k = 1 ∧ d = 0 ∧ 1 ≤ a ∧ a ≤ 64) ∨ (k = 2 ∧ a = 0 ∧ 1 ≤ d ∧ d ≤ 4)) ∧ 0 ≤ f ∧ f ≤ 3 ∧ 0 ≤ t ∧ t ≤ 3 ∧ f ≠ t ∧ 1 ≤ s ∧ s ≤ 16
instance (k f t s d a : Int) : Decidable (PortOk k f t s d a) := by unfold PortOk; infer_instance
def checkE (k f t s d a : Int) : Int := if PortOk k f t s d a then 0 else 50

set_option maxRecDepth 100000 in
set_option maxHeartbeats 4000000 in
theorem check_any (k f t s d a : Int) (w : World) :
    Calls Try.prog 16 #[.agg #[.int .i64 k, .int .i64 f, .int .i64 t, .int .i64 s, .int .i64 d, .int .i64 a]] w fun r w' => r = .returned (.int .i64 (checkE k f t s d a)) ∧ Below w.heap.size w w' := by
  have hE : PortOk k f t s d a → checkE k f t s d a = 0 := fun h => if_pos h
  have hN : ¬ PortOk k f t s d a → checkE k f t s d a = 50 := fun h => if_neg h
  obtain ⟨e, he⟩ : ∃ e, checkE k f t s d a = e := ⟨_, rfl⟩
  rw [he] at hE hN ⊢
  have HE := Lib.hid hE
  have HN := Lib.hid hN
  clear hE hN he
  by_cases hk1 : k = 1
  · subst hk1
    go_enter Try.func16, Try.ntmps16
    go_wp2_with (go_at_call 34; refine (within_any _ _ _ _).mono ?_; rintro r w1 ⟨rfl, rfl⟩)
    all_goals
      go_ret
      exact ⟨ret_int (by first | exact (HE.out (by unfold PortOk; omega)).symm | exact (HN.out (by unfold PortOk; omega)).symm | (rename_i hl; simp at hl; first | exact (HE.out (by unfold PortOk; omega)).symm | exact (HN.out (by unfold PortOk; omega)).symm)), (Below.refl _ _).alloc (Nat.le_refl _) _⟩
  · by_cases hk2 : k = 2
    · subst hk2
      go_enter Try.func16, Try.ntmps16
      go_wp2_with (go_at_call 34; refine (within_any _ _ _ _).mono ?_; rintro r w1 ⟨rfl, rfl⟩)
      all_goals
        go_ret
        exact ⟨ret_int (by first | exact (HE.out (by unfold PortOk; omega)).symm | exact (HN.out (by unfold PortOk; omega)).symm | (rename_i hl; simp at hl; first | exact (HE.out (by unfold PortOk; omega)).symm | exact (HN.out (by unfold PortOk; omega)).symm)), (Below.refl _ _).alloc (Nat.le_refl _) _⟩
    · have hn := HN.out (by unfold PortOk; omega)
      have d1 : (k == 1) = false := by simpa using hk1
      have d2 : (k == 2) = false := by simpa using hk2
      subst hn
      go_enter Try.func16, Try.ntmps16
      go_wp2_with (go_at_call 34; refine (within_any _ _ _ _).mono ?_; rintro r w1 ⟨rfl, rfl⟩)
      all_goals
        go_ret
        exact ⟨rfl, (Below.refl _ _).alloc (Nat.le_refl _) _⟩

theorem rwithin_any (n a b : Int) (w : World) :
    Calls Try.prog 35 #[.int .i64 n, .int .i64 a, .int .i64 b] w fun r w' => r = .returned (.bool (decide (a ≤ n ∧ n ≤ b))) ∧ w = w' := by
  by_cases h1 : a ≤ n
  · by_cases h2 : n ≤ b
    · go_enter Try.func35, Try.ntmps35
      go_wp2_with fail
      go_ret
      exact ⟨ret_bool (by simp [h1, h2]), rfl⟩
    · go_enter Try.func35, Try.ntmps35
      go_wp2_with fail
      go_ret
      exact ⟨ret_bool (by simp <;> omega), rfl⟩
  · go_enter Try.func35, Try.ntmps35
    go_wp2_with fail
    go_ret
    exact ⟨ret_bool (by simp <;> omega), rfl⟩

set_option maxRecDepth 100000 in
set_option maxHeartbeats 4000000 in
theorem rcheck_any (k f t s d a : Int) (w : World) :
    Calls Try.prog 17 #[.agg #[.int .i64 k, .int .i64 f, .int .i64 t, .int .i64 s, .int .i64 d, .int .i64 a]] w fun r w' => r = .returned (.int .i64 (checkE k f t s d a)) ∧ Below w.heap.size w w' := by
  have hE : PortOk k f t s d a → checkE k f t s d a = 0 := fun h => if_pos h
  have hN : ¬ PortOk k f t s d a → checkE k f t s d a = 50 := fun h => if_neg h
  obtain ⟨e, he⟩ : ∃ e, checkE k f t s d a = e := ⟨_, rfl⟩
  rw [he] at hE hN ⊢
  have HE := Lib.hid hE
  have HN := Lib.hid hN
  clear hE hN he
  by_cases hk1 : k = 1
  · subst hk1
    go_enter Try.func17, Try.ntmps17
    go_wp2_with (go_at_call 35; refine (rwithin_any _ _ _ _).mono ?_; rintro r w1 ⟨rfl, rfl⟩)
    all_goals
      go_ret
      exact ⟨ret_int (by first | exact (HE.out (by unfold PortOk; omega)).symm | exact (HN.out (by unfold PortOk; omega)).symm | (rename_i hl; simp at hl; first | exact (HE.out (by unfold PortOk; omega)).symm | exact (HN.out (by unfold PortOk; omega)).symm)), (Below.refl _ _).alloc (Nat.le_refl _) _⟩
  · by_cases hk2 : k = 2
    · subst hk2
      go_enter Try.func17, Try.ntmps17
      go_wp2_with (go_at_call 35; refine (rwithin_any _ _ _ _).mono ?_; rintro r w1 ⟨rfl, rfl⟩)
      all_goals
        go_ret
        exact ⟨ret_int (by first | exact (HE.out (by unfold PortOk; omega)).symm | exact (HN.out (by unfold PortOk; omega)).symm | (rename_i hl; simp at hl; first | exact (HE.out (by unfold PortOk; omega)).symm | exact (HN.out (by unfold PortOk; omega)).symm)), (Below.refl _ _).alloc (Nat.le_refl _) _⟩
    · have hn := HN.out (by unfold PortOk; omega)
      have d1 : (k == 1) = false := by simpa using hk1
      have d2 : (k == 2) = false := by simpa using hk2
      subst hn
      go_enter Try.func17, Try.ntmps17
      go_wp2_with (go_at_call 35; refine (rwithin_any _ _ _ _).mono ?_; rintro r w1 ⟨rfl, rfl⟩)
      all_goals
        go_ret
        exact ⟨rfl, (Below.refl _ _).alloc (Nat.le_refl _) _⟩

def newW (k s d a : Int) : WS := ⟨k, s, if k = 1 then a else d, [], 0⟩
theorem newW_ok {k f t s d a : Int} (h : PortOk k f t s d a) : WOk (newW k s d a) := by
  obtain ⟨h1, h2, h3, h4, h5, h6, h7, h8⟩ := h
  refine ⟨⟨h7, h8⟩, fun hk => ?_, fun hk => ?_⟩
  · have hk : k = 1 := hk
    have e : (newW k s d a).lim = a := if_pos hk
    rw [e]
    exact ⟨by omega, by omega, by show 0 ≤ 1; decide⟩
  · have hk : k = 2 := hk
    have e : (newW k s d a).lim = d := if_neg (by omega)
    rw [e]
    exact ⟨by omega, by omega, by show (0 : Int) ≤ d; omega⟩

set_option maxRecDepth 100000 in
set_option maxHeartbeats 4000000 in
theorem new_ok {k f t s d a : Int} (w : World) (h : PortOk k f t s d a) :
    Calls Try.prog 11 #[.agg #[.int .i64 k, .int .i64 f, .int .i64 t, .int .i64 s, .int .i64 d, .int .i64 a]] w fun r w' => (∃ g, r = .returned (.tuple #[.pointer (some ⟨g, 0, none⟩), .int .i64 0]) ∧ w.heap.size ≤ g ∧ WayP w' (fun k => w.heap.size ≤ k ∧ k < w'.heap.size) g (newW k s d a)) ∧ Below w.heap.size w w' := by
  have hE : checkE k f t s d a = 0 := if_pos h
  have HE := Lib.hid hE
  have hk : k = 1 ∨ k = 2 := by have := h.1; omega
  clear hE h
  rcases hk with rfl | rfl
  · go_enter Try.func11, Try.ntmps11
    go_wp2_with (go_at_call 16; refine (check_any _ _ _ _ _ _ _).mono ?_; rintro r w1 ⟨rfl, hy⟩; rw [HE.out]
                 have y1 := (Blk.new w 30 #[.int .i64 1, .int .i64 f, .int .i64 t, .int .i64 s, .int .i64 d, .int .i64 a]).below hy (by simp)
                 have y0 := y1.cell 0
                 have y3 := y1.cell 3
                 have y4 := y1.cell 4
                 have y5 := y1.cell 5
                 simp at y0 y3 y4 y5
                 have HY := Lib.hid hy
                 clear hy y1)
    go_ret2
    have z : w.heap.size + 1 ≤ w1.heap.size := by have := HY.out.size; simpa using this
    have hb1 : Below w.heap.size w w1 := ((Below.refl _ _).alloc (Nat.le_refl _) _).trans (HY.out.mono (by simp))
    refine ⟨⟨w1.heap.size + 1, rfl, by omega, ?_⟩, (hb1.alloc (by omega) _).alloc (by simp; omega) _⟩
    have e : (newW 1 s d a).lim = a := by unfold newW; simp
    refine ⟨_, ⟨by omega, by simp⟩, ?_, Or.inl ⟨rfl, w1.heap.size, emptyS, 0, false, rfl, ⟨by omega, by simp; omega⟩, ?_, (fun h => by cases h), fun _ => rfl⟩⟩
    · have := Blk.new (w1.alloc (.cells #[.string emptyS, .int .i64 0, .int .i64 a, .bool false] 70)) 49 #[.int .i64 s, .iface 68 (.pointer (some ⟨w1.heap.size, 0, none⟩))]
      simpa [emptyS, newW] using this
    · rw [e]
      exact (Blk.new w1 70 #[.string emptyS, .int .i64 0, .int .i64 a, .bool false]).alloc _
  · go_enter Try.func11, Try.ntmps11
    go_wp2_with (go_at_call 16; refine (check_any _ _ _ _ _ _ _).mono ?_; rintro r w1 ⟨rfl, hy⟩; rw [HE.out]
                 have y1 := (Blk.new w 30 #[.int .i64 2, .int .i64 f, .int .i64 t, .int .i64 s, .int .i64 d, .int .i64 a]).below hy (by simp)
                 have y0 := y1.cell 0
                 have y3 := y1.cell 3
                 have y4 := y1.cell 4
                 have y5 := y1.cell 5
                 simp at y0 y3 y4 y5
                 have HY := Lib.hid hy
                 clear hy y1)
    go_ret2
    have z : w.heap.size + 1 ≤ w1.heap.size := by have := HY.out.size; simpa using this
    have hb1 : Below w.heap.size w w1 := ((Below.refl _ _).alloc (Nat.le_refl _) _).trans (HY.out.mono (by simp))
    refine ⟨⟨w1.heap.size + 1, rfl, by omega, ?_⟩, (hb1.alloc (by omega) _).alloc (by simp; omega) _⟩
    have e : (newW 2 s d a).lim = d := by unfold newW; simp
    refine ⟨_, ⟨by omega, by simp⟩, ?_, Or.inr ⟨rfl, w1.heap.size, .slice none 0 0, rfl, ⟨by omega, by simp; omega⟩, ?_, Or.inl ⟨rfl, rfl⟩⟩⟩
    · have := Blk.new (w1.alloc (.cells #[.slice none 0 0, .int .i64 d] 73)) 49 #[.int .i64 s, .iface 71 (.pointer (some ⟨w1.heap.size, 0, none⟩))]
      simpa [newW] using this
    · rw [e]
      exact (Blk.new w1 73 #[.slice none 0 0, .int .i64 d]).alloc _

set_option maxHeartbeats 1000000 in
theorem new_no {k f t s d a : Int} (w : World) (h : ¬ PortOk k f t s d a) :
    Calls Try.prog 11 #[.agg #[.int .i64 k, .int .i64 f, .int .i64 t, .int .i64 s, .int .i64 d, .int .i64 a]] w fun r w' => r = .returned (.tuple #[.pointer none, .int .i64 50]) ∧ Below w.heap.size w w' := by
  have hE : checkE k f t s d a = 50 := if_neg h
  have HE := Lib.hid hE
  clear hE h
  go_enter Try.func11, Try.ntmps11
  go_wp2_with (go_at_call 16; refine (check_any _ _ _ _ _ _ _).mono ?_; rintro r w1 ⟨rfl, hy⟩; rw [HE.out]; have HY := Lib.hid hy; clear hy)
  go_ret2
  exact ⟨rfl, ((Below.refl _ _).alloc (Nat.le_refl _) _).trans (HY.out.mono (by simp))⟩
end Go.Proofs.Ytlaakcgipecldaa
