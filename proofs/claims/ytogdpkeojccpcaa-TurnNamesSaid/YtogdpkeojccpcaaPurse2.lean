/- Contracts of package purse: what changes it. -/
import Derived.Test.YtogdpkeojccpcaaPurse
namespace Go.Proofs.Ytogdpkeojccpcaa
set_option linter.all false
open Go.RowKit

set_option maxHeartbeats 1000000 in
theorem charge_any {w : World} {g : Nat} {s : PS} (h : PrP w g s) (hp : 1 ≤ s.p) (hl : 0 ≤ s.l ∧ s.l ≤ 64) :
    Calls Try.prog 31 #[.pointer (some ⟨g, 0, none⟩)] w fun r w' => r = .returned (.int .i64 (chargeE s)) ∧ PrP w' g (chargeS s) ∧ Upd (· = g) w w' := by
  have H := Lib.hid h
  have HP := Lib.hid hp
  obtain ⟨np, hb, hnx⟩ := h
  have c2 := hb.cell 2
  have c6 := hb.cell 6
  have f2 := hb.frozen 2
  simp at c2 c6
  have HB := Lib.hid (And.intro hb hnx)
  clear hb hp hnx
  obtain ⟨p, b, l, e, n, lv, gn, sh⟩ := s
  unfold chargeE chargeS
  simp only at c2 c6 hl HB ⊢
  obtain ⟨l1, l2⟩ := hl
  cases gn with
  | true =>
    go_enter Try.func31, Try.ntmps31
    go_wp2_with (go_at_call 57; refine (none_any H.out HP.out).mono ?_; rintro r w1 ⟨rfl, rfl⟩)
    go_ret
    exact ⟨rfl, H.out, Upd.refl _ _⟩
  | false =>
    by_cases h0 : l = 0
    · subst h0
      go_enter Try.func31, Try.ntmps31
      go_wp2_with (go_at_call 57; refine (none_any H.out HP.out).mono ?_; rintro r w1 ⟨rfl, rfl⟩)
      go_ret
      exact ⟨rfl, H.out, Upd.refl _ _⟩
    · have hd : (l == 0) = false := by simpa using h0
      have hd2 : decide (l = 0) = false := by simpa using h0
      rw [if_neg h0, hd2]
      clear hd2
      go_enter Try.func31, Try.ntmps31
      go_wp2_with (go_at_call 57; refine (none_any H.out HP.out).mono ?_; rintro r w1 ⟨rfl, rfl⟩)
      go_ret
      refine ⟨rfl, ⟨np, ?_, HB.out.2.upd (Upd.set1 _ _ _) ?_⟩, Upd.set1 _ _ _⟩
      · simpa using HB.out.1.set_ 2 (.int .i64 (l - 1))
      · intro k a c hk he
        exact hk.ne_ HB.out.1 (by decide) he

set_option maxHeartbeats 1000000 in
theorem leave_any {w : World} {g : Nat} {s : PS} (h : PrP w g s) (hp : 1 ≤ s.p) :
    Calls Try.prog 39 #[.pointer (some ⟨g, 0, none⟩)] w fun r w' => r = .returned (.int .i64 (leaveE s)) ∧ PrP w' g (leaveS s) ∧ Upd (· = g) w w' := by
  have H := Lib.hid h
  have HP := Lib.hid hp
  obtain ⟨np, hb, hnx⟩ := h
  have f5 := hb.frozen 5
  have c5 := hb.cell 5
  simp at c5
  have HB := Lib.hid (And.intro hb hnx)
  clear hb hp hnx
  unfold leaveE leaveS
  by_cases hs : settE s = 0
  · rw [if_pos hs, hs]
    have HS := Lib.hid hs
    clear hs
    go_enter Try.func39, Try.ntmps39
    go_wp2_with (go_at_call 58; refine (settled_any H.out HP.out).mono ?_; rintro r w1 ⟨rfl, rfl⟩; rw [HS.out])
    go_ret
    refine ⟨rfl, ⟨np, ?_, HB.out.2.upd (Upd.set1 _ _ _) ?_⟩, Upd.set1 _ _ _⟩
    · simpa using HB.out.1.set_ 5 (.bool true)
    · intro k a c hk he
      exact hk.ne_ HB.out.1 (by decide) he
  · rw [if_neg hs]
    have h2 : settE s = 250 := by
      unfold settE at hs ⊢
      split at hs
      · rw [if_pos (by assumption)]
      · exact absurd rfl hs
    rw [h2]
    have HS := Lib.hid h2
    clear hs h2
    go_enter Try.func39, Try.ntmps39
    go_wp2_with (go_at_call 58; refine (settled_any H.out HP.out).mono ?_; rintro r w1 ⟨rfl, rfl⟩; rw [HS.out])
    go_ret
    exact ⟨rfl, H.out, Upd.refl _ _⟩

theorem settE_or (s : PS) : settE s = 0 ∨ settE s = 250 := by
  unfold settE
  split
  · right; rfl
  · left; rfl
theorem settE_none {s : PS} (h : settE s = 0) : s.n = none ∧ s.lv = false ∧ s.gn = false := by
  obtain ⟨p, b, l, e, n, lv, gn, sh⟩ := s
  unfold settE at h
  cases n <;> cases lv <;> cases gn <;> simp at h ⊢

set_option maxHeartbeats 2000000 in
theorem change_any {w : World} {g : Nat} {s : PS} (p b : Int) (h : PrP w g s) (hp : 1 ≤ s.p) :
    Calls Try.prog 30 #[.pointer (some ⟨g, 0, none⟩), .int .i64 p, .int .i64 b] w fun r w' => r = .returned (.int .i64 (changeE s p b)) ∧ PrP w' g (changeS s p b) ∧ Upd (fun k => k = g ∨ w.heap.size ≤ k) w w' := by
  have H := Lib.hid h
  have HP := Lib.hid hp
  obtain ⟨np, hb, hnx⟩ := h
  have hlt := hb.lt
  have f4 := hb.frozen 4
  have c4 := hb.cell 4
  simp at c4
  have HB := Lib.hid (And.intro hb hnx)
  clear hb hp hnx
  unfold changeE changeS
  rcases settE_or s with hs | hs
  · have hn := settE_none hs
    rw [if_pos hs]
    by_cases hk : OkP p b
    · rw [if_pos hk, if_pos ⟨hs, hk⟩]
      have HS := Lib.hid hs
      have HN := Lib.hid hn
      have hd := decide_eq_true hk
      clear hs hn hk
      go_enter Try.func30, Try.ntmps30
      go_wp2_with (first
        | (go_at_call 58; refine (settled_any H.out HP.out).mono ?_; rintro r w1 ⟨rfl, rfl⟩; rw [HS.out])
        | (go_at_call 56; refine (may_any _ _ _).mono ?_; rintro r w1 ⟨rfl, hy⟩; rw [hd]
           have y1 := (Blk.new w 63 #[.int .i64 p, .int .i64 b]).below hy (by simp)
           have y2 := (HB.out.1.alloc (.cells #[.int .i64 p, .int .i64 b] 63)).below hy (by simp; omega)
           have y3 := y2.frozen 4
           have y4 := y2.cell 4
           have y5 := y2.lt
           simp at y4
           have HY := Lib.hid (And.intro hy (And.intro y1 y2))
           clear hy y1 y2 f4 c4))
      go_ret
      refine ⟨rfl, ⟨some ⟨w.heap.size, 0, none⟩, ?_, w.heap.size, rfl, ?_⟩, ?_⟩
      · simpa using HY.out.2.2.set_ 4 (.pointer (some ⟨w.heap.size, 0, none⟩))
      · exact HY.out.2.1.far (by simp; omega) _
      · exact ((((Upd.refl _ _).alloc _).transM (Upd.of_below HY.out.1) (fun i hi h => by simp at h; omega))).setCell (by simp) _
    · rw [if_neg hk, if_neg (fun h => hk h.2)]
      have HS := Lib.hid hs
      have hd := decide_eq_false hk
      clear hs hn hk
      go_enter Try.func30, Try.ntmps30
      go_wp2_with (first
        | (go_at_call 58; refine (settled_any H.out HP.out).mono ?_; rintro r w1 ⟨rfl, rfl⟩; rw [HS.out])
        | (go_at_call 56; refine (may_any _ _ _).mono ?_; rintro r w1 ⟨rfl, hy⟩; rw [hd]; have HY := Lib.hid hy; clear hy))
      go_ret
      have hb : Below w.heap.size w w1 := ((Below.refl w.heap.size w).alloc (Nat.le_refl _) (.cells #[.int .i64 p, .int .i64 b] 63)).trans (HY.out.mono (by simp))
      exact ⟨rfl, H.out.below hb, (Upd.of_below hb).mono fun k hk => Or.inr hk⟩
  · have hs0 : ¬ settE s = 0 := by omega
    rw [if_neg hs0, if_neg (fun h => hs0 h.1)]
    have HS := Lib.hid hs
    clear hs hs0
    go_enter Try.func30, Try.ntmps30
    go_wp2_with (go_at_call 58; refine (settled_any H.out HP.out).mono ?_; rintro r w1 ⟨rfl, rfl⟩; rw [HS.out])
    go_ret
    exact ⟨rfl, H.out, Upd.refl _ _⟩

theorem Upd.sg {g i : Nat} {w w1 : World} (h : Upd (· = g) w w1) (u : Value) : Upd (· = g) w (w1.setCell ⟨g, i, none⟩ u) := h.setCell (p := ⟨g, i, none⟩) (fun _ => rfl) u

set_option maxRecDepth 100000 in
set_option maxHeartbeats 4000000 in
theorem turn_any {w : World} {g : Nat} {s : PS} {E S : Int} (t : Int) (h : PrP w g s) (ho : POk E S s) (hE : E ≤ 4611686018427387904) (hS : S ≤ 4611686018427387904) :
    Calls Try.prog 28 #[.pointer (some ⟨g, 0, none⟩), .int .i64 t] w fun r w' => r = .returned (.tuple #[.bool (turnB s t), .int .i64 (turnE s t)]) ∧ PrP w' g (turnS s t) ∧ Upd (· = g) w w' := by
  have H := Lib.hid h
  obtain ⟨⟨p1, p2, b1, b2⟩, ⟨l1, l2⟩, ⟨e1, e2⟩, ⟨s1, s2⟩, hq⟩ := ho
  have HP := Lib.hid p1
  have HQ := Lib.hid hq
  obtain ⟨np, hb, hnx⟩ := h
  have c0 := hb.cell 0
  have c1 := hb.cell 1
  have c2 := hb.cell 2
  have c3 := hb.cell 3
  have c4 := hb.cell 4
  have c5 := hb.cell 5
  have c6 := hb.cell 6
  have c7 := hb.cell 7
  have f0 := hb.frozen 0
  have f1 := hb.frozen 1
  have f2 := hb.frozen 2
  have f3 := hb.frozen 3
  have f4 := hb.frozen 4
  have f6 := hb.frozen 6
  have f7 := hb.frozen 7
  simp at c0 c1 c2 c3 c4 c5 c6 c7
  have HB := Lib.hid (And.intro hb hnx)
  clear hb hq
  obtain ⟨p, b, l, e, n, lv, gn, sh⟩ := s
  unfold turnB turnE turnS turnB
  simp only at c0 c1 c2 c3 c4 c5 c6 c7 hnx HB HQ p1 p2 b1 b2 l1 l2 e1 e2 s1 s2 ⊢
  cases gn with
  | true =>
    clear hnx
    go_enter Try.func28, Try.ntmps28
    go_wp2_with (go_at_call 57; refine (none_any H.out HP.out).mono ?_; rintro r w1 ⟨rfl, rfl⟩)
    go_ret2
    exact ⟨rfl, H.out, Upd.refl _ _⟩
  | false =>
    by_cases h1 : e < t
    · clear hnx
      have d1 : decide (e < t) = true := decide_eq_true h1
      have d2 : decide (e = t) = false := decide_eq_false (by omega)
      rw [d1, d2]
      clear d1 d2
      go_enter Try.func28, Try.ntmps28
      go_wp2_with (go_at_call 57; refine (none_any H.out HP.out).mono ?_; rintro r w1 ⟨rfl, rfl⟩)
      go_ret2
      exact ⟨rfl, H.out, Upd.refl _ _⟩
    · by_cases h2 : t < e
      · clear hnx
        have d1 : decide (e < t) = false := decide_eq_false h1
        have d2 : decide (e = t) = false := decide_eq_false (by omega)
        rw [d1, d2]
        clear d1 d2
        go_enter Try.func28, Try.ntmps28
        go_wp2_with (go_at_call 57; refine (none_any H.out HP.out).mono ?_; rintro r w1 ⟨rfl, rfl⟩)
        go_ret2
        exact ⟨rfl, H.out, Upd.refl _ _⟩
      · obtain rfl : e = t := by omega
        have d1 : decide (e < e) = false := decide_eq_false h1
        have d2 : decide (e = e) = true := decide_eq_true rfl
        rw [d1, d2]
        clear d1 d2
        have w1 : IntKind.i64.wrap (sh + l) = sh + l := IntWalk.i64_in _ (by omega)
        have w2 : IntKind.i64.wrap (e + p) = e + p := IntWalk.i64_in _ (by omega)
        cases lv with
        | true =>
          clear hnx
          go_enter Try.func28, Try.ntmps28
          go_wp2_with (go_at_call 57; refine (none_any H.out HP.out).mono ?_; rintro r w1 ⟨rfl, rfl⟩)
          go_still_tail 11, (by kernel_rfl)
          go_wp2_with fail
          go_ret2
          refine ⟨rfl, ⟨np, ?_, HB.out.2.upd (S := (· = g)) ?_ ?_⟩, ?_⟩
          · simpa using (((HB.out.1.set_ 7 (.int .i64 (sh + l))).set_ 2 (.int .i64 0)).set_ 6 (.bool true)).drew
          · repeat (first | apply Upd.sg | apply Upd.drew | exact Upd.refl _ _)
          · intro k a c hk he
            exact hk.ne_ HB.out.1 (by decide) he
          · repeat (first | apply Upd.sg | apply Upd.drew | exact Upd.refl _ _)
        | false =>
          cases np with
          | none => cases n with
            | some q => exact hnx.elim
            | none =>
              clear hnx
              go_enter Try.func28, Try.ntmps28
              go_wp2_with (go_at_call 57; refine (none_any H.out HP.out).mono ?_; rintro r w1 ⟨rfl, rfl⟩)
              go_still_tail 11, (by kernel_rfl)
              go_wp2_with fail
              go_region
              all_goals
                go_wp2_with fail
                go_ret2
                refine ⟨rfl, ⟨none, ?_, trivial⟩, ?_⟩
                · first
                  | simpa using ((((HB.out.1.set_ 7 (.int .i64 (sh + l))).set_ 2 (.int .i64 0)).set_ 2 (.int .i64 b)).set_ 3 (.int .i64 (e + p))).drew.drew
                  | simpa using ((((HB.out.1.set_ 7 (.int .i64 (sh + l))).set_ 2 (.int .i64 0)).set_ 3 (.int .i64 (e + p))).set_ 2 (.int .i64 b)).drew.drew
                · repeat (first | apply Upd.sg | apply Upd.drew | exact Upd.refl _ _)
          | some a => cases n with
            | none => exact hnx.elim
            | some q =>
              obtain ⟨k, rfl, hkb⟩ := hnx
              obtain ⟨qa, qc⟩ := q
              obtain ⟨qq1, qq2, qq3, qq4⟩ := HQ.out _ rfl
              simp only at qq1 qq2 qq3 qq4
              have k0 := hkb.cell 0
              have k1 := hkb.cell 1
              simp at k0 k1
              have hkg : k ≠ g := hkb.ne_ HB.out.1 (by decide)
              have w3 : IntKind.i64.wrap (e + qa) = e + qa := IntWalk.i64_in _ (by omega)
              have HKB := Lib.hid hkb
              clear hkb
              go_enter Try.func28, Try.ntmps28
              go_wp2_with (go_at_call 57; refine (none_any H.out HP.out).mono ?_; rintro r w1 ⟨rfl, rfl⟩)
              go_still_tail 11, (by kernel_rfl)
              go_wp2_with fail
              go_region
              all_goals
                go_wp2_with fail
                go_ret2
                refine ⟨rfl, ⟨none, ?_, trivial⟩, ?_⟩
                · first
                  | simpa using (((((((HB.out.1.set_ 7 (.int .i64 (sh + l))).set_ 2 (.int .i64 0)).set_ 0 (.int .i64 qa)).set_ 1 (.int .i64 qc)).set_ 4 (.pointer none)).set_ 2 (.int .i64 qc)).set_ 3 (.int .i64 (e + qa))).drew.drew
                  | simpa using (((((((HB.out.1.set_ 7 (.int .i64 (sh + l))).set_ 2 (.int .i64 0)).set_ 0 (.int .i64 qa)).set_ 1 (.int .i64 qc)).set_ 4 (.pointer none)).set_ 3 (.int .i64 (e + qa))).set_ 2 (.int .i64 qc)).drew.drew
                · exact ((((((((Upd.refl _ _).sg _).sg _).sg _).sg _).sg _).sg _).sg _).drew.drew
end Go.Proofs.Ytogdpkeojccpcaa
