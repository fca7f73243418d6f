/- Contracts of the document's answer for purses. -/
import Derived.Test.YtogdpkeojccpcaaPurse2
namespace Go.Proofs.Ytogdpkeojccpcaa
set_option linter.all false
open Go.RowKit

def RfP (w : World) (g : Nat) (s : PS) : Prop :=
  ∃ np nb, Blk w g 58 #[.int .i64 s.p, .int .i64 s.b, .int .i64 s.l, .int .i64 s.e, .int .i64 np, .int .i64 nb, .bool s.lv, .bool s.gn, .int .i64 s.sh] ∧
    (match s.n with | none => np = 0 | some q => np = q.1 ∧ nb = q.2 ∧ 1 ≤ np)

theorem RfP.upd {S : Nat → Prop} {w w' : World} {g : Nat} {s : PS} (h : RfP w g s) (hu : Upd S w w') (hg : ¬ S g) : RfP w' g s := by
  obtain ⟨np, nb, h1, h2⟩ := h
  exact ⟨np, nb, h1.upd hu hg, h2⟩
theorem RfP.below {w w' : World} {g : Nat} {s : PS} (h : RfP w g s) (hb : Below w.heap.size w w') : RfP w' g s := by
  obtain ⟨np, nb, h1, h2⟩ := h
  exact ⟨np, nb, h1.below hb h1.lt, h2⟩
theorem RfP.lt {w : World} {g : Nat} {s : PS} (h : RfP w g s) : g < w.heap.size := by
  obtain ⟨np, nb, h1, h2⟩ := h
  exact h1.lt
/-- One of the two never touches the other. -/
theorem PrP.updR {w w' : World} {g g' : Nat} {s s' : PS} (h : PrP w g s) (h' : RfP w g' s') (hu : Upd (· = g') w w') : PrP w' g s := by
  obtain ⟨np, nb, h1, h2⟩ := h'
  obtain ⟨np', hb, hx⟩ := h
  refine ⟨np', hb.upd hu (fun e => ?_), hx.upd hu fun k a b hk e => ?_⟩
  · exact (hb.ne_ h1 (by decide)) e
  · exact (hk.ne_ h1 (by decide)) e
theorem RfP.updP {w w' : World} {g g' : Nat} {s s' : PS} (h : RfP w g s) (h' : PrP w g' s') (hu : Upd (fun k => k = g' ∨ w.heap.size ≤ k) w w') : RfP w' g s := by
  obtain ⟨np, nb, h1, h2⟩ := h
  obtain ⟨np', hb, hx⟩ := h'
  refine ⟨np, nb, h1.upd hu (fun e => ?_), h2⟩
  rcases e with e | e
  · exact (h1.ne_ hb (by decide)) e
  · have := h1.lt; omega

theorem rmay_any (p b : Int) (w : World) :
    Calls Try.prog 59 #[.int .i64 p, .int .i64 b] w fun r w' => r = .returned (.bool (decide (OkP p b))) ∧ w = w' := by
  by_cases hk : OkP p b
  · rw [decide_eq_true hk]
    obtain ⟨h1, h2, h3, h4⟩ := hk
    go_enter Try.func59, Try.ntmps59
    go_wp2_with fail
    go_ret
    exact ⟨ret_bool (by simp <;> omega), rfl⟩
  · rw [decide_eq_false hk]
    have HK := Lib.hid hk
    clear hk
    go_enter Try.func59, Try.ntmps59
    go_wp2_with fail
    all_goals go_ret
    all_goals
      refine ⟨ret_bool ?_, rfl⟩
      have := HK.out
      unfold OkP at this
      simp
      try omega

set_option maxHeartbeats 1000000 in
theorem rnew_any (p b t : Int) (w : World) (hp : I64 p) (ht : I64 t) :
    Calls Try.prog 35 #[.int .i64 p, .int .i64 b, .int .i64 t] w fun r w' => ∃ a, r = .returned (.tuple #[.pointer a, .int .i64 (newE p b t)]) ∧ Below w.heap.size w w' ∧ (newE p b t ≠ 0 → a = none) ∧ (newE p b t = 0 → ∃ g, w.heap.size ≤ g ∧ a = some ⟨g, 0, none⟩ ∧ RfP w' g (newS p b t)) := by
  obtain ⟨p1, p2⟩ := hp
  obtain ⟨t1, t2⟩ := ht
  by_cases hk : OkP p b
  · have hd : decide (OkP p b) = true := decide_eq_true hk
    have hkk := hk
    obtain ⟨k1, k2, k3, k4⟩ := hk
    by_cases h0 : 0 ≤ t
    · by_cases hm : t ≤ 1099511627776
      · have he : newE p b t = 0 := by unfold newE; rw [if_pos ⟨hkk, h0⟩, if_pos hm]
        rw [he]
        clear he hkk
        go_enter Try.func35, Try.ntmps35
        go_wp2_with (go_at_call 59; refine (rmay_any _ _ _).mono ?_; rintro r w1 ⟨rfl, rfl⟩; rw [hd])
        go_ret2
        refine ⟨some ⟨w.heap.size, 0, none⟩, rfl, (Below.refl _ _).alloc (Nat.le_refl _) _, fun h => absurd rfl h, fun _ => ⟨_, Nat.le_refl _, rfl, 0, 0, ?_, rfl⟩⟩
        exact Blk.new _ _ _
      · have he : newE p b t = 10 := by unfold newE; rw [if_pos ⟨hkk, h0⟩, if_neg hm]
        rw [he]
        clear he hkk
        go_enter Try.func35, Try.ntmps35
        go_wp2_with (go_at_call 59; refine (rmay_any _ _ _).mono ?_; rintro r w1 ⟨rfl, rfl⟩; rw [hd])
        go_ret2
        exact ⟨none, rfl, Below.refl _ _, fun _ => rfl, fun h => absurd h (by decide)⟩
    · have he : newE p b t = 2 := by unfold newE; rw [if_neg (fun h => h0 h.2)]
      rw [he]
      clear he hkk
      go_enter Try.func35, Try.ntmps35
      go_wp2_with (go_at_call 59; refine (rmay_any _ _ _).mono ?_; rintro r w1 ⟨rfl, rfl⟩; rw [hd])
      go_ret2
      exact ⟨none, rfl, Below.refl _ _, fun _ => rfl, fun h => absurd h (by decide)⟩
  · have hd : decide (OkP p b) = false := decide_eq_false hk
    have he : newE p b t = 2 := by unfold newE; rw [if_neg (fun h => hk h.1)]
    rw [he]
    clear he hk
    go_enter Try.func35, Try.ntmps35
    go_wp2_with (go_at_call 59; refine (rmay_any _ _ _).mono ?_; rintro r w1 ⟨rfl, rfl⟩; rw [hd])
    go_ret2
    exact ⟨none, rfl, Below.refl _ _, fun _ => rfl, fun h => absurd h (by decide)⟩

set_option maxHeartbeats 1000000 in
theorem rcharge_any {w : World} {g : Nat} {s : PS} (h : RfP w g s) (hl : 0 ≤ s.l ∧ s.l ≤ 64) :
    Calls Try.prog 36 #[.pointer (some ⟨g, 0, none⟩)] w fun r w' => r = .returned (.int .i64 (chargeE s)) ∧ RfP w' g (chargeS s) ∧ Upd (· = g) w w' := by
  have H := Lib.hid h
  obtain ⟨np, nb, hb, hnx⟩ := h
  have c2 := hb.cell 2
  have c7 := hb.cell 7
  have f2 := hb.frozen 2
  simp at c2 c7
  have HB := Lib.hid (And.intro hb hnx)
  clear hb hnx
  obtain ⟨p, b, l, e, n, lv, gn, sh⟩ := s
  unfold chargeE chargeS
  simp only at c2 c7 hl HB ⊢
  obtain ⟨l1, l2⟩ := hl
  cases gn with
  | true =>
    go_enter Try.func36, Try.ntmps36
    go_wp2_with fail
    go_ret
    exact ⟨rfl, H.out, Upd.refl _ _⟩
  | false =>
    by_cases h0 : l = 0
    · subst h0
      go_enter Try.func36, Try.ntmps36
      go_wp2_with fail
      go_ret
      exact ⟨rfl, H.out, Upd.refl _ _⟩
    · have hd : (l == 0) = false := by simpa using h0
      have hd2 : decide (l = 0) = false := by simpa using h0
      rw [if_neg h0, hd2]
      clear hd2
      go_enter Try.func36, Try.ntmps36
      go_wp2_with fail
      go_ret
      refine ⟨rfl, ⟨np, nb, ?_, HB.out.2⟩, Upd.set1 _ _ _⟩
      simpa using HB.out.1.set_ 2 (.int .i64 (l - 1))

set_option maxHeartbeats 1000000 in
theorem rwaits_any {w : World} {g : Nat} {s : PS} (h : RfP w g s) :
    Calls Try.prog 60 #[.pointer (some ⟨g, 0, none⟩)] w fun r w' => r = .returned (.bool (waitsB s)) ∧ w = w' := by
  obtain ⟨np, nb, hb, hnx⟩ := h
  have c4 := hb.cell 4
  have c6 := hb.cell 6
  have c7 := hb.cell 7
  simp at c4 c6 c7
  clear hb
  obtain ⟨p, b, l, e, n, lv, gn, sh⟩ := s
  unfold waitsB
  simp only at c4 c6 c7 hnx ⊢
  cases n with
  | none =>
    subst hnx
    cases gn <;> cases lv
    all_goals
      go_enter Try.func60, Try.ntmps60
      go_wp2_with fail
      go_ret
      exact ⟨rfl, rfl⟩
  | some q =>
    obtain ⟨_, _, h1⟩ := hnx
    have hd : decide (0 < np) = true := by simp; omega
    cases gn <;> cases lv
    all_goals
      go_enter Try.func60, Try.ntmps60
      go_wp2_with fail
      go_ret
      exact ⟨ret_bool (by simp <;> omega), rfl⟩

set_option maxHeartbeats 1000000 in
theorem rleave_any {w : World} {g : Nat} {s : PS} (h : RfP w g s) :
    Calls Try.prog 40 #[.pointer (some ⟨g, 0, none⟩)] w fun r w' => r = .returned (.int .i64 (leaveE s)) ∧ RfP w' g (leaveS s) ∧ Upd (· = g) w w' := by
  have H := Lib.hid h
  obtain ⟨np, nb, hb, hnx⟩ := h
  have c4 := hb.cell 4
  have c6 := hb.cell 6
  have c7 := hb.cell 7
  have f6 := hb.frozen 6
  simp at c4 c6 c7
  have HB := Lib.hid (And.intro hb hnx)
  clear hb
  obtain ⟨p, b, l, e, n, lv, gn, sh⟩ := s
  unfold leaveE leaveS settE
  simp only at c4 c6 c7 hnx HB ⊢
  cases n with
  | none =>
    subst hnx
    cases gn <;> cases lv
    all_goals
      go_enter Try.func40, Try.ntmps40
      go_wp2_with fail
      go_ret
      first
        | exact ⟨rfl, H.out, Upd.refl _ _⟩
        | (refine ⟨rfl, ⟨0, nb, ?_, rfl⟩, Upd.set1 _ _ _⟩; simpa using HB.out.1.set_ 6 (.bool true))
  | some q =>
    obtain ⟨_, _, h1⟩ := hnx
    have hd : decide (0 < np) = true := by simp; omega
    cases gn <;> cases lv
    all_goals
      go_enter Try.func40, Try.ntmps40
      go_wp2_with fail
      go_ret
      exact ⟨rfl, H.out, Upd.refl _ _⟩
end Go.Proofs.Ytogdpkeojccpcaa
