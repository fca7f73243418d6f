/- Contracts of the document's answer for purses: Change, Turn. -/
import Derived.Test.YtogdpkeojccpcaaPurseRef
namespace Go.Proofs.Ytogdpkeojccpcaa
set_option linter.all false
open Go.RowKit

set_option maxHeartbeats 2000000 in
theorem rchange_any {w : World} {g : Nat} {s : PS} (p b : Int) (h : RfP w g s) :
    Calls Try.prog 38 #[.pointer (some ⟨g, 0, none⟩), .int .i64 p, .int .i64 b] w fun r w' => r = .returned (.int .i64 (changeE s p b)) ∧ RfP w' g (changeS s p b) ∧ Upd (· = g) w w' := by
  have H := Lib.hid h
  obtain ⟨np, nb, hb, hnx⟩ := h
  have c4 := hb.cell 4
  have c5 := hb.cell 5
  have c6 := hb.cell 6
  have c7 := hb.cell 7
  have f4 := hb.frozen 4
  have f5 := hb.frozen 5
  simp at c4 c5 c6 c7
  have HB := Lib.hid (And.intro hb hnx)
  clear hb
  rcases settE_or s with hs | hs
  · have hn := settE_none hs
    obtain ⟨p', b', l, e, n, lv, gn, sh⟩ := s
    unfold changeE changeS
    simp only at c4 c5 c6 c7 hnx HB hn ⊢
    obtain ⟨rfl, rfl, rfl⟩ := hn
    subst hnx
    rw [if_pos hs]
    by_cases hk : OkP p b
    · rw [if_pos hk, if_pos ⟨hs, hk⟩]
      have hd := decide_eq_true hk
      have HK := Lib.hid hk
      clear hs hk
      go_enter Try.func38, Try.ntmps38
      go_wp2_with (go_at_call 59; refine (rmay_any _ _ _).mono ?_; rintro r w1 ⟨rfl, rfl⟩; rw [hd])
      go_ret
      refine ⟨rfl, ⟨p, b, ?_, rfl, rfl, HK.out.1⟩, ((Upd.refl _ _).sg _).sg _⟩
      simpa using (HB.out.1.set_ 4 (.int .i64 p)).set_ 5 (.int .i64 b)
    · rw [if_neg hk, if_neg (fun h => hk h.2)]
      have hd := decide_eq_false hk
      clear hs hk
      go_enter Try.func38, Try.ntmps38
      go_wp2_with (go_at_call 59; refine (rmay_any _ _ _).mono ?_; rintro r w1 ⟨rfl, rfl⟩; rw [hd])
      go_ret
      exact ⟨rfl, H.out, Upd.refl _ _⟩
  · have hs0 : ¬ settE s = 0 := by omega
    have e1 : changeE s p b = 250 := by unfold changeE; rw [if_neg hs0]
    have e2 : changeS s p b = s := by unfold changeS; rw [if_neg (fun h => hs0 h.1)]
    rw [e1, e2]
    clear e1 e2 hs0
    obtain ⟨p', b', l, e, n, lv, gn, sh⟩ := s
    unfold settE at hs
    simp only at c4 c5 c6 c7 hnx HB hs ⊢
    have HS := Lib.hid hs
    clear hs
    cases n with
    | none =>
      subst hnx
      cases gn <;> cases lv
      all_goals first
        | (exfalso; have := HS.out; simp at this; done)
        | (go_enter Try.func38, Try.ntmps38
           go_wp2_with fail
           go_ret
           exact ⟨rfl, H.out, Upd.refl _ _⟩)
    | some q =>
      obtain ⟨_, _, h1⟩ := hnx
      have hd : decide (0 < np) = true := by simp; omega
      cases gn <;> cases lv
      all_goals
        go_enter Try.func38, Try.ntmps38
        go_wp2_with fail
        go_ret
        exact ⟨rfl, H.out, Upd.refl _ _⟩

set_option maxRecDepth 100000 in
set_option maxHeartbeats 4000000 in
theorem rturn_any {w : World} {g : Nat} {s : PS} {E S : Int} (t : Int) (h : RfP w g s) (ho : POk E S s) (hE : E ≤ 4611686018427387904) (hS : S ≤ 4611686018427387904) :
    Calls Try.prog 37 #[.pointer (some ⟨g, 0, none⟩), .int .i64 t] w fun r w' => r = .returned (.tuple #[.bool (turnB s t), .int .i64 (turnE s t)]) ∧ RfP w' g (turnS s t) ∧ Upd (· = g) w w' := by
  have H := Lib.hid h
  obtain ⟨⟨p1, p2, b1, b2⟩, ⟨l1, l2⟩, ⟨e1, e2⟩, ⟨s1, s2⟩, hq⟩ := ho
  have HQ := Lib.hid hq
  obtain ⟨np, nb, hb, hnx⟩ := h
  have c0 := hb.cell 0
  have c1 := hb.cell 1
  have c2 := hb.cell 2
  have c3 := hb.cell 3
  have c4 := hb.cell 4
  have c5 := hb.cell 5
  have c6 := hb.cell 6
  have c7 := hb.cell 7
  have c8 := hb.cell 8
  have f0 := hb.frozen 0
  have f1 := hb.frozen 1
  have f2 := hb.frozen 2
  have f3 := hb.frozen 3
  have f4 := hb.frozen 4
  have f7 := hb.frozen 7
  have f8 := hb.frozen 8
  simp at c0 c1 c2 c3 c4 c5 c6 c7 c8
  have HB := Lib.hid (And.intro hb hnx)
  clear hb hq
  obtain ⟨p, b, l, e, n, lv, gn, sh⟩ := s
  unfold turnB turnE turnS turnB
  simp only at c0 c1 c2 c3 c4 c5 c6 c7 c8 hnx HB HQ p1 p2 b1 b2 l1 l2 e1 e2 s1 s2 ⊢
  cases gn with
  | true =>
    clear hnx
    go_enter Try.func37, Try.ntmps37
    go_wp2_with fail
    go_ret2
    exact ⟨rfl, H.out, Upd.refl _ _⟩
  | false =>
    by_cases h1 : e < t
    · clear hnx
      have d1 : decide (e < t) = true := decide_eq_true h1
      have d2 : decide (e = t) = false := decide_eq_false (by omega)
      rw [d1, d2]
      clear d1 d2
      go_enter Try.func37, Try.ntmps37
      go_wp2_with fail
      go_ret2
      exact ⟨rfl, H.out, Upd.refl _ _⟩
    · by_cases h2 : t < e
      · clear hnx
        have d1 : decide (e < t) = false := decide_eq_false h1
        have d2 : decide (e = t) = false := decide_eq_false (by omega)
        rw [d1, d2]
        clear d1 d2
        go_enter Try.func37, Try.ntmps37
        go_wp2_with fail
        go_ret2
        exact ⟨rfl, H.out, Upd.refl _ _⟩
      · obtain rfl : e = t := by omega
        have d1 : decide (e < e) = false := decide_eq_false h1
        have d2 : decide (e = e) = true := decide_eq_true rfl
        rw [d1, d2]
        clear d1 d2
        have w1 : IntKind.i64.wrap (sh + l) = sh + l := IntWalk.i64_in _ (by omega)
        have w2 : IntKind.i64.wrap (e + p) = e + p := IntWalk.i64_in _ (by omega)
        cases lv with
        | true =>
          clear hnx
          go_enter Try.func37, Try.ntmps37
          go_wp2_with fail
          go_still_tail 12, (by kernel_rfl)
          go_wp2_with fail
          go_ret2
          refine ⟨rfl, ⟨np, nb, ?_, HB.out.2⟩, ?_⟩
          · simpa using (((HB.out.1.set_ 8 (.int .i64 (sh + l))).set_ 2 (.int .i64 0)).set_ 7 (.bool true)).drew
          · exact ((((Upd.refl _ _).sg _).sg _).sg _).drew
        | false =>
          cases n with
          | none =>
            subst hnx
            go_enter Try.func37, Try.ntmps37
            go_wp2_with fail
            go_still_tail 12, (by kernel_rfl)
            go_wp2_with fail
            go_ret2
            refine ⟨rfl, ⟨0, nb, ?_, rfl⟩, ?_⟩
            · simpa using ((((HB.out.1.set_ 8 (.int .i64 (sh + l))).set_ 2 (.int .i64 0)).set_ 2 (.int .i64 b)).set_ 3 (.int .i64 (e + p))).drew
            · exact (((((Upd.refl _ _).sg _).sg _).sg _).sg _).drew
          | some q =>
            obtain ⟨qa, qc⟩ := q
            obtain ⟨qq1, qq2, qq3, qq4⟩ := HQ.out _ rfl
            simp only at qq1 qq2 qq3 qq4 hnx
            obtain ⟨rfl, rfl, h1⟩ := hnx
            have hd : decide (0 < np) = true := by simp; omega
            have w3 : IntKind.i64.wrap (e + np) = e + np := IntWalk.i64_in _ (by omega)
            go_enter Try.func37, Try.ntmps37
            go_wp2_with fail
            go_still_tail 12, (by kernel_rfl)
            go_wp2_with fail
            go_ret2
            refine ⟨rfl, ⟨0, nb, ?_, rfl⟩, ?_⟩
            · simpa using (((((((HB.out.1.set_ 8 (.int .i64 (sh + l))).set_ 2 (.int .i64 0)).set_ 0 (.int .i64 np)).set_ 1 (.int .i64 nb)).set_ 4 (.int .i64 0)).set_ 2 (.int .i64 nb)).set_ 3 (.int .i64 (e + np))).drew
            · exact ((((((((Upd.refl _ _).sg _).sg _).sg _).sg _).sg _).sg _).sg _).drew
end Go.Proofs.Ytogdpkeojccpcaa
