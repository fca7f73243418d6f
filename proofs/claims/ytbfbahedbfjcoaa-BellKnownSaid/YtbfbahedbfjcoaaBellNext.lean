/- BellNext: the walk of the law. -/
import Derived.Test.YtbfbahedbfjcoaaBellWorks
import Derived.Test.YtbfbahedbfjcoaaBring
namespace Go.Proofs.Ytbfbahedbfjcoaa
set_option linter.all false
open Go.RowKit
attribute [local go_sem ↓] Go.wp_at_zero Go.wp_at_succ

def KB (m : Int) (L : BL) : Prop := ∀ p, p ∈ L → 0 ≤ p.2 ∧ p.2 ≤ m
theorem kb_arm {m : Int} {L : BL} (h : KB m L) (kind id at_ : Int) (ha : 0 ≤ at_ ∧ at_ ≤ m) : KB m (armL L kind id at_) := by
  unfold armL
  split
  · intro p hp
    rcases ins_mem.1 hp with rfl | h1
    · exact ha
    · exact h p (List.mem_filter.1 h1).1
  · exact h
theorem due_mem {now : Int} {L : BL} {p : Nat × Int} (h : p ∈ dueL now L) : p.2 ≤ now ∧ p ∈ L := by
  unfold dueL at h
  induction L with
  | nil => cases h
  | cons q t ih =>
    rw [List.takeWhile_cons] at h
    split at h
    · rename_i hq
      rcases List.mem_cons.1 h with rfl | h
      · exact ⟨by simpa using hq, List.mem_cons_self⟩
      · obtain ⟨h1, h2⟩ := ih h
        exact ⟨h1, List.mem_cons_of_mem _ h2⟩
    · cases h
theorem due_rest (now : Int) (L : BL) : dueL now L ++ restL now L = L := List.takeWhile_append_dropWhile
theorem ok_head {p : Nat × Int} {t : BL} (h : OkL (p :: t)) : ∀ q, q ∈ p :: t → p.2 ≤ q.2 := by
  intro q hq
  rcases List.mem_cons.1 hq with rfl | hq
  · exact Int.le_refl _
  · have := (List.pairwise_cons.1 h.so).1 q hq
    unfold ltB at this
    omega
theorem due_before (p : Nat × Int) (t : BL) : dueL (p.2 - 1) (p :: t) = [] ∧ restL (p.2 - 1) (p :: t) = p :: t := by
  unfold dueL restL
  rw [List.takeWhile_cons, List.dropWhile_cons]
  have : decide (p.2 ≤ p.2 - 1) = false := decide_eq_false (by omega)
  rw [this]
  simp
theorem due_at {p : Nat × Int} {t : BL} (h : OkL (p :: t)) : 0 < (dueL p.2 (p :: t)).length ∧ (∀ q, q ∈ dueL p.2 (p :: t) → q.2 = p.2) ∧ (restL p.2 (p :: t)).length ≤ t.length := by
  have h1 : 0 < (dueL p.2 (p :: t)).length := by
    unfold dueL
    rw [List.takeWhile_cons, decide_eq_true (Int.le_refl p.2)]
    simp
  have h2 := congrArg List.length (due_rest p.2 (p :: t))
  rw [List.length_append, List.length_cons] at h2
  refine ⟨h1, fun q hq => ?_, by omega⟩
  obtain ⟨h3, h4⟩ := due_mem hq
  have := ok_head h q h4
  omega
theorem kb_rest {m now : Int} {L : BL} (h : KB m L) : KB m (restL now L) := fun p hp => h p (by rw [← due_rest now L]; exact List.mem_append_right _ hp)
theorem rest_ok {now : Int} {L : BL} (h : OkL L) : OkL (restL now L) := h.drop (due_rest now L)

set_option maxRecDepth 100000 in
set_option maxHeartbeats 8000000 in
theorem bellNext_core (w : World) (A0 : Option Addr) (n0 c0 : Nat) (Z0 : Nat → Nat → Value) (m0 : n0 ≤ maxLen) (r0 : Rd w A0 n0 [.int .i64, .int .i64, .int .i64, .int .i64] Z0) :
    Calls Try.prog 4 #[.slice A0 n0 c0] w (Holds w) := by
  have HR := Lib.hid r0
  obtain ⟨K, hK⟩ : ∃ K, min n0 100 = K := ⟨_, rfl⟩
  have HK := Lib.hid hK
  clear m0 r0 hK
  go_enter Try.func4, Try.ntmps4
  go_wp2_with (go_at_call 8; refine (bnew w w (Below.refl _ _)).mono ?_; rintro r x ⟨⟨gb, rfl, hj, -⟩, -⟩; have HJ := Lib.hid hj; clear hj)
  go_loopw [4] (fun vi wr => ∃ (i : Nat) (L : BL), i ≤ K ∧ vi = .int .i64 (i : Int) ∧ Hid (BJ w wr (fun _ => False) gb L ∧ KB 999 L)) (fun vi _ => K - (intOf vi).toNat)
  case atStart => exact ⟨0, [], by omega, rfl, HJ.out, fun p hp => (by cases hp)⟩
  case round =>
    obtain ⟨i, L, hi, rfl, HI⟩ := hrel
    clear HJ
    by_cases hiK : i < K
    · have hin : i < n0 ∧ i < 100 := by have := HK.out; omega
      have hx0 : (0 : Int) ≤ i := by omega
      have hx1 : (i : Int) < n0 := by omega
      have hx2 : (i : Int) < 100 := by omega
      have w1 : IntKind.i64.wrap ((i : Int) + 1) = (i : Int) + 1 := IntWalk.i64_in _ (by omega)
      obtain ⟨gl, off, rfl, hlt, hcell⟩ := HR.out i hin.1
      obtain ⟨e1, a, ha, haw⟩ := hcell 1 _ rfl
      obtain ⟨e2, b, hb, hbw⟩ := hcell 2 _ rfl
      obtain ⟨e3, c, hc, hcw⟩ := hcell 3 _ rfl
      rw [ha] at e1
      rw [hb] at e2
      rw [hc] at e3
      rw [← HI.out.1.b.cell (p := ⟨gl, _, none⟩) hlt] at e1 e2 e3
      simp [← Nat.add_assoc] at e1 e2 e3
      have HW := Lib.hid (And.intro (wf_bounds haw) (And.intro (wf_bounds hbw) (wf_bounds hcw)))
      have HE := Lib.hid (And.intro e1 (And.intro e2 e3))
      have hb0 := Int.emod_nonneg c (b := 1000) (by decide)
      have hb1 := Int.emod_lt_of_pos c (b := 1000) (by decide)
      have HC : Hid (0 ≤ c % 1000 ∧ c % 1000 ≤ 999) := ⟨hb0, by omega⟩
      have T1 := Lib.hid True.intro
      have T2 := Lib.hid True.intro
      have HID := Lib.hid (HI.out.1.keep (Below.refl wr.heap.size wr).drew)
      have hltr : gl < wr.heap.size := Nat.lt_of_lt_of_le hlt HI.out.1.b.size
      have HLT := Lib.hid hlt
      clear ha haw hb hbw hc hcw hcell hb0 hb1 hlt
      go_wp2_with fail
      go_region_held3 (fun w' => w'.cell? ⟨gl, off + i * 4 + 1, none⟩ = some (.int .i64 a) ∧ w'.cell? ⟨gl, off + i * 4 + 2, none⟩ = some (.int .i64 b) ∧ w'.cell? ⟨gl, off + i * 4 + 3, none⟩ = some (.int .i64 c)) (first | go_keep | (exact E1.out))
        (first
          | (go_at_call 9; refine (bring_any _ _ _ (by first | exact HW.out.1 | exact HW.out.2.1 | exact HW.out.2.2) ⟨by decide, by decide⟩).mono ?_; rintro r x1 ⟨rfl, -, rfl⟩)
          | (go_at_call 10; refine (barm HID.out (fun k h => h.elim) _ _ _).mono ?_; rintro r x2 ⟨rfl, hj, -⟩
             have HJ2 := Lib.hid hj
             have E1 : Hid (x2.cell? ⟨gl, off + i * 4 + 1, none⟩ = some (.int .i64 a) ∧ x2.cell? ⟨gl, off + i * 4 + 2, none⟩ = some (.int .i64 b) ∧ x2.cell? ⟨gl, off + i * 4 + 3, none⟩ = some (.int .i64 c)) := by
               have z := hj.b
               have z0 := HI.out.1.b
               exact ⟨(z.cell (p := ⟨gl, off + i * 4 + 1, none⟩) HLT.out).trans ((z0.cell (p := ⟨gl, off + i * 4 + 1, none⟩) HLT.out).symm.trans HE.out.1), (z.cell (p := ⟨gl, off + i * 4 + 2, none⟩) HLT.out).trans ((z0.cell (p := ⟨gl, off + i * 4 + 2, none⟩) HLT.out).symm.trans HE.out.2.1), (z.cell (p := ⟨gl, off + i * 4 + 3, none⟩) HLT.out).trans ((z0.cell (p := ⟨gl, off + i * 4 + 3, none⟩) HLT.out).symm.trans HE.out.2.2)⟩
             clear hj))
      go_wp2_with fail
      refine ⟨⟨i + 1, _, by omega, by go_num, HJ2.out, kb_arm HI.out.2 _ _ _ HC.out⟩, by simp [intOf]; try omega⟩
    · obtain rfl : i = K := by omega
      have hlen := ok_len HI.out.1.ok
      have hend : ¬ ((i : Int) < n0 ∧ (i : Int) < 100) := by have := HK.out; omega
      have HLEN := Lib.hid hlen
      clear hlen
      by_cases hin : (i : Int) < n0
      · have hi2 : ¬ (i : Int) < 100 := fun h => hend ⟨hin, h⟩
        clear hend
        go_wp2_with fail
        go_loopw [5] (fun vi wr => ∃ (j : Nat) (L : BL), j ≤ 64 ∧ vi = .int .i64 (j : Int) ∧ Hid (BJ w wr (fun _ => False) gb L ∧ KB 999 L ∧ L.length + j ≤ 64)) (fun vi _ => 64 - (intOf vi).toNat)
        case atStart => exact ⟨0, L, by omega, rfl, HI.out.1, HI.out.2, HLEN.out⟩
        case round =>
          obtain ⟨j, L, hj64, rfl, HL⟩ := hrel
          clear HI HLEN
          by_cases hj : j < 64
          · have hx0 : (0 : Int) ≤ j := by omega
            have hx1 : (j : Int) < 64 := by omega
            have wj : IntKind.i64.wrap ((j : Int) + 1) = (j : Int) + 1 := IntWalk.i64_in _ (by omega)
            cases L with
            | nil =>
              go_wp2_with (first
                | (go_at_call 15; refine (bnext_to 0 false HL.out.1 rfl rfl).mono ?_; rintro r x1 ⟨rfl, hj, -⟩; have HJ1 := Lib.hid hj; clear hj)
                | (go_at_call 14; refine (bcount_to 0 HJ1.out rfl).mono ?_; rintro r x2 ⟨rfl, rfl⟩)
                | (go_at_call 12; refine (bdue_to [] [] 0 HJ1.out 1099511627776 rfl rfl rfl).mono ?_; rintro r x3 ⟨⟨A, c, rfl, -⟩, hj, -⟩; have HJ3 := Lib.hid hj; clear hj)
                | (go_at_call 7; refine (bell_works _).mono ?_; rintro r x4 ⟨rfl, hb⟩; have HB4 := Lib.hid (HJ3.out.b.trans (hb.mono HJ3.out.b.size)); clear hb))
              go_ret
              exact ⟨ret_bool (by simp), HB4.out⟩
            | cons p t =>
              obtain ⟨k, hk⟩ : ∃ k, p.2 = k := ⟨_, rfl⟩
              have hkb := HL.out.2.1 p List.mem_cons_self
              rw [hk] at hkb
              have w2 : IntKind.i64.wrap (k - 1) = k - 1 := IntWalk.i64_in _ (by omega)
              obtain ⟨d1, d2, d3⟩ := due_at HL.out.1.ok
              obtain ⟨b1, b2⟩ := due_before p t
              rw [hk] at d1 d2 d3 b1 b2
              obtain ⟨D, hD⟩ : ∃ D, dueL k (p :: t) = D := ⟨_, rfl⟩
              obtain ⟨n, hn⟩ : ∃ n, D.length = n := ⟨_, rfl⟩
              rw [hD] at d1 d2
              rw [hn] at d1
              have hn0 : ((n : Int) == 0) = false := by simp; omega
              obtain ⟨n1, hn1⟩ : ∃ n1 : Nat, n - 1 = n1 := ⟨_, rfl⟩
              have wn : IntKind.i64.wrap ((n : Int) - 1) = (n1 : Int) := by
                have : n ≤ 64 := by
                  have h1 := ok_len HL.out.1.ok
                  have h2 := congrArg List.length (due_rest k (p :: t))
                  rw [hD, List.length_append, hn] at h2
                  omega
                rw [show (n : Int) - 1 = (n1 : Int) from by omega]; exact IntWalk.i64_in _ (by omega)
              have hz0 : (0 : Int) ≤ n1 := by omega
              have hz1 : (n1 : Int) < n := by omega
              have hz2 : (0 : Int) < n := by omega
              have HD := Lib.hid (And.intro hD (And.intro hn (And.intro d2 (And.intro d3 (And.intro b1 (And.intro b2 (And.intro d1 hn1)))))))
              have HKK := Lib.hid hk
              have T1 := Lib.hid True.intro
              clear hk hkb d1 d2 d3 b1 b2 hD hn hn1
              go_wp2_with (first
                | (go_at_call 15; refine (bnext_to k true HL.out.1 HKK.out rfl).mono ?_; rintro r x1 ⟨rfl, hj, -⟩; have HJ1 := Lib.hid hj; clear hj)
                | (go_at_call 12; first
                    | (have _tk := T1; refine (bdue_to [] (p :: t) 0 HJ1.out (k - 1) HD.out.2.2.2.2.1 HD.out.2.2.2.2.2.1 rfl).mono ?_; rintro r x3 ⟨⟨A, c, rfl, -⟩, hj, -⟩; have HJ3 := Lib.hid hj; clear hj T1 _tk)
                    | (refine (bdue_to D (restL k (p :: t)) n HJ3.out k HD.out.1 rfl HD.out.2.1).mono ?_; rintro r x4 ⟨⟨A, c, rfl, ho⟩, hj, -⟩
                       obtain ⟨g, q, rfl, -, -, hq, f0, -, -⟩ := bell_row ho 0 HD.out.2.2.2.2.2.2.1
                       obtain ⟨g', q', hg, -, -, hq', f1, -, -⟩ := bell_row ho n1 (by have := HD.out.2.2.2.2.2.2; omega)
                       cases hg
                       have e0 : q.2 = k := HD.out.2.2.1 q (List.mem_of_getElem? hq)
                       have e1 : q'.2 = k := HD.out.2.2.1 q' (List.mem_of_getElem? hq')
                       rw [e0] at f0
                       rw [e1] at f1
                       simp at f0
                       have HJ4 := Lib.hid hj
                       clear hj ho hq hq' e0 e1)))
              refine ⟨⟨j + 1, restL k (p :: t), by omega, by go_num, HJ4.out, kb_rest HL.out.2.1, ?_⟩, by simp [intOf]; try omega⟩
              have h1 := HD.out.2.2.2.1
              have h2 := HL.out.2.2
              rw [List.length_cons] at h2
              omega
          · obtain rfl : j = 64 := by omega
            have hnil : L = [] := List.eq_nil_of_length_eq_zero (by have := HL.out.2.2; omega)
            subst hnil
            go_wp2_with (first
              | (go_at_call 14; refine (bcount_to 0 HL.out.1 rfl).mono ?_; rintro r x2 ⟨rfl, rfl⟩)
              | (go_at_call 7; refine (bell_works _).mono ?_; rintro r x4 ⟨rfl, hb⟩; have HB4 := Lib.hid (HL.out.1.b.trans (hb.mono HL.out.1.b.size)); clear hb))
            go_ret
            exact ⟨ret_bool (by simp), HB4.out⟩
      · clear hend
        go_wp2_with fail
        go_loopw [5] (fun vi wr => ∃ (j : Nat) (L : BL), j ≤ 64 ∧ vi = .int .i64 (j : Int) ∧ Hid (BJ w wr (fun _ => False) gb L ∧ KB 999 L ∧ L.length + j ≤ 64)) (fun vi _ => 64 - (intOf vi).toNat)
        case atStart => exact ⟨0, L, by omega, rfl, HI.out.1, HI.out.2, HLEN.out⟩
        case round =>
          obtain ⟨j, L, hj64, rfl, HL⟩ := hrel
          clear HI HLEN
          by_cases hj : j < 64
          · have hx0 : (0 : Int) ≤ j := by omega
            have hx1 : (j : Int) < 64 := by omega
            have wj : IntKind.i64.wrap ((j : Int) + 1) = (j : Int) + 1 := IntWalk.i64_in _ (by omega)
            cases L with
            | nil =>
              go_wp2_with (first
                | (go_at_call 15; refine (bnext_to 0 false HL.out.1 rfl rfl).mono ?_; rintro r x1 ⟨rfl, hj, -⟩; have HJ1 := Lib.hid hj; clear hj)
                | (go_at_call 14; refine (bcount_to 0 HJ1.out rfl).mono ?_; rintro r x2 ⟨rfl, rfl⟩)
                | (go_at_call 12; refine (bdue_to [] [] 0 HJ1.out 1099511627776 rfl rfl rfl).mono ?_; rintro r x3 ⟨⟨A, c, rfl, -⟩, hj, -⟩; have HJ3 := Lib.hid hj; clear hj)
                | (go_at_call 7; refine (bell_works _).mono ?_; rintro r x4 ⟨rfl, hb⟩; have HB4 := Lib.hid (HJ3.out.b.trans (hb.mono HJ3.out.b.size)); clear hb))
              go_ret
              exact ⟨ret_bool (by simp), HB4.out⟩
            | cons p t =>
              obtain ⟨k, hk⟩ : ∃ k, p.2 = k := ⟨_, rfl⟩
              have hkb := HL.out.2.1 p List.mem_cons_self
              rw [hk] at hkb
              have w2 : IntKind.i64.wrap (k - 1) = k - 1 := IntWalk.i64_in _ (by omega)
              obtain ⟨d1, d2, d3⟩ := due_at HL.out.1.ok
              obtain ⟨b1, b2⟩ := due_before p t
              rw [hk] at d1 d2 d3 b1 b2
              obtain ⟨D, hD⟩ : ∃ D, dueL k (p :: t) = D := ⟨_, rfl⟩
              obtain ⟨n, hn⟩ : ∃ n, D.length = n := ⟨_, rfl⟩
              rw [hD] at d1 d2
              rw [hn] at d1
              have hn0 : ((n : Int) == 0) = false := by simp; omega
              obtain ⟨n1, hn1⟩ : ∃ n1 : Nat, n - 1 = n1 := ⟨_, rfl⟩
              have wn : IntKind.i64.wrap ((n : Int) - 1) = (n1 : Int) := by
                have : n ≤ 64 := by
                  have h1 := ok_len HL.out.1.ok
                  have h2 := congrArg List.length (due_rest k (p :: t))
                  rw [hD, List.length_append, hn] at h2
                  omega
                rw [show (n : Int) - 1 = (n1 : Int) from by omega]; exact IntWalk.i64_in _ (by omega)
              have hz0 : (0 : Int) ≤ n1 := by omega
              have hz1 : (n1 : Int) < n := by omega
              have hz2 : (0 : Int) < n := by omega
              have HD := Lib.hid (And.intro hD (And.intro hn (And.intro d2 (And.intro d3 (And.intro b1 (And.intro b2 (And.intro d1 hn1)))))))
              have HKK := Lib.hid hk
              have T1 := Lib.hid True.intro
              clear hk hkb d1 d2 d3 b1 b2 hD hn hn1
              go_wp2_with (first
                | (go_at_call 15; refine (bnext_to k true HL.out.1 HKK.out rfl).mono ?_; rintro r x1 ⟨rfl, hj, -⟩; have HJ1 := Lib.hid hj; clear hj)
                | (go_at_call 12; first
                    | (have _tk := T1; refine (bdue_to [] (p :: t) 0 HJ1.out (k - 1) HD.out.2.2.2.2.1 HD.out.2.2.2.2.2.1 rfl).mono ?_; rintro r x3 ⟨⟨A, c, rfl, -⟩, hj, -⟩; have HJ3 := Lib.hid hj; clear hj T1 _tk)
                    | (refine (bdue_to D (restL k (p :: t)) n HJ3.out k HD.out.1 rfl HD.out.2.1).mono ?_; rintro r x4 ⟨⟨A, c, rfl, ho⟩, hj, -⟩
                       obtain ⟨g, q, rfl, -, -, hq, f0, -, -⟩ := bell_row ho 0 HD.out.2.2.2.2.2.2.1
                       obtain ⟨g', q', hg, -, -, hq', f1, -, -⟩ := bell_row ho n1 (by have := HD.out.2.2.2.2.2.2; omega)
                       cases hg
                       have e0 : q.2 = k := HD.out.2.2.1 q (List.mem_of_getElem? hq)
                       have e1 : q'.2 = k := HD.out.2.2.1 q' (List.mem_of_getElem? hq')
                       rw [e0] at f0
                       rw [e1] at f1
                       simp at f0
                       have HJ4 := Lib.hid hj
                       clear hj ho hq hq' e0 e1)))
              refine ⟨⟨j + 1, restL k (p :: t), by omega, by go_num, HJ4.out, kb_rest HL.out.2.1, ?_⟩, by simp [intOf]; try omega⟩
              have h1 := HD.out.2.2.2.1
              have h2 := HL.out.2.2
              rw [List.length_cons] at h2
              omega
          · obtain rfl : j = 64 := by omega
            have hnil : L = [] := List.eq_nil_of_length_eq_zero (by have := HL.out.2.2; omega)
            subst hnil
            go_wp2_with (first
              | (go_at_call 14; refine (bcount_to 0 HL.out.1 rfl).mono ?_; rintro r x2 ⟨rfl, rfl⟩)
              | (go_at_call 7; refine (bell_works _).mono ?_; rintro r x4 ⟨rfl, hb⟩; have HB4 := Lib.hid (HL.out.1.b.trans (hb.mono HL.out.1.b.size)); clear hb))
            go_ret
            exact ⟨ret_bool (by simp), HB4.out⟩
end Go.Proofs.Ytbfbahedbfjcoaa
