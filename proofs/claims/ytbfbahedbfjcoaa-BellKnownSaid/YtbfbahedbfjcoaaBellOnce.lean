/- BellOnce: the walk of the law. -/
import Derived.Test.YtbfbahedbfjcoaaBellOnceL
namespace Go.Proofs.Ytbfbahedbfjcoaa
set_option linter.all false
open Go.RowKit
attribute [local go_sem ↓] Go.wp_at_zero Go.wp_at_succ

/-- The bells, and the row of what is armed. -/
structure OnJ (w wr : World) (gb ga : Nat) (L : BL) (f : Nat → Int) : Prop where
  j : BJ w wr (fun k => k = ga) gb L
  a : Blk wr ga 26 (arA f)
  kb : KB 5000 L
  hga : w.heap.size ≤ ga
theorem OnJ.keep {w wr w' : World} {gb ga : Nat} {L : BL} {f : Nat → Int} (h : OnJ w wr gb ga L f) (hb : Below wr.heap.size wr w') : OnJ w w' gb ga L f := ⟨h.j.keep hb, h.a.below hb h.a.lt, h.kb, h.hga⟩
theorem OnJ.set {w wr : World} {gb ga : Nat} {L : BL} {f f' : Nat → Int} (h : OnJ w wr gb ga L f) (i : Nat) (v : Int) (hf : ∀ j, f' j = if j = i then v else f j) : OnJ w (wr.setCell ⟨ga, i, none⟩ (.int .i64 v)) gb ga L f' :=
  ⟨h.j.upd (Upd.set1 ga i _) (fun k hk => ⟨hk, by rw [hk]; exact h.hga⟩), by rw [← arA_set f f' i v hf]; exact h.a.set_ i _, h.kb, h.hga⟩
theorem OnJ.cell {w wr : World} {gb ga : Nat} {L : BL} {f : Nat → Int} (h : OnJ w wr gb ga L f) {i : Nat} (hi : i < 64) : wr.cell? ⟨ga, i, none⟩ = some (.int .i64 (f i)) := by rw [h.a.cell]; exact arA_at f i hi
theorem OnJ.step {w wr w' : World} {gb ga : Nat} {L L' : BL} {f : Nat → Int} (h : OnJ w wr gb ga L f) (hj : BJ w w' (fun k => k = ga) gb L') (hk : Kp wr w' (fun k => k = ga)) (hb : KB 5000 L') : OnJ w w' gb ga L' f := ⟨hj, hk.blk h.a rfl, hb, h.hga⟩
theorem OnJ.x {w wr : World} {gb ga : Nat} {L : BL} {f : Nat → Int} (h : OnJ w wr gb ga L f) : ∀ k, k = ga → k < wr.heap.size := fun k hk => by rw [hk]; exact h.a.lt
theorem zero64 : arA (fun _ => 0) = (List.replicate 64 (Value.int .i64 0)).toArray := by kernel_rfl
set_option maxHeartbeats 2000000 in
theorem bahead_true (a1 k1 i1 a2 k2 i2 : Int) (w : World) (h : a1 < a2 ∨ (a1 = a2 ∧ (k1 < k2 ∨ (k1 = k2 ∧ i1 < i2)))) :
    Calls Try.prog 13 #[.agg #[.int .i64 a1, .int .i64 k1, .int .i64 i1], .agg #[.int .i64 a2, .int .i64 k2, .int .i64 i2]] w fun r w' => r = .returned (.bool true) ∧ Below w.heap.size w w' := by
  by_cases h1 : a1 = a2
  · subst h1
    have h2 : k1 < k2 ∨ (k1 = k2 ∧ i1 < i2) := by omega
    by_cases h3 : k1 < k2
    · clear h h2
      go_enter Try.func13, Try.ntmps13
      go_wp2_with fail
      all_goals go_ret
      all_goals exact ⟨rfl, ((Below.refl _ _).alloc (Nat.le_refl _) _).alloc (by simp) _⟩
    · have h4 : k1 = k2 ∧ i1 < i2 := by omega
      obtain ⟨rfl, h5⟩ := h4
      clear h h2 h3
      go_enter Try.func13, Try.ntmps13
      go_wp2_with fail
      all_goals go_ret
      all_goals exact ⟨rfl, ((Below.refl _ _).alloc (Nat.le_refl _) _).alloc (by simp) _⟩
  · have h2 : a1 < a2 := by omega
    have h3 : (a1 == a2) = false := by simp [h1]
    clear h
    go_enter Try.func13, Try.ntmps13
    go_wp2_with fail
    all_goals go_ret
    all_goals exact ⟨rfl, ((Below.refl _ _).alloc (Nat.le_refl _) _).alloc (by simp) _⟩

theorem cntB_le (f : Nat → Int) (n : Nat) : cntB f n ≤ n := by
  induction n with
  | zero => exact Nat.le_refl _
  | succ n ih => rw [cntB]; split <;> omega

set_option maxRecDepth 100000 in
set_option maxHeartbeats 16000000 in
theorem bellOnce_core (w : World) (A0 : Option Addr) (n0 c0 : Nat) (Z0 : Nat → Nat → Value) (m0 : n0 ≤ maxLen) (r0 : Rd w A0 n0 [.int .i64, .int .i64, .int .i64, .int .i64] Z0) :
    Calls Try.prog 3 #[.slice A0 n0 c0] w (Holds w) := by
  have HR := Lib.hid r0
  obtain ⟨K, hK⟩ : ∃ K, min n0 200 = K := ⟨_, rfl⟩
  have HK := Lib.hid hK
  clear m0 r0 hK
  go_enter Try.func3, Try.ntmps3
  go_wp2_with (first
    | (go_at_call 7; refine (bell_works _).mono ?_; rintro r x0 ⟨rfl, hb⟩; have HB0 := Lib.hid hb; clear hb)
    | (go_at_call 8; refine (bnew w x0 HB0.out).mono ?_; rintro r x ⟨⟨gb, rfl, -, hj⟩, hb⟩; have HJ := Lib.hid (And.intro hj (Nat.le_trans HB0.out.size hb.size)); clear hj hb))
  obtain ⟨ga, hga⟩ : ∃ g, x.heap.size = g := ⟨_, rfl⟩
  have HO : Hid (OnJ w (x.alloc (.cells (List.replicate 64 (Value.int .i64 0)).toArray 26)) gb ga [] (arF [])) := by
    refine ⟨(HJ.out.1 _ (fun k hk => by rw [hk, hga]; exact Nat.le_refl _)).keep ((Below.refl _ _).alloc (Nat.le_refl _) _), ?_, fun p hp => (by cases hp), by rw [← hga]; exact HJ.out.2⟩
    rw [← hga, arF_nil, zero64]
    exact Blk.new _ _ _
  rw [hga]
  clear hga HJ
  go_loopw [5, 6] (fun vn vi wr => ∃ (i : Nat) (now : Int) (L : BL), i ≤ K ∧ vn = .int .i64 now ∧ vi = .int .i64 (i : Int) ∧ Hid (OnJ w wr gb ga L (arF L) ∧ 0 ≤ now ∧ now ≤ 12 * i ∧ i ≤ 200)) (fun _ vi _ => K - (intOf vi).toNat)
  case atStart => exact ⟨0, 0, [], by omega, rfl, rfl, HO.out, by omega, by omega, by omega⟩
  case round =>
    obtain ⟨i, now, L, hi, rfl, rfl, HI⟩ := hrel
    clear HO
    by_cases hiK : i < K
    · have hin : i < n0 ∧ i < 200 := by have := HK.out; omega
      have hx0 : (0 : Int) ≤ i := by omega
      have hx1 : (i : Int) < n0 := by omega
      have hx2 : (i : Int) < 200 := by omega
      have w1 : IntKind.i64.wrap ((i : Int) + 1) = (i : Int) + 1 := IntWalk.i64_in _ (by omega)
      obtain ⟨gl, off, rfl, hlt, hcell⟩ := HR.out i hin.1
      obtain ⟨e0, wv, hw, hww⟩ := hcell 0 _ rfl
      obtain ⟨e1, kv, hk, hkw⟩ := hcell 1 _ rfl
      obtain ⟨e2, iv, hv, hvw⟩ := hcell 2 _ rfl
      obtain ⟨e3, av, ha, haw⟩ := hcell 3 _ rfl
      rw [hw] at e0
      rw [hk] at e1
      rw [hv] at e2
      rw [ha] at e3
      rw [← HI.out.1.j.b.cell (p := ⟨gl, _, none⟩) hlt] at e0 e1 e2 e3
      simp [← Nat.add_assoc] at e0 e1 e2 e3
      obtain ⟨kd, hkd⟩ : ∃ z, kv % 4 = z := ⟨_, rfl⟩
      obtain ⟨idd, hidd⟩ : ∃ z, iv % 16 = z := ⟨_, rfl⟩
      have k0 := Int.emod_nonneg kv (b := 4) (by decide)
      have k1 := Int.emod_lt_of_pos kv (b := 4) (by decide)
      have i0 := Int.emod_nonneg iv (b := 16) (by decide)
      have i1 := Int.emod_lt_of_pos iv (b := 16) (by decide)
      have HM : Hid (MayB kd idd) := ⟨⟨by omega, by omega⟩, by omega, by omega⟩
      obtain ⟨p, hp⟩ : ∃ p, plB kd idd = p := ⟨_, rfl⟩
      have hp64 : p < 64 := by rw [← hp]; exact plB_lt HM.out
      obtain ⟨t1, ht1⟩ : ∃ z, 16 * kd = z := ⟨_, rfl⟩
      have wt : IntKind.i64.wrap (16 * kd) = t1 := by rw [ht1]; exact IntWalk.i64_in _ (by omega)
      have wp : IntKind.i64.wrap (t1 + idd) = (p : Int) := by
        have : t1 + idd = (p : Int) := by rw [← hp]; unfold plB; omega
        rw [this]; exact IntWalk.i64_in _ (by omega)
      have HW := Lib.hid (And.intro (wf_bounds hww) (And.intro (wf_bounds hkw) (And.intro (wf_bounds hvw) (wf_bounds haw))))
      have HP := Lib.hid hp
      obtain ⟨wd, hwd⟩ : ∃ z, wv % 3 = z := ⟨_, rfl⟩
      have w0 := Int.emod_nonneg wv (b := 3) (by decide)
      have w2 := Int.emod_lt_of_pos wv (b := 3) (by decide)
      have hwd3 : wd = 0 ∨ wd = 1 ∨ wd = 2 := by omega
      have HKV := Lib.hid (And.intro hkd (And.intro hidd hwd))
      clear hw hww hk hkw hv hvw ha haw hcell k0 k1 i0 i1 ht1 hp w0 w2 hlt hkd hidd hwd
      go_wp2_with fail
      go_quiet (first | (go_at_call 9; exact bring_q _ _ (by first | exact HW.out.2.1 | exact HW.out.2.2.1) (by omega)))
      have HN := Lib.hid (HI.out.1.keep (belowN ((Below.refl wr.heap.size wr).alloc (Nat.le_refl _) (.cells #[.int .i64 wv, .int .i64 kv, .int .i64 iv, .int .i64 av] 28)) nq))
      have HD := Lib.hid ((Blk.new wr 28 #[.int .i64 wv, .int .i64 kv, .int .i64 iv, .int .i64 av]).drewN nq)
      rw [HKV.out.1, HKV.out.2.1]
      generalize (wr.alloc (.cells #[.int .i64 wv, .int .i64 kv, .int .i64 iv, .int .i64 av] 28)).drewN nq = y at HN HD ⊢
      clear e0 e1 e2 e3
      have b0 := HD.out.cell 0
      have b3 := HD.out.cell 3
      simp at b0 b3
      have hI := HI.out.2
      have T1 := Lib.hid True.intro
      rcases hwd3 with rfl | rfl | rfl
      · obtain ⟨ad, had⟩ : ∃ z, av % 30 = z := ⟨_, rfl⟩
        have a0 := Int.emod_nonneg av (b := 30) (by decide)
        have a1 := Int.emod_lt_of_pos av (b := 30) (by decide)
        obtain ⟨at_, hat_⟩ : ∃ z, now + ad = z := ⟨_, rfl⟩
        have wa : IntKind.i64.wrap (now + ad) = at_ := by rw [hat_]; exact IntWalk.i64_in _ (by omega)
        have wb : IntKind.i64.wrap (at_ + 1) = at_ + 1 := IntWalk.i64_in _ (by omega)
        have HA : Hid (av % 30 = ad ∧ TkB at_ ∧ 0 ≤ at_ ∧ at_ ≤ 5000) := ⟨had, ⟨by omega, by omega⟩, by omega, by omega⟩
        have hpz : (0 : Int) ≤ p := by omega
        have hpl : (p : Int) < 64 := by omega
        have hE : armE kd idd at_ = 0 := by unfold armE; rw [if_pos HM.out, if_pos HA.out.2.1]
        have HEE := Lib.hid hE
        have HII := Lib.hid hI
        clear had a0 a1 hat_ hE hI
        go_wp2_with (first
          | (go_at_call 9; first
              | (have _tk := T1; refine (bring_any wv 3 _ HW.out.1 ⟨by decide, by decide⟩).mono ?_; rintro r z1 ⟨rfl, -, rfl⟩; rw [HKV.out.2.2]; clear T1 _tk)
              | (refine (bring_any av 30 _ HW.out.2.2.2 ⟨by decide, by decide⟩).mono ?_; rintro r z1 ⟨rfl, -, rfl⟩; rw [HA.out.1]))
          | (go_at_call 10; refine (barm HN.out.j HN.out.x kd idd at_).mono ?_; rintro r z2 ⟨rfl, hj, hk⟩; rw [HEE.out]
             have hn2 := HN.out.step hj hk (kb_arm HN.out.kb kd idd at_ HA.out.2.2)
             have cg := hn2.cell hp64
             have fg := hn2.a.frozen p
             have HN2 := Lib.hid hn2
             clear hj hk hn2 b0 b3))
        refine ⟨⟨i + 1, now, armL L kd idd at_, by omega, rfl, by go_num, HN2.out.set p (at_ + 1) (fun j => ?_), HII.out.1, by have := HII.out.2.1; omega, by omega⟩, by simp [intOf]; try omega⟩
        rw [arF_arm kd idd at_ HM.out HA.out.2.1, HP.out]
      · obtain ⟨z0, hz0⟩ : ∃ z, arF L p = z := ⟨_, rfl⟩
        obtain ⟨cb, hcb⟩ : ∃ c, decide (z0 > 0) = c := ⟨_, rfl⟩
        have hce : canE L kd idd = cb := by rw [canE_ar (by decide) HN.out.kb kd idd HM.out, HP.out, hz0]; exact hcb
        have hcc : (cb != cb) = false := by simp
        have cg := HN.out.cell hp64
        rw [hz0] at cg
        have HZ := Lib.hid (And.intro hz0 hce)
        have HII := Lib.hid hI
        have hpz : (0 : Int) ≤ p := by omega
        have hpl : (p : Int) < 64 := by omega
        clear hz0 hce hI
        go_wp2_with (go_at_call 9; refine (bring_any wv 3 _ HW.out.1 ⟨by decide, by decide⟩).mono ?_; rintro r z1 ⟨rfl, -, rfl⟩; rw [HKV.out.2.2])
        go_region_held3 (fun w' => w'.cell? ⟨ga, p, none⟩ = some (.int .i64 z0)) (first | go_keep | (exact E1.out))
          (first | (go_at_call 11; refine (bcancel (HN.out.keep (Below.refl y.heap.size y).drew).j kd idd HM.out).mono ?_; rintro r z2 ⟨rfl, hj, hk⟩; rw [HZ.out.2]
                    have hn2 := (HN.out.keep (Below.refl y.heap.size y).drew).step hj hk (fun q hq => by
                      have hq' : q ∈ canL L kd idd := hq
                      unfold canL at hq'
                      rw [if_pos HM.out] at hq'
                      exact HN.out.kb q (List.mem_filter.1 hq').1)
                    have E1 : Hid (z2.cell? ⟨ga, p, none⟩ = some (.int .i64 z0)) := by rw [← HZ.out.1]; exact hn2.cell hp64
                    have HN2 := Lib.hid hn2
                    clear hj hk hn2))
        clear b0 b3 cg
        have cg := HN2.out.cell hp64
        have fg := HN2.out.a.frozen p
        go_wp2_with fail
        refine ⟨⟨i + 1, now, canL L kd idd, by omega, rfl, by go_num, HN2.out.set p 0 (fun j => ?_), HII.out.1, by have := HII.out.2.1; omega, by omega⟩, by simp [intOf]; try omega⟩
        rw [arF_can kd idd HM.out, HP.out]
      · obtain ⟨ad, had⟩ : ∃ z, av % 12 = z := ⟨_, rfl⟩
        have a0 := Int.emod_nonneg av (b := 12) (by decide)
        have a1 := Int.emod_lt_of_pos av (b := 12) (by decide)
        obtain ⟨n2, hn2⟩ : ∃ z, now + ad = z := ⟨_, rfl⟩
        have wa : IntKind.i64.wrap (now + ad) = n2 := by rw [hn2]; exact IntWalk.i64_in _ (by omega)
        have HII : Hid (av % 12 = ad ∧ 0 ≤ n2 ∧ n2 ≤ 12 * (i + 1 : Nat)) := ⟨had, by omega, by omega⟩
        obtain ⟨D, hD⟩ : ∃ D, dueL n2 L = D := ⟨_, rfl⟩
        obtain ⟨R, hR⟩ : ∃ R, restL n2 L = R := ⟨_, rfl⟩
        obtain ⟨n, hn⟩ : ∃ n, D.length = n := ⟨_, rfl⟩
        have hDR : D ++ R = L := by rw [← hD, ← hR]; exact due_rest n2 L
        have hnb : n ≤ 64 := by
          have h1 := ok_len HN.out.j.ok
          rw [← hDR, List.length_append, hn] at h1
          omega
        have HDR := Lib.hid (And.intro hD (And.intro hR (And.intro hn hDR)))
        have hga : ga < y.heap.size := HN.out.a.lt
        have HLATE : Hid (∀ q, q ∈ R → n2 < q.2) := by rw [← hR]; exact rest_late HN.out.j.ok
        have HKR : Hid (KB 5000 R) := by rw [← hR]; exact kb_rest HN.out.kb
        have HDM : Hid (∀ q, q ∈ D → q.2 ≤ n2) := fun q hq => by rw [← hD] at hq; exact (due_mem hq).1
        have T2 := Lib.hid True.intro
        clear had a0 a1 hn2 hD hR hn hDR hI
        go_wp2_with (first
          | (go_at_call 9; first
              | (have _tk := T1; refine (bring_any wv 3 _ HW.out.1 ⟨by decide, by decide⟩).mono ?_; rintro r z1 ⟨rfl, -, rfl⟩; rw [HKV.out.2.2]; clear T1 _tk)
              | (refine (bring_any av 12 _ HW.out.2.2.2 ⟨by decide, by decide⟩).mono ?_; rintro r z1 ⟨rfl, -, rfl⟩; rw [HII.out.1]))
          | (go_at_call 12; refine (bdue_to D R n HN.out.j n2 HDR.out.1 HDR.out.2.1 HDR.out.2.2.1).mono ?_; rintro r z2 ⟨⟨A, c, rfl, ho⟩, hj, hk⟩
             have HO2 : Hid (OnJ w z2 gb ga R (arF (D.drop 0 ++ R)) ∧ z2.ownsRow y.heap.size 36 3 (.slice A n c) n (bellC D)) := by
               refine ⟨HN.out.step hj hk HKR.out |> fun h => ?_, ho⟩
               rw [List.drop_zero, HDR.out.2.2.2]
               exact h
             clear ho hj hk b0 b3))
        go_loopw [13] (fun vj wr => ∃ j : Nat, j ≤ n ∧ vj = .int .i64 (j : Int) ∧ Hid (OnJ w wr gb ga R (arF (D.drop j ++ R)) ∧ wr.ownsRow y.heap.size 36 3 (.slice A n c) n (bellC D))) (fun vj _ => n - (intOf vj).toNat)
        case atStart => exact ⟨0, by omega, rfl, HO2.out⟩
        case round =>
          obtain ⟨j, hj, rfl, HJ2⟩ := hrel
          clear HO2
          by_cases hjn : j < n
          · have hz0 : (0 : Int) ≤ j := by omega
            have hz1 : (j : Int) < n := by omega
            have wj : IntKind.i64.wrap ((j : Int) + 1) = (j : Int) + 1 := IntWalk.i64_in _ (by omega)
            obtain ⟨g, q, rfl, hgB, hgl, hq, c0, c1, c2⟩ := bell_row HJ2.out.2 j hjn
            have hqm := List.mem_of_getElem? hq
            have hdrop : D.drop j = q :: D.drop (j + 1) := by
              have h1 : j < D.length := by rw [HDR.out.2.2.1]; exact hjn
              rw [List.drop_eq_getElem_cons h1]
              rw [List.getElem?_eq_getElem h1] at hq
              injection hq with hq
              rw [hq]
            have hokL : OkL (q :: (D.drop (j + 1) ++ R)) := by
              have h1 := HN.out.j.ok
              rw [← HDR.out.2.2.2] at h1
              have h2 : D.take j ++ (q :: (D.drop (j + 1) ++ R)) = D ++ R := by
                rw [← List.cons_append, ← hdrop, ← List.append_assoc, List.take_append_drop]
              exact h1.drop h2
            have hq64 : q.1 < 64 := hokL.lt q List.mem_cons_self
            obtain ⟨a, ha⟩ : ∃ a : Nat, q.1 / 16 = a := ⟨_, rfl⟩
            obtain ⟨b, hb⟩ : ∃ b : Nat, q.1 % 16 = b := ⟨_, rfl⟩
            obtain ⟨qi, hqi⟩ : ∃ b : Nat, q.1 = b := ⟨_, rfl⟩
            obtain ⟨qk, hqk⟩ : ∃ z, q.2 = z := ⟨_, rfl⟩
            have hq2 := HDM.out q hqm
            have hq0 := HN.out.kb q (by rw [← HDR.out.2.2.2]; exact List.mem_append_left _ hqm)
            rw [hqk] at c0 hq2 hq0
            rw [ha] at c1
            rw [hb] at c2
            have ha4 : (a : Int) % 4 = a := by omega
            have hb16 : (b : Int) % 16 = b := by omega
            obtain ⟨t2, ht2⟩ : ∃ z : Int, 16 * (a : Int) = z := ⟨_, rfl⟩
            have wt2 : IntKind.i64.wrap (16 * (a : Int)) = t2 := by rw [ht2]; exact IntWalk.i64_in _ (by omega)
            have wq : IntKind.i64.wrap (t2 + (b : Int)) = (qi : Int) := by rw [show t2 + (b : Int) = (qi : Int) from by omega]; exact IntWalk.i64_in _ (by omega)
            have wk : IntKind.i64.wrap (qk + 1) = qk + 1 := IntWalk.i64_in _ (by omega)
            have cg := HJ2.out.1.cell (show q.1 < 64 from hq64)
            rw [hdrop, List.cons_append, arF_head, hqk, hqi] at cg
            have fg := HJ2.out.1.a.frozen qi
            have hqz : (0 : Int) ≤ qi := by omega
            have hql : (qi : Int) < 64 := by omega
            have hneq : ((qk + 1) != (qk + 1)) = false := by simp
            have hgt : decide (qk > n2) = false := decide_eq_false (by omega)
            have HAB : Hid ((-9223372036854775808 ≤ (a : Int) ∧ (a : Int) ≤ 9223372036854775807) ∧ (-9223372036854775808 ≤ (b : Int) ∧ (b : Int) ≤ 9223372036854775807)) := ⟨by omega, by omega⟩
            have HQ := Lib.hid (And.intro hdrop (And.intro hokL (And.intro hqi (And.intro hqk (And.intro ha hb)))))
            have hne : ga ≠ g := by omega
            clear hq hqm ha hb ht2 hdrop hokL hq64 hqi hqk hq2 hq0
            go_wp2_with fail
            go_quiet (first | (go_at_call 9; exact bring_q _ _ (by first | exact HAB.out.1 | exact HAB.out.2) (by omega)))
            have HJ3 := Lib.hid (And.intro (HJ2.out.1.keep (belowN (Below.refl wr.heap.size wr) nq)) (own_belowB HJ2.out.2 (belowN (Below.refl wr.heap.size wr) nq)))
            have c0' : (wr.drewN nq).cell? ⟨g, j * 3, none⟩ = some (.int .i64 qk) := c0
            have c1' : (wr.drewN nq).cell? ⟨g, j * 3 + 1, none⟩ = some (.int .i64 a) := c1
            have c2' : (wr.drewN nq).cell? ⟨g, j * 3 + 2, none⟩ = some (.int .i64 b) := c2
            have cg' : (wr.drewN nq).cell? ⟨ga, qi, none⟩ = some (.int .i64 (qk + 1)) := cg
            generalize wr.drewN nq = y2 at HJ3 c0' c1' c2' cg' ⊢
            clear c0 c1 c2 cg fg
            have fin : ∀ y3 : World, Below y2.heap.size y2 y3 → OnJ w (y3.setCell ⟨ga, qi, none⟩ (.int .i64 0)) gb ga R (arF (D.drop (j + 1) ++ R)) ∧ (y3.setCell ⟨ga, qi, none⟩ (.int .i64 0)).ownsRow y.heap.size 36 3 (.slice (some ⟨g, 0, none⟩) n c) n (bellC D) := fun y3 hb3 => by
              obtain ⟨q1, q2, q3, q4, _⟩ := HQ.out
              refine ⟨(HJ3.out.1.keep hb3).set qi 0 (fun k => ?_), own_farB (own_belowB HJ3.out.2 hb3) (Upd.set1 ga qi _) (fun k hk => by rw [hk]; exact hga)⟩
              rw [q1, List.cons_append, ← q3]
              exact arF_pop q2 k
            have HFIN := Lib.hid fin
            clear fin
            by_cases hj0 : j = 0
            · subst hj0
              have hjd : decide ((0 : Int) > 0) = false := by decide
              go_wp2_with fail
              go_quiet (fail)
              generalize hy3 : World.drewN y2 _ = y3
              have HB3 : Hid (Below y2.heap.size y2 y3) := by rw [← hy3]; exact belowN (Below.refl _ _) _
              have cg3 : y3.cell? ⟨ga, qi, none⟩ = some (.int .i64 (qk + 1)) := by rw [← hy3]; exact cg'
              have fg := (HJ3.out.1.keep HB3.out).a.frozen qi
              clear hy3 c0' c1' c2' cg'
              go_wp2_with fail
              refine ⟨⟨0 + 1, by omega, by go_num, HFIN.out _ HB3.out⟩, by simp [intOf]; try omega⟩
            · obtain ⟨j1, hj1⟩ : ∃ j1, j - 1 = j1 := ⟨_, rfl⟩
              have wj1 : IntKind.i64.wrap ((j : Int) - 1) = (j1 : Int) := by rw [show (j : Int) - 1 = (j1 : Int) from by omega]; exact IntWalk.i64_in _ (by omega)
              have hjd : decide ((j : Int) > 0) = true := decide_eq_true (by omega)
              have hjn0 : 0 < j := by omega
              have hjd2 : decide (0 < j) = true := decide_eq_true hjn0
              obtain ⟨g', q', hg', -, -, hq', f0, f1, f2⟩ := bell_row HJ3.out.2 j1 (by omega)
              cases hg'
              obtain ⟨a1, ha1⟩ : ∃ a : Nat, q'.1 / 16 = a := ⟨_, rfl⟩
              obtain ⟨b1, hb1⟩ : ∃ b : Nat, q'.1 % 16 = b := ⟨_, rfl⟩
              obtain ⟨k1, hk1⟩ : ∃ z, q'.2 = z := ⟨_, rfl⟩
              have hlt : ltB q' q := by
                have hso := HN.out.j.ok.so
                rw [← HDR.out.2.2.2] at hso
                have hD := (List.pairwise_append.1 hso).1
                have hqj : D[j]? = some q := by
                  have := congrArg (fun l => l[0]?) HQ.out.1
                  simpa using this
                obtain ⟨l1, e1⟩ := List.getElem?_eq_some_iff.1 hq'
                obtain ⟨l2, e2⟩ := List.getElem?_eq_some_iff.1 hqj
                have := List.pairwise_iff_getElem.1 hD j1 j l1 l2 (by omega)
                rw [e1, e2] at this
                exact this
              have HAH : Hid (k1 < qk ∨ (k1 = qk ∧ ((a1 : Int) < (a : Int) ∨ ((a1 : Int) = (a : Int) ∧ (b1 : Int) < (b : Int))))) := by
                have hh := HQ.out
                have e1 := hh.2.2.2.1
                have e2 := hh.2.2.2.2.1
                have e3 := hh.2.2.2.2.2
                unfold ltB at hlt
                exact (by omega : k1 < qk ∨ (k1 = qk ∧ ((a1 : Int) < (a : Int) ∨ ((a1 : Int) = (a : Int) ∧ (b1 : Int) < (b : Int)))))
              rw [hk1] at f0
              rw [ha1] at f1
              rw [hb1] at f2
              have hy0 : (0 : Int) ≤ j1 := by omega
              have hy1 : (j1 : Int) < n := by omega
              clear hlt hq' ha1 hb1 hk1 hj1
              go_wp2_with fail
              go_region_held3 (fun w' => w'.cell? ⟨ga, qi, none⟩ = some (.int .i64 (qk + 1)) ∧ w'.cell? ⟨g, j * 3, none⟩ = some (.int .i64 qk) ∧ w'.cell? ⟨g, j * 3 + 1, none⟩ = some (.int .i64 a) ∧ w'.cell? ⟨g, j * 3 + 2, none⟩ = some (.int .i64 b) ∧ w'.cell? ⟨g, j1 * 3, none⟩ = some (.int .i64 k1) ∧ w'.cell? ⟨g, j1 * 3 + 1, none⟩ = some (.int .i64 a1) ∧ w'.cell? ⟨g, j1 * 3 + 2, none⟩ = some (.int .i64 b1)) (first | go_keep | (exact E1.out))
                (first | (go_at_call 13; refine (bahead_true _ _ _ _ _ _ _ HAH.out).mono ?_; rintro r y3 ⟨rfl, hb⟩
                          have HB3 : Hid (Below y2.heap.size y2 y3) := (Below.refl y2.heap.size y2).drew.trans hb
                          have hg3 : g < y2.heap.size := by
                            rcases HJ3.out.2.2 with ⟨h, _⟩ | ⟨g5, cap5, cur5, hv5, _, hb5, _⟩
                            · cases h
                            · cases hv5; exact Blk.lt hb5
                          have hga3 : ga < y2.heap.size := HJ3.out.1.a.lt
                          have E1 : Hid (y3.cell? ⟨ga, qi, none⟩ = some (.int .i64 (qk + 1)) ∧ y3.cell? ⟨g, j * 3, none⟩ = some (.int .i64 qk) ∧ y3.cell? ⟨g, j * 3 + 1, none⟩ = some (.int .i64 a) ∧ y3.cell? ⟨g, j * 3 + 2, none⟩ = some (.int .i64 b) ∧ y3.cell? ⟨g, j1 * 3, none⟩ = some (.int .i64 k1) ∧ y3.cell? ⟨g, j1 * 3 + 1, none⟩ = some (.int .i64 a1) ∧ y3.cell? ⟨g, j1 * 3 + 2, none⟩ = some (.int .i64 b1)) :=
                            ⟨(HB3.out.cell (p := ⟨ga, qi, none⟩) hga3).trans cg', (HB3.out.cell (p := ⟨g, j * 3, none⟩) hg3).trans c0', (HB3.out.cell (p := ⟨g, j * 3 + 1, none⟩) hg3).trans c1', (HB3.out.cell (p := ⟨g, j * 3 + 2, none⟩) hg3).trans c2', (HB3.out.cell (p := ⟨g, j1 * 3, none⟩) hg3).trans f0, (HB3.out.cell (p := ⟨g, j1 * 3 + 1, none⟩) hg3).trans f1, (HB3.out.cell (p := ⟨g, j1 * 3 + 2, none⟩) hg3).trans f2⟩
                          have HG3 := Lib.hid hg3
                          clear hb hg3 hga3))
              have cg3 := E1.out.1
              have fg := (HJ3.out.1.keep HB3.out).a.frozen qi
              clear c0' c1' c2' cg' f0 f1 f2
              go_wp2_with fail
              refine ⟨⟨j + 1, by omega, by go_num, HFIN.out _ HB3.out⟩, by simp [intOf]; try omega⟩
          · obtain rfl : j = n := by omega
            have HJE : Hid (OnJ w wr gb ga R (arF R)) := by
              have := HJ2.out.1
              rw [show D.drop j = [] from List.drop_eq_nil_of_le (by rw [HDR.out.2.2.1]; exact Nat.le_refl _), List.nil_append] at this
              exact this
            clear HJ2
            go_wp2_with fail
            go_loopw [15] (fun vk wr2 => ∃ k : Nat, k ≤ 64 ∧ vk = .int .i64 (k : Int) ∧ Hid (OnJ w wr2 gb ga R (arF R))) (fun vk _ => 64 - (intOf vk).toNat)
            case atStart => exact ⟨0, by omega, rfl, HJE.out⟩
            case round =>
              obtain ⟨k, hk64, rfl, HJ4⟩ := hrel
              by_cases hk : k < 64
              · have hz0 : (0 : Int) ≤ k := by omega
                have hz1 : (k : Int) < 64 := by omega
                have wk : IntKind.i64.wrap ((k : Int) + 1) = (k : Int) + 1 := IntWalk.i64_in _ (by omega)
                have cg := HJ4.out.cell hk
                obtain ⟨v, hv⟩ : ∃ v, arF R k = v := ⟨_, rfl⟩
                rw [hv] at cg
                have hvb : (v = 0) ∨ (0 < v ∧ n2 < v - 1 ∧ v ≤ 5001) := by
                  rw [← hv]
                  unfold arF
                  cases hl : lk R k with
                  | none => exact Or.inl rfl
                  | some a =>
                    have h1 := HLATE.out _ (lk_mem hl)
                    have h2 := HKR.out _ (lk_mem hl)
                    simp only at h1 h2 ⊢
                    omega
                clear hv
                rcases hvb with rfl | ⟨v1, v2, v3⟩
                · go_wp2_with fail
                  exact ⟨⟨k + 1, by omega, by go_num, HJ4.out⟩, by simp [intOf]; try omega⟩
                · have d1 : decide (v > 0) = true := decide_eq_true v1
                  have wv1 : IntKind.i64.wrap (v - 1) = v - 1 := IntWalk.i64_in _ (by omega)
                  have d2 : decide (v - 1 ≤ n2) = false := decide_eq_false (by omega)
                  go_wp2_with fail
                  exact ⟨⟨k + 1, by omega, by go_num, HJ4.out⟩, by simp [intOf]; try omega⟩
              · obtain rfl : k = 64 := by omega
                obtain ⟨q1, q2⟩ := due_none HLATE.out
                have HQQ := Lib.hid (And.intro q1 q2)
                clear q1 q2
                go_wp2_with (go_at_call 12; refine (bdue_to [] R 0 HJ4.out.j n2 HQQ.out.1 HQQ.out.2 rfl).mono ?_; rintro r z5 ⟨⟨A5, c5, rfl, -⟩, hj, hk⟩; have HJ5 := Lib.hid (HJ4.out.step hj hk HKR.out); clear hj hk)
                have hh := HII.out
                exact ⟨⟨i + 1, n2, R, by omega, rfl, by go_num, HJ5.out, hh.2.1, hh.2.2, by omega⟩, by simp [intOf]; try omega⟩
    · obtain rfl : i = K := by omega
      have hend : ¬ ((i : Int) < n0 ∧ (i : Int) < 200) := by have := HK.out; omega
      by_cases hin : (i : Int) < n0
      · have hi2 : ¬ (i : Int) < 200 := fun h => hend ⟨hin, h⟩
        clear hend
        go_wp2_with fail
        go_loopw [16, 17] (fun vn vk wr2 => ∃ k : Nat, k ≤ 64 ∧ vn = .int .i64 (cntB (arF L) k : Nat) ∧ vk = .int .i64 (k : Int) ∧ Hid (OnJ w wr2 gb ga L (arF L))) (fun _ vk _ => 64 - (intOf vk).toNat)
        case atStart => exact ⟨0, by omega, rfl, rfl, HI.out.1⟩
        case round =>
          obtain ⟨k, hk64, rfl, rfl, HJ4⟩ := hrel
          by_cases hk : k < 64
          · have hz0 : (0 : Int) ≤ k := by omega
            have hz1 : (k : Int) < 64 := by omega
            have wk : IntKind.i64.wrap ((k : Int) + 1) = (k : Int) + 1 := IntWalk.i64_in _ (by omega)
            have cg := HJ4.out.cell hk
            obtain ⟨v, hv⟩ : ∃ v, arF L k = v := ⟨_, rfl⟩
            obtain ⟨cn, hcn⟩ : ∃ cn, cntB (arF L) k = cn := ⟨_, rfl⟩
            have hcl := cntB_le (arF L) k
            rw [hv] at cg
            rw [hcn] at hcl ⊢
            have wc : IntKind.i64.wrap ((cn : Int) + 1) = (cn : Int) + 1 := IntWalk.i64_in _ (by omega)
            have HV := Lib.hid (And.intro hv hcn)
            clear hv hcn
            by_cases hv0 : 0 < v
            · have d1 : decide (v > 0) = true := decide_eq_true hv0
              have HV0 := Lib.hid hv0
              go_wp2_with fail
              refine ⟨⟨k + 1, by omega, ?_, by go_num, HJ4.out⟩, by simp [intOf]; try omega⟩
              rw [cntB, HV.out.1, HV.out.2, if_pos HV0.out]
              go_num
            · have d1 : decide (v > 0) = false := decide_eq_false hv0
              have HV0 := Lib.hid hv0
              go_wp2_with fail
              refine ⟨⟨k + 1, by omega, ?_, by go_num, HJ4.out⟩, by simp [intOf]; try omega⟩
              rw [cntB, HV.out.1, HV.out.2, if_neg HV0.out]
              rfl
          · obtain rfl : k = 64 := by omega
            rw [cnt_len HJ4.out.j.ok HJ4.out.kb]
            go_wp2_with (go_at_call 14; refine (bcount HJ4.out.j).mono ?_; rintro r z5 ⟨rfl, rfl⟩)
            go_ret
            exact ⟨ret_bool (by simp), HJ4.out.j.b⟩
      · clear hend
        go_wp2_with fail
        go_loopw [16, 17] (fun vn vk wr2 => ∃ k : Nat, k ≤ 64 ∧ vn = .int .i64 (cntB (arF L) k : Nat) ∧ vk = .int .i64 (k : Int) ∧ Hid (OnJ w wr2 gb ga L (arF L))) (fun _ vk _ => 64 - (intOf vk).toNat)
        case atStart => exact ⟨0, by omega, rfl, rfl, HI.out.1⟩
        case round =>
          obtain ⟨k, hk64, rfl, rfl, HJ4⟩ := hrel
          by_cases hk : k < 64
          · have hz0 : (0 : Int) ≤ k := by omega
            have hz1 : (k : Int) < 64 := by omega
            have wk : IntKind.i64.wrap ((k : Int) + 1) = (k : Int) + 1 := IntWalk.i64_in _ (by omega)
            have cg := HJ4.out.cell hk
            obtain ⟨v, hv⟩ : ∃ v, arF L k = v := ⟨_, rfl⟩
            obtain ⟨cn, hcn⟩ : ∃ cn, cntB (arF L) k = cn := ⟨_, rfl⟩
            have hcl := cntB_le (arF L) k
            rw [hv] at cg
            rw [hcn] at hcl ⊢
            have wc : IntKind.i64.wrap ((cn : Int) + 1) = (cn : Int) + 1 := IntWalk.i64_in _ (by omega)
            have HV := Lib.hid (And.intro hv hcn)
            clear hv hcn
            by_cases hv0 : 0 < v
            · have d1 : decide (v > 0) = true := decide_eq_true hv0
              have HV0 := Lib.hid hv0
              go_wp2_with fail
              refine ⟨⟨k + 1, by omega, ?_, by go_num, HJ4.out⟩, by simp [intOf]; try omega⟩
              rw [cntB, HV.out.1, HV.out.2, if_pos HV0.out]
              go_num
            · have d1 : decide (v > 0) = false := decide_eq_false hv0
              have HV0 := Lib.hid hv0
              go_wp2_with fail
              refine ⟨⟨k + 1, by omega, ?_, by go_num, HJ4.out⟩, by simp [intOf]; try omega⟩
              rw [cntB, HV.out.1, HV.out.2, if_neg HV0.out]
              rfl
          · obtain rfl : k = 64 := by omega
            rw [cnt_len HJ4.out.j.ok HJ4.out.kb]
            go_wp2_with (go_at_call 14; refine (bcount HJ4.out.j).mono ?_; rintro r z5 ⟨rfl, rfl⟩)
            go_ret
            exact ⟨ret_bool (by simp), HJ4.out.j.b⟩
end Go.Proofs.Ytbfbahedbfjcoaa
