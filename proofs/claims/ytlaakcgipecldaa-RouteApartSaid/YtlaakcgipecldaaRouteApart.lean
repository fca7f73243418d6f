/- RouteApart: the walk of the law. -/
import Derived.Test.YtlaakcgipecldaaRaAlone
import Derived.Deep.RegionHeld3
import Derived.Deep.QuietTactic
import Derived.BigQuiet
import Derived.Deep.CutRange
import Derived.Deep.CutBlock
namespace Go.Proofs.Ytlaakcgipecldaa
set_option linter.all false
open Go.RowKit
attribute [local go_sem ↓] Go.wp_at_zero Go.wp_at_succ

theorem pway_info : (Try.prog.info? 25).map (fun i => (i.zero, i.size, i.bytes)) = some (some (.pointer none), 1, 8) := by kernel_rfl
theorem newE_zero {Ps : List PV} (h : AllOk Ps) (h8 : Ps.length ≤ 8) : newE Ps = 0 := by
  unfold newE
  rw [if_neg (by omega), if_pos h]

theorem clr_t (part : Int) (e : RE) : (clr part e).t = e.t := by unfold clr; split <;> rfl
theorem clrL_t (part : Int) (L : List RE) (k i : Nat) (hi : i < L.length) (h : i < (clrL part L k).length) : (clrL part L k)[i].t = L[i].t := by
  have h2 : ((clrL part L k)[i]?).map RE.t = (L[i]?).map RE.t := by
    unfold clrL
    rw [List.getElem?_append]
    split
    · rename_i h3
      have h4 : i < k := by simp at h3; omega
      rw [List.getElem?_map, List.getElem?_take, if_pos h4]
      cases L[i]? <;> simp [clr_t]
    · rename_i h3
      have h4 : min k L.length ≤ i := by simp at h3; omega
      rw [List.getElem?_drop]
      congr 2
      simp
      omega
  rw [List.getElem?_eq_getElem h, List.getElem?_eq_getElem hi] at h2
  exact Option.some.inj h2
theorem clr_at_hit (part : Int) (L : List RE) (k : Nat) (hk : k < L.length) (ht : L[k].t = part) {h : k < (clrL part L k).length} : onE (clrL part L k) k (clearS (clrL part L k)[k].s) = clrL part L (k + 1) := by
  rw [clrL_at part L k h]
  exact clr_hit part L k hk ht
theorem clrL_zero (part : Int) (L : List RE) : clrL part L 0 = L := by simp [clrL]
theorem sound_clr {L : List RE} (ho : Sound L) (part : Int) (k : Nat) : Sound (clrL part L k) := fun i hi => by
  have hi' : i < L.length := by rw [clrL_length] at hi; exact hi
  obtain ⟨h1, h2, h3⟩ := ho i hi'
  have hq : (clrL part L k)[i]? = some (if i < k then clr part L[i] else L[i]) := by
    unfold clrL
    rw [List.getElem?_append]
    split
    · rename_i h4
      have h5 : i < k := by simp at h4; omega
      rw [List.getElem?_map, List.getElem?_take, if_pos h5, if_pos h5, List.getElem?_eq_getElem hi']
      rfl
    · rename_i h4
      have h5 : min k L.length ≤ i := by simp at h4; omega
      rw [if_neg (by omega), List.getElem?_drop]
      have h6 : k + (i - ((L.take k).map (clr part)).length) = i := by simp; omega
      rw [h6, List.getElem?_eq_getElem hi']
  rw [List.getElem?_eq_getElem hi] at hq
  rw [Option.some.inj hq]
  split
  · unfold clr
    split
    · exact ⟨h1.clear, h2, h3⟩
    · exact ⟨h1, h2, h3⟩
  · exact ⟨h1, h2, h3⟩
section
variable {w x : World} {rp : Nat} {L M : List RE} {Am A : Option Addr} {gs : Nat → Nat} {b o : Nat}
theorem ja_f (h : JX w x rp L (OA (some ⟨b, o, none⟩) A gs M)) (k : Nat) (hk : k < M.length) {f : Int} (hf : M[k].f = f) : x.cell? ⟨b, o + k * 6 + 1, none⟩ = some (.int .i64 f) := by
  subst hf
  obtain ⟨b', o', e, h1, _⟩ := ja_pt h k hk
  cases e
  exact h1
theorem ja_t (h : JX w x rp L (OA (some ⟨b, o, none⟩) A gs M)) (k : Nat) (hk : k < M.length) {f : Int} (hf : M[k].t = f) : x.cell? ⟨b, o + k * 6 + 2, none⟩ = some (.int .i64 f) := by
  subst hf
  obtain ⟨b', o', e, _, h1⟩ := ja_pt h k hk
  cases e
  exact h1
theorem ja_g (h : JX w x rp L (OA Am (some ⟨b, o, none⟩) gs M)) (k : Nat) (hk : k < M.length) : x.cell? ⟨b, o + k, none⟩ = some (.pointer (some ⟨gs k, 0, none⟩)) := by
  obtain ⟨b', o', e, h1⟩ := ja_row h k hk
  cases e
  exact h1
theorem onE_f (L : List RE) (k i : Nat) (s : WS) (h : i < (onE L k s).length) (hi : i < L.length) : (onE L k s)[i].f = L[i].f := by
  by_cases e : i = k
  · subst e; rw [onE_same]
  · rw [onE_other _ _ _ _ _ e]
end

set_option maxRecDepth 100000 in
set_option maxHeartbeats 8000000 in
theorem routeApart_core (w : World) (A0 : Option Addr) (n0 c0 : Nat) (Z0 : Nat → Nat → Value) (m0 : n0 ≤ maxLen) (r0 : Rd w A0 n0 [.int .i64, .int .i64, .int .i64, .int .i64, .int .i64, .int .i64] Z0) (A1 : Option Addr) (n1 c1 : Nat) (Z1 : Nat → Nat → Value) (m1 : n1 ≤ maxLen) (r1 : Rd w A1 n1 [.int .i64, .int .i64, .int .i64, .int .i64, .str] Z1) :
    Calls Try.prog 8 #[.slice A0 n0 c0, .slice A1 n1 c1] w (Holds w) := by
  have hm : (n1 : Int) ≤ 9223372036854775807 := by simp [maxLen] at m1; omega
  obtain ⟨Ps, hPl, hP, hPB⟩ := prd_of_rd2 (show Rd w A0 n0 pLeaves Z0 from r0)
  subst hPl
  have R1 := Lib.hid r1
  have HP := Lib.hid (And.intro hP (And.intro hPB m0))
  clear r0 r1 m0 m1 hP hPB
  obtain ⟨Q, hQ⟩ : ∃ Q, (Ps.take 8).map mk = Q := ⟨_, rfl⟩
  have hQ8 : Q.length ≤ 8 := by rw [← hQ, List.length_map, List.length_take]; omega
  have HQ := Lib.hid hQ
  have HOK : Hid (AllOk Q) := fun i hi => by
    have hi2 : i < ((Ps.take 8).map mk).length := by rw [hQ]; exact hi
    have e : Q[i] = ((Ps.take 8).map mk)[i] := by simp [hQ]
    rw [e, List.getElem_map]
    exact mk_ok _
  clear hQ
  have HE := Lib.hid (newE_zero HOK.out hQ8)
  obtain ⟨i0, hi0, hz0, hz1, hz2⟩ := info_parts pway_info
  have HI := Lib.hid (And.intro hi0 (And.intro hz0 (And.intro hz1 hz2)))
  have HX := Lib.hid (show (1010 : Nat) ≤ maxLen by decide)
  clear hi0 hz0 hz1 hz2
  go_enter Try.func8, Try.ntmps8
  go_wp2_with (first
    | (go_at_call 28; refine (route_works _).mono ?_; rintro r y1 ⟨rfl, hb⟩; have HB1 := Lib.hid hb; clear hb)
    | (go_at_call 29; refine (made_any _ _ _ Ps (HP.out.1.below HB1.out) HP.out.2.1 HP.out.2.2).mono ?_; rw [HQ.out]; rintro r y2 ⟨Am, cm, rfl, hr, hb⟩; have HM := Lib.hid (And.intro hr hb); clear hr hb)
    | (go_at_call 23; refine (new_case _ _ _ Q (prd_own HM.out.1) HE.out).mono ?_; rintro r y3 ⟨R, rfl, h1, -, hb⟩
       obtain ⟨rp, rfl, hF⟩ := h1 rfl
       have HN1 := Lib.hid (And.intro hF hb)
       clear h1 hF hb))
  go_loopw [7, 8] (fun v p wr => ∃ (i : Nat) (gs : Nat → Nat) (F : Nat → Nat → Prop), i ≤ Q.length ∧ p = .int .i64 (i : Int) ∧ Hid (LW y3.heap.size wr v gs F Q i ∧ Below y3.heap.size y3 wr)) (fun _ p _ => Q.length - (intOf p).toNat)
  case atStart =>
    exact ⟨0, fun _ => 0, fun _ _ => False, by omega, rfl, ⟨World.ownsRow_nil _ _ _ _, fun j h hj => absurd hj (Nat.not_lt_zero _), fun j hj => absurd hj (Nat.not_lt_zero _), fun a b ha => absurd ha (Nat.not_lt_zero _), fun j hj => absurd hj (Nat.not_lt_zero _), Nat.le_refl _, Nat.zero_le _⟩, Below.refl _ _⟩
  case round =>
    obtain ⟨i, gs, F, hi, rfl, HL⟩ := hrel
    by_cases hi2 : i < Q.length
    · have d1 : decide (i < Q.length) = true := decide_eq_true hi2
      obtain ⟨b, o, hA, hb, p0, p1, p2, p3, p4, p5⟩ := (prd_own HM.out.1).below HN1.out.2 i hi2
      subst hA
      have t0 := (HL.out.2.cell (p := ⟨b, o + i * 6, none⟩) hb).trans p0
      have t1 := (HL.out.2.cell (p := ⟨b, o + i * 6 + 1, none⟩) hb).trans p1
      have t2 := (HL.out.2.cell (p := ⟨b, o + i * 6 + 2, none⟩) hb).trans p2
      have t3 := (HL.out.2.cell (p := ⟨b, o + i * 6 + 3, none⟩) hb).trans p3
      have t4 := (HL.out.2.cell (p := ⟨b, o + i * 6 + 4, none⟩) hb).trans p4
      have t5 := (HL.out.2.cell (p := ⟨b, o + i * 6 + 5, none⟩) hb).trans p5
      have HPO := Lib.hid (HOK.out i hi2)
      clear p0 p1 p2 p3 p4 p5
      go_wp2_with (first
        | (go_at_call 11; refine (new_okP _ HPO.out).mono ?_; rintro r x1 ⟨⟨g, rfl, hg, hp⟩, hb1⟩; have HP1 := Lib.hid (And.intro hg (And.intro hp hb1)); clear hg hp hb1 t0 t1 t2 t3 t4 t5)
        | (at_builtin
           refine wpList_append_lies _ (by rfl) _ _ 65 (by rfl) y3.heap.size 25 i0 _ 1 8 Try.underlying65 HI.out.1 HI.out.2.1 HI.out.2.2.1 HI.out.2.2.2 (by decide) (by decide) u7 i (ptrs gs i) (by rfl) (kept_alloc (own_below HL.out.1.own HP1.out.2.2)) ⟨x1.heap.size, 0, none⟩ 1 1 [.pointer (some ⟨g, 0, none⟩)] (by rfl) (by rfl) (World.news_of_block (cs := #[.pointer (some ⟨g, 0, none⟩)]) (t := 25) (fr := (0, 0)) (heap_alloc_new x1 _)) (by simp [Value.oneCell']) (by decide) (by have := HX.out; omega) (by omega) (by have h1 := HL.out.1.bw; have h2 := HP1.out.2.2.size; simp; omega) (x1.heap.size + 1) (by simp) ?_
           intro g9 c9 w9 hown hgrow hat hlt9
           have hb4 : Below wr.heap.size wr (x1.alloc (.cells #[.pointer (some ⟨g, 0, none⟩)] 25)) := HP1.out.2.2.alloc HP1.out.2.2.size _
           have HP9 := Lib.hid (HL.out.1.push hi2 hb4 (HP1.out.2.1.upd ((Upd.refl (fun _ => False) x1).alloc _) (fun _ _ h => h)) (fun k hk => ⟨hk.1, by simp; omega⟩) hown hgrow (hat.imp id (fun e => by rw [e]; simp)))
           have HBB : Hid (Below y3.heap.size y3 w9) := (HL.out.2.trans (hb4.mono HL.out.1.bw)).grown hgrow (Nat.le_trans HL.out.1.bw hb4.size) (fun j e => (own_cells HL.out.1.own e).1)
           clear hown hgrow hat hlt9 hb4))
      all_goals exact ⟨⟨i + 1, _, _, by omega, rfl, HP9.out, HBB.out⟩, by simp [intOf]; omega⟩
    · have d1 : decide (i < Q.length) = false := decide_eq_false hi2
      have hin : i = Q.length := by omega
      obtain ⟨Aa, ca, hva⟩ := row_form2 HL.out.1.own
      subst hva
      have hJ0 : Hid (JX y1 wr rp (Q.map freshE) (OA Am Aa gs (Q.map freshE))) := by
        have h1 := HL.out.1
        subst hin
        exact h1.done rfl HM.out.2 HM.out.1 HN1.out.1 HN1.out.2 HL.out.2
      clear HL HN1 HM
      subst hin
      go_wp2_with fail
      obtain ⟨wE, hE⟩ : ∃ wE, wE = wr := ⟨_, rfl⟩
      subst hE
      go_loopw [11] (fun p wr => ∃ (k : Nat) (L : List RE), k ≤ n1 ∧ k ≤ 60 ∧ p = .int .i64 (k : Int) ∧ Hid (JX y1 wr rp L (OA Am Aa gs L) ∧ Sound L ∧ L.length = Q.length)) (fun p _ => 60 - (intOf p).toNat)
      case atStart => exact ⟨0, _, by omega, by omega, rfl, hJ0.out, sound_fresh HOK.out, by rw [List.length_map]⟩
      case round =>
        obtain ⟨k, L, hk, hk2, rfl, HJ⟩ := hrel
        clear hJ0
        by_cases hc : k < n1 ∧ k < 60 ∧ 0 < Q.length
        · obtain ⟨b, off, rfl, hlt, hz⟩ := R1.out k hc.1
          obtain ⟨hz0, z0, e0, w0⟩ := hz 0 _ rfl
          obtain ⟨hz2, z2, e2, w2⟩ := hz 2 _ rfl
          obtain ⟨hz3, z3, e3, w3⟩ := hz 3 _ rfl
          obtain ⟨hz4, z4, e4, w4⟩ := hz 4 _ rfl
          rw [e0] at hz0
          rw [e2] at hz2
          rw [e3] at hz3
          rw [e4] at hz4
          have hlt1 := Nat.lt_of_lt_of_le hlt HB1.out.size
          rw [← HB1.out.cell (p := ⟨b, _, none⟩) hlt, ← HJ.out.1.b.cell (p := ⟨b, _, none⟩) hlt1] at hz0 hz2 hz3 hz4
          simp [← Nat.add_assoc] at hz0 hz2 hz3 hz4
          have hk1 := hc.1
          have hk3 := hc.2.1
          have hk4 := hc.2.2
          have hkk : (k : Int) < 60 := by omega
          have hx0 : (0 : Int) ≤ k := by omega
          have hx1 : (k : Int) < n1 := by omega
          have d2 : decide (k < n1) = true := decide_eq_true hc.1
          have d3 : decide (k < 60) = true := decide_eq_true hc.2.1
          have d4 : decide (0 < Q.length) = true := decide_eq_true hc.2.2
          have HW0 := Lib.hid (wf_bounds w0)
          have HW2 := Lib.hid (wf_bounds w2)
          have HW3 := Lib.hid (wf_bounds w3)
          have HZ4 := Lib.hid w4
          clear hz e0 e2 e3 e4 w0 w2 w3 w4
          obtain ⟨kk, hkl, hke⟩ : ∃ kk : Nat, kk < Q.length ∧ z2 % (Q.length : Int) = (kk : Int) := ⟨(z2 % (Q.length : Int)).toNat, by have := Int.emod_lt_of_pos z2 (b := (Q.length : Int)) (by omega); have := Int.emod_nonneg z2 (b := (Q.length : Int)) (by omega); omega, by have := Int.emod_nonneg z2 (b := (Q.length : Int)) (by omega); omega⟩
          have HKE := Lib.hid hke
          have hkb : (kk : Int) < Q.length := by omega
          clear hke
          go_upto_region 19 with (go_at_call 10; refine (bring_any _ _ _ HW2.out (by omega)).mono ?_; rw [HKE.out]; rintro r y4 ⟨rfl, -, rfl⟩)
          have ht0 := Int.emod_nonneg z3 (b := 100) (by decide)
          have ht1 := Int.emod_lt_of_pos z3 (b := 100) (by decide)
          obtain ⟨tt, htt⟩ : ∃ x, z3 % 100 = x := ⟨_, rfl⟩
          rw [htt] at ht0 ht1
          have HTT := Lib.hid htt
          obtain ⟨sl, hsl⟩ : ∃ sl, min z4.size 20 = sl := ⟨_, rfl⟩
          have hs1 : sl ≤ z4.size := by omega
          have hs20 : sl ≤ 20 := by omega
          have hmI : min (z4.size : Int) 20 = (sl : Int) := by omega
          have hs2 : (sl : Int) ≤ z4.size := by omega
          clear hi hi2 d1 hc htt hsl
          have HMS : Hid ((z4.extract 0 sl).size ≤ maxLen) := by
            have h20 : (20 : Nat) ≤ maxLen := by decide
            show (z4.extract 0 sl).size ≤ maxLen
            rw [ByteArray.size_extract]
            omega
          go_cut [13, 14] from 56 to 215 (fun s13 s14 wx => ∃ ms, s13 = .string ms ∧ s14 = .int .i64 tt ∧ wx = wr.drew ∧ Hid (ms.size ≤ maxLen))
          case first =>
           go_region_held3 (fun w' => w'.cell? ⟨b, off + k * 5 + 3, none⟩ = some (.int .i64 z3) ∧ w'.cell? ⟨b, off + k * 5 + 4, none⟩ = some (.string z4)) (go_keep)
            ((go_at_call 10; refine (bring_any _ _ _ HW3.out (by omega)).mono ?_; rw [HTT.out]; rintro r y4 ⟨rfl, -, rfl⟩))
           all_goals go_wp2_with fail
           all_goals go_meet
           all_goals exact ⟨_, rfl, rfl, rfl, HMS.out⟩
          case rest =>
           obtain ⟨ms, rfl, rfl, rfl, HM⟩ := hcut
           have hq0 := Int.emod_nonneg z0 (b := 3) (by decide)
           have hq1 := Int.emod_lt_of_pos z0 (b := 3) (by decide)
           obtain ⟨q, hq⟩ : ∃ x, z0 % 3 = x := ⟨_, rfl⟩
           rw [hq] at hq0 hq1
           have HQE := Lib.hid hq
           clear hq
           go_upto_block 4 with (go_at_call 10; refine (bring_any _ _ _ HW0.out (by omega)).mono ?_; rw [HQE.out]; rintro r y4 ⟨rfl, -, rfl⟩)
           go_cut [15, 16, 17, 18, 19, 20, 21, 22, 23] from 56 to 215 (fun s15 s16 s17 s18 s19 s20 s21 s22 s23 wx => ∃ L', Hid (JX y1 wx rp L' (OA Am Aa gs L') ∧ Sound L' ∧ L'.length = Q.length))
           case first =>
            have hkL : kk < L.length := by rw [HJ.out.2.2]; exact hkl
            obtain ⟨b1, o1, hA1, p1, p2⟩ := ja_pt HJ.out.1 kk hkL
            subst hA1
            obtain ⟨b2, o2, hA2, a2⟩ := ja_row HJ.out.1 kk hkL
            subst hA2
            obtain ⟨fr, hfr⟩ : ∃ x, L[kk].f = x := ⟨_, rfl⟩
            obtain ⟨tw, htw⟩ : ∃ x, L[kk].t = x := ⟨_, rfl⟩
            rw [hfr] at p1
            rw [htw] at p2
            have HFR := Lib.hid hfr
            have HTW := Lib.hid htw
            clear hfr htw hz0 hz2 hz3 hz4 HW0 HW2 HW3 HZ4 HKE HTT hmI hs1 hs2 hs20
            have hq3 : q = 0 ∨ q = 1 ∨ q = 2 := by omega
            rcases hq3 with rfl | rfl | rfl
            · as_aux_lemma =>
              obtain ⟨E, hE⟩ : ∃ x, sendE L[kk].s ms.size tt = x := ⟨_, rfl⟩
              have HEE := Lib.hid hE
              clear hE
              go_wp2_with fail
              go_region_held3 (fun w' => w'.cell? ⟨b1, o1 + kk * 6 + 1, none⟩ = some (.int .i64 fr) ∧ w'.cell? ⟨b2, o2 + kk, none⟩ = some (.pointer (some ⟨gs kk, 0, none⟩))) (first | go_keep | (exact E2.out) | (exact E1.out))
                (first
                  | (go_at_call 30; refine (jx_send_to (HJ.out.1.drewN 2) HJ.out.2.1 kk hkL tt ms HFR.out rfl HM.out HEE.out rfl).mono ?_; rintro r y5 ⟨rfl, hj⟩; have HJ2 := Lib.hid hj; have E1 := Lib.hid (And.intro (ja_f hj kk hkL HFR.out) (ja_g hj kk hkL)); clear hj)
                  | (go_at_call 13; refine (ja_send HJ2.out HJ.out.2.1 kk hkL tt ms HM.out).mono ?_; rw [HEE.out]; rintro r y6 ⟨rfl, hj⟩; have HJ3 := Lib.hid hj; have E2 := Lib.hid (And.intro (ja_f hj kk (by rw [onE_length]; exact hkL) ((onE_f _ _ _ _ _ hkL).trans HFR.out)) (ja_g hj kk (by rw [onE_length]; exact hkL))); clear hj))
              all_goals go_wp2_with fail
              all_goals go_meet
              all_goals exact ⟨_, HJ3.out, HJ.out.2.1.send kk hkL ms tt, by rw [onE_length]; exact HJ.out.2.2⟩
            · as_aux_lemma =>
              obtain ⟨mr, hmr⟩ : ∃ x, recvM L[kk].s tt = x := ⟨_, rfl⟩
              obtain ⟨br, hbr⟩ : ∃ x, recvB L[kk].s tt = x := ⟨_, rfl⟩
              obtain ⟨E, hE⟩ : ∃ x, recvE L[kk].s tt = x := ⟨_, rfl⟩
              have HEE := Lib.hid (And.intro hmr (And.intro hbr hE))
              clear hmr hbr hE
              go_wp2_with (first
                | (go_at_call 31; refine (jx_recv_to HJ.out.1.drew HJ.out.2.1 kk hkL tt HTW.out rfl HEE.out.1 HEE.out.2.1 HEE.out.2.2 rfl).mono ?_; rintro r y5 ⟨rfl, hj⟩; have HJ2 := Lib.hid hj; have c5 := ja_g hj kk hkL; clear hj)
                | (go_at_call 12; refine (ja_recv HJ2.out HJ.out.2.1 kk hkL tt).mono ?_; rw [HEE.out.1, HEE.out.2.1, HEE.out.2.2]; rintro r y6 ⟨rfl, hj⟩; have HJ3 := Lib.hid hj; clear hj))
              all_goals go_meet
              all_goals exact ⟨_, HJ3.out, HJ.out.2.1.recv kk hkL tt, by rw [onE_length]; exact HJ.out.2.2⟩
            · as_aux_lemma =>
              have HL8 := Lib.hid (show L.length ≤ 1000 by have := HJ.out.2.2; omega)
              have H4 := Lib.hid HJ.out.2.1.l4
              obtain ⟨nn, hnn⟩ : ∃ x, clrN tw L = x := ⟨_, rfl⟩
              have HNN := Lib.hid hnn
              clear hnn
              go_wp2_with (go_at_call 32; refine (jx_clear HJ.out.1.drew HJ.out.2.1 HL8.out tw).mono ?_; rw [HNN.out]; rintro r y5 ⟨rfl, hj⟩; have HJ2 := Lib.hid hj; clear hj)
              have HN4 := Lib.hid (clrN_range tw L H4.out)
              obtain ⟨LC, hLC⟩ : ∃ x, clrL tw L L.length = x := ⟨_, rfl⟩
              rw [hLC] at HJ2
              have HLC := Lib.hid hLC
              clear hLC p1 p2 a2
              obtain ⟨wH, hH⟩ : ∃ wH, wH = y5 := ⟨_, rfl⟩
              subst hH
              go_loopw [21, 23] (fun n p wr => ∃ j : Nat, j ≤ Q.length ∧ p = .int .i64 (j : Int) ∧ n = .int .i64 (clrN tw (L.take j)) ∧ Hid (JX y1 wr rp LC (OA (some ⟨b1, o1, none⟩) (some ⟨b2, o2, none⟩) gs (clrL tw L j)))) (fun _ p _ => Q.length - (intOf p).toNat)
              case atStart => exact ⟨0, by omega, rfl, by simp [clrN], by have h9 := HJ2.out; rw [← clrL_zero tw L] at h9; exact h9⟩
              case round =>
                obtain ⟨j, hj, rfl, rfl, HR⟩ := hrel
                by_cases hj2 : j < Q.length
                · have d5 : decide (j < Q.length) = true := decide_eq_true hj2
                  have hj3 : (j : Int) < Q.length := by omega
                  have hjL : j < L.length := by rw [HJ.out.2.2]; exact hj2
                  have hjM : j < (clrL tw L j).length := by rw [clrL_length]; exact hjL
                  have hkM : kk < (clrL tw L j).length := by rw [clrL_length]; exact hkL
                  obtain ⟨tj, htj⟩ : ∃ x, L[j].t = x := ⟨_, rfl⟩
                  have cj := ja_t HR.out j hjM ((clrL_t tw L j j hjL hjM).trans htj)
                  have ck := ja_t HR.out kk hkM ((clrL_t tw L j kk hkL hkM).trans HTW.out)
                  have cg := ja_g HR.out j hjM
                  have hr1 := clrN_range tw (L.take j) fun e he => H4.out e (List.mem_of_mem_take he)
                  have hr2 := clrN_succ tw L j hjL
                  have hl4 := H4.out L[j] (List.getElem_mem hjL)
                  rw [List.length_take] at hr1
                  have hlj := HL8.out
                  obtain ⟨nj, hnj⟩ : ∃ x, clrN tw (L.take j) = x := ⟨_, rfl⟩
                  obtain ⟨ln, hln⟩ : ∃ x, L[j].s.L.length = x := ⟨_, rfl⟩
                  rw [htj] at hr2
                  rw [hnj] at hr1 hr2 ⊢
                  rw [hln] at hr2 hl4
                  have HLN : Hid ((clrL tw L j)[j].s.L.length = ln) := by rw [clrL_at]; exact hln
                  have HTJ := Lib.hid htj
                  have HR2 := Lib.hid hr2
                  have hb0 : 0 ≤ nj := hr1.1
                  have hb1 : nj ≤ 4000 := by omega
                  have HSD : Hid (Sound (clrL tw L j)) := sound_clr HJ.out.2.1 tw j
                  clear hr1 hr2 hln htj hlj hnj
                  by_cases ht : tj = tw
                  · have d6 : (tj == tw) = true := by simp [ht]
                    go_wp2_with fail
                    go_quiet (fail)
                    go_wp2_with (first
                      | (go_at_call 14; refine (ja_len (HR.out.drewN nq) HSD.out j hjM).mono ?_; rw [HLN.out]; rintro r y6 ⟨rfl, rfl⟩)
                      | (go_at_call 20; refine (ja_clear (HR.out.drewN nq) j hjM).mono ?_; rintro r y7 ⟨rfl, hp⟩; have HP9 := Lib.hid hp; clear hp))
                    exact ⟨⟨j + 1, by omega, rfl, by rw [HR2.out, if_pos ht], by have h9 := HP9.out; rw [clr_at_hit tw L j hjL (HTJ.out.trans ht)] at h9; exact h9⟩, by simp [intOf]; omega⟩
                  · have d6 : (tj == tw) = false := by simp [ht]
                    go_wp2_with fail
                    go_quiet (fail)
                    go_wp2_with fail
                    exact ⟨⟨j + 1, by omega, rfl, by rw [HR2.out, if_neg ht]; simp, by rw [clr_miss tw L j hjL (fun e => ht (HTJ.out.symm.trans e))]; exact HR.out.drewN nq⟩, by simp [intOf]; omega⟩
                · have d5 : decide (j < Q.length) = false := decide_eq_false hj2
                  have hj3 : ¬ (j : Int) < Q.length := by omega
                  have hjL : j = L.length := by rw [HJ.out.2.2]; omega
                  have hjn : clrN tw (L.take j) = nn := by rw [hjL, List.take_length]; exact HNN.out
                  have hjm : clrL tw L j = LC := by rw [hjL]; exact HLC.out
                  rw [hjm] at HR
                  rw [hjn]
                  have d7 : (nn != nn) = false := by simp
                  clear hjn hjm
                  go_wp2_with fail
                  all_goals go_meet
                  all_goals exact ⟨_, HR.out, HLC.out ▸ HJ.out.2.1.clear tw, by rw [← HLC.out, clrL_length]; exact HJ.out.2.2⟩
           case rest =>
            obtain ⟨L2, HC⟩ := hcut
            clear HJ hz0 hz2 hz3 hz4 HW0 HW2 HW3 HZ4 HQE HKE HTT
            go_wp2_with fail
            obtain ⟨wF, hF⟩ : ∃ wF, wF = wc := ⟨_, rfl⟩
            subst hF
            go_loopw [24] (fun p wr => ∃ j : Nat, j ≤ Q.length ∧ p = .int .i64 (j : Int) ∧ Hid (JX y1 wr rp L2 (OA Am Aa gs L2))) (fun p _ => Q.length - (intOf p).toNat)
            case atStart => exact ⟨0, by omega, rfl, HC.out.1⟩
            case round =>
              obtain ⟨j, hj, rfl, HE1⟩ := hrel
              by_cases hj2 : j < Q.length
              · have d5 : decide (j < Q.length) = true := decide_eq_true hj2
                have hj3 : (j : Int) < Q.length := by omega
                have hjL : j < L2.length := by rw [HC.out.2.2]; exact hj2
                obtain ⟨b2, o2, hA2, a2⟩ := ja_row HE1.out j hjL
                subst hA2
                obtain ⟨ln, hln⟩ : ∃ x, L2[j].s.L.length = x := ⟨_, rfl⟩
                have HLN := Lib.hid hln
                clear hln
                go_wp2_with fail
                go_region_held3 (fun w' => w'.cell? ⟨b2, o2 + j, none⟩ = some (.pointer (some ⟨gs j, 0, none⟩))) (go_keep)
                  (first
                    | (go_at_call 26; refine (jx_len_in (HE1.out.drewN 1) HC.out.2.1 j hjL).mono ?_; rw [HLN.out]; rintro r y5 ⟨rfl, rfl⟩)
                    | (go_at_call 14; refine (ja_len (HE1.out.drewN 1) HC.out.2.1 j hjL).mono ?_; rw [HLN.out]; rintro r y5 ⟨rfl, rfl⟩))
                all_goals go_wp2_with fail
                all_goals exact ⟨⟨j + 1, by omega, rfl, HE1.out.drewN 1⟩, by simp [intOf]; omega⟩
              · have d5 : decide (j < Q.length) = false := decide_eq_false hj2
                have hj3 : ¬ (j : Int) < Q.length := by omega
                go_wp2_with fail
                exact ⟨⟨k + 1, L2, by omega, by omega, rfl, HE1.out, HC.out.2.1, HC.out.2.2⟩, by simp [intOf]; omega⟩
        · have HB := Lib.hid (HB1.out.trans (HJ.out.1.b.mono HB1.out.size))
          clear hi hi2 d1
          by_cases hk1 : k < n1
          · have hx1 : (k : Int) < n1 := by omega
            have d2 : decide (k < n1) = true := decide_eq_true hk1
            by_cases hk3 : k < 60
            · have hx3 : (k : Int) < 60 := by omega
              have d3 : decide (k < 60) = true := decide_eq_true hk3
              have hx4 : ¬ 0 < Q.length := fun h => hc ⟨hk1, hk3, h⟩
              have hx5 : ¬ (0 : Int) < Q.length := by omega
              have d4 : decide (0 < Q.length) = false := decide_eq_false hx4
              go_wp2_with fail
              go_ret
              exact ⟨rfl, HB.out⟩
            · have hx3 : ¬ (k : Int) < 60 := by omega
              have d3 : decide (k < 60) = false := decide_eq_false hk3
              go_wp2_with fail
              go_ret
              exact ⟨rfl, HB.out⟩
          · have hx1 : ¬ (k : Int) < n1 := by omega
            have d2 : decide (k < n1) = false := decide_eq_false hk1
            go_wp2_with fail
            go_ret
            exact ⟨rfl, HB.out⟩
end Go.Proofs.Ytlaakcgipecldaa
