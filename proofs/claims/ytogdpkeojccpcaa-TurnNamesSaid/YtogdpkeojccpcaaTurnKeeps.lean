/- TurnKeeps: the walk of the law. -/
import Derived.Test.YtogdpkeojccpcaaTurnPlans
import Derived.Test.YtogdpkeojccpcaaTurnEdf
import Derived.Test.YtogdpkeojccpcaaShareKeeps
namespace Go.Proofs.Ytogdpkeojccpcaa
set_option linter.all false
open Go.RowKit
attribute [local go_sem ↓] Go.wp_at_zero Go.wp_at_succ

set_option maxRecDepth 100000 in
set_option maxHeartbeats 4000000 in
theorem begun20_any {w : World} {A0 A1 : Option Addr} {N n1 : Nat} {S : Nat → Int} (h : IntsW w A1 n1 S) (hI : ∀ i, i < n1 → I64 (S i)) (hN4 : N ≤ 4) (m1 : n1 ≤ maxLen) (c c1 : Nat) :
    Calls Try.prog 53 #[.slice A0 N c, .slice A1 n1 c1] w fun r w' => (∃ g Sg, r = .returned (.slice (some ⟨g, 0, none⟩) N N) ∧ Blk w' g 3 (arrF Sg N) ∧ ∀ i, 0 ≤ Sg i ∧ Sg i ≤ 1000) ∧ Below w.heap.size w w' := by
  have H := Lib.hid h
  have HI := Lib.hid hI
  have hmk := mk_int N hN4
  have hm1 : (n1 : Int) ≤ 9223372036854775807 := by simp [maxLen] at m1; omega
  have hN4' : (N : Int) ≤ 4 := by omega
  clear h hI m1
  go_enter Try.func53, Try.ntmps53
  go_wp2_with fail
  clear hmk
  obtain ⟨gA, hgA⟩ : ∃ g, w.heap.size = g := ⟨_, rfl⟩
  have HB0 : Hid (Blk (w.alloc (.cells (arrF (fun _ => 0) N) 3)) gA 3 (arrF (fun _ => 0) N)) := by rw [← hgA]; exact Blk.new _ _ _
  rw [hgA]
  have HGA := Lib.hid hgA
  clear hgA
  go_loopw [6] (fun i wr => ∃ (k : Nat) (S : Nat → Int), k ≤ N ∧ k ≤ n1 ∧ i = .int .i64 k ∧ Hid (Blk wr gA 3 (arrF S N) ∧ (∀ i, 0 ≤ S i ∧ S i ≤ 1000) ∧ Below w.heap.size w wr)) (fun i _ => N - (intOf i).toNat)
  case atStart => exact ⟨0, _, by omega, by omega, rfl, ⟨HB0.out, fun _ => ⟨by decide, by decide⟩, (Below.refl _ _).alloc (Nat.le_refl _) _⟩⟩
  case round =>
    obtain ⟨k, Sg, hk, hk1, rfl, HR⟩ := hrel
    clear HB0
    by_cases hc : k < N ∧ k < n1
    · obtain ⟨b, off, rfl, hlt, hz0⟩ := H.out.at_ k hc.2
      rw [← HR.out.2.2.cell (p := ⟨b, _, none⟩) hlt] at hz0
      obtain ⟨z, hz⟩ : ∃ z, S k = z := ⟨_, rfl⟩
      have zb := HI.out k hc.2
      rw [hz] at hz0 zb
      have hcl : wr.cell? ⟨gA, k, none⟩ = some (.int .i64 (Sg k)) := by rw [HR.out.1.cell k]; exact arrF_at Sg N k hc.1
      have hfr := HR.out.1.frozen k
      have q0 := Int.emod_nonneg z (b := 50) (by decide)
      have q1 := Int.emod_lt_of_pos z (b := 50) (by decide)
      have hx0 : (0 : Int) ≤ k := by omega
      have hx1 : (k : Int) < N := by omega
      have hx3 : (k : Int) < n1 := by omega
      have wk : IntKind.i64.wrap ((k : Int) + 1) = (k : Int) + 1 := IntWalk.i64_in _ (by omega)
      have HZ := Lib.hid zb
      have HQ := Lib.hid (And.intro q0 q1)
      clear hz zb q0 q1
      go_wp2_with (go_at_call 22; refine (bring_any z 50 _ HZ.out ⟨by decide, by decide⟩).mono ?_; rintro r y1 ⟨rfl, -, rfl⟩)
      refine ⟨⟨k + 1, upd Sg k (z % 50), by omega, by omega, by go_num, ?_, ?_, ?_⟩, by simp [intOf]; try omega⟩
      · rw [← arrF_upd]; exact HR.out.1.set_ k _
      · intro i
        have := HQ.out
        unfold upd
        split
        · omega
        · exact HR.out.2.1 i
      · exact HR.out.2.2.setCell (by rw [← HGA.out]; exact Nat.le_refl _) _
    · by_cases hkN : k < N
      · have hx1 : (k : Int) < N := by omega
        have hx3 : ¬ (k : Int) < n1 := by omega
        go_wp2_with fail
        go_ret
        exact ⟨⟨gA, rfl, Sg, HR.out.1, HR.out.2.1⟩, HR.out.2.2⟩
      · have hx1 : ¬ (k : Int) < N := by omega
        go_wp2_with fail
        go_ret
        exact ⟨⟨gA, rfl, Sg, HR.out.1, HR.out.2.1⟩, HR.out.2.2⟩

theorem ints_arr {w : World} {g n : Nat} {t : TypeId} {S : Nat → Int} (hb : Blk w g t (arrF S n)) : IntsW w (some ⟨g, 0, none⟩) n S :=
  ⟨fun i hi => ⟨g, 0, rfl, hb.lt, by rw [Nat.zero_add, hb.cell]; exact arrF_at S n i hi⟩⟩

/-- What a plan has made: numbers and servers, and that all old stands. -/
structure KpJ (w x : World) (A Ap : Option Addr) (g N : Nat) (P B S : Nat → Int) : Prop where
  p : Pts x A N P B
  s : IntsW x (some ⟨g, 0, none⟩) N S
  r : IntsW x Ap 500 (fun i => (runT P B S N 500).2.getD i 0)
  b : Below w.heap.size w x
theorem KpJ.keep {w x x' : World} {A Ap : Option Addr} {g N : Nat} {P B S : Nat → Int} (h : KpJ w x A Ap g N P B S) (hb : Below x.heap.size x x') : KpJ w x' A Ap g N P B S :=
  ⟨h.p.keep hb, h.s.keep hb, h.r.keep hb, h.b.trans (hb.mono h.b.size)⟩

theorem KpJ.cells {w x : World} {Ap : Option Addr} {gb off g N : Nat} {P B S : Nat → Int} (h : KpJ w x (some ⟨gb, off, none⟩) Ap g N P B S) {i : Nat} (hi : i < N) :
    x.cell? ⟨gb, off + i * 3, none⟩ = some (.int .i64 (P i)) ∧ x.cell? ⟨gb, off + i * 3 + 1, none⟩ = some (.int .i64 (B i)) := by
  obtain ⟨Z, hr, hPz⟩ := h.p.rd
  obtain ⟨gb', off', hA, hlt, hcell⟩ := hr i hi
  cases hA
  obtain ⟨p0, p1⟩ := hPz i hi
  obtain ⟨e0, _⟩ := hcell 0 _ rfl
  obtain ⟨e1, _⟩ := hcell 1 _ rfl
  rw [p0] at e0
  rw [p1] at e1
  simp [← Nat.add_assoc] at e0 e1
  exact ⟨e0, e1⟩
theorem cntT_le (P B S : Nat → Int) (m i a n : Nat) : 0 ≤ cntT P B S m i a n ∧ cntT P B S m i a n ≤ n := by
  induction n with
  | zero => exact ⟨Int.le_refl _, Int.le_refl _⟩
  | succ n ih =>
    rw [cntT]
    split <;> omega

set_option maxRecDepth 100000 in
set_option maxHeartbeats 16000000 in
theorem turnKeeps_core (w : World) (A0 : Option Addr) (n0 c0 : Nat) (Z0 : Nat → Nat → Value) (m0 : n0 ≤ maxLen) (r0 : Rd w A0 n0 [.int .i64, .int .i64, .any] Z0) (A1 : Option Addr) (n1 c1 : Nat) (Z1 : Nat → Nat → Value) (m1 : n1 ≤ maxLen) (r1 : Rd w A1 n1 [.int .i64] Z1) :
    Calls Try.prog 15 #[.slice A0 n0 c0, .slice A1 n1 c1] w (Holds w) := by
  obtain ⟨P0, B0, hp, hI⟩ := pts_of_rd m0 r0
  obtain ⟨S0, hs, hsI⟩ := ints_of_rd r1
  have HP0 := Lib.hid hp
  have HI0 := Lib.hid hI
  have HS0 := Lib.hid (And.intro hs (And.intro hsI m1))
  clear r0 hp hI m0 r1 m1 hs hsI
  obtain ⟨N, hN⟩ : ∃ N, min n0 4 = N := ⟨_, rfl⟩
  have hN4 : N ≤ 4 := by omega
  have HN := Lib.hid hN
  clear hN
  obtain ⟨P, hP⟩ : ∃ P, mdP 20 P0 = P := ⟨_, rfl⟩
  obtain ⟨B, hB⟩ : ∃ B, mdB 20 P0 B0 = B := ⟨_, rfl⟩
  have hok : ∀ i, OkP (P i) (B i) := fun i => by rw [← hP, ← hB]; exact (md_ok (by decide) (by decide) P0 B0 i).1
  have HOK := Lib.hid hok
  have HPB := Lib.hid (And.intro hP hB)
  clear hok hP hB
  obtain ⟨e, he⟩ : ∃ e, smV P B N = e := ⟨_, rfl⟩
  have HE := Lib.hid he
  have hcases : (e = 120) ∨ (e = 0 ∧ (fr P B N).1 ≤ (fr P B N).2) := by
    have hsh : ShOk P B N := ⟨hN4, fun i _ => HOK.out i⟩
    rw [← he]
    unfold smV
    rw [if_pos hsh]
    by_cases ho : shD P B N < shT P B N
    · rw [if_pos ho]; exact Or.inl rfl
    · rw [if_neg ho]
      rw [sh_over P B N hsh] at ho
      exact Or.inr ⟨rfl, by omega⟩
  clear he
  rcases hcases with rfl | ⟨rfl, hU⟩
  · go_enter Try.func15, Try.ntmps15
    go_wp2_with (first
      | (go_at_call 48; refine (turn_works _).mono ?_; rintro r x0 ⟨rfl, hb⟩; have HW := Lib.hid hb; have HP1 := Lib.hid (HP0.out.keep hb); clear hb)
      | (go_at_call 51; refine (made20_any HP1.out HI0.out _).mono ?_; rintro r x1 ⟨⟨v, rfl, ho⟩, hb⟩
         rw [HPB.out.1, HPB.out.2, HN.out] at ho
         obtain ⟨A, c, rfl⟩ := own_form ho
         have HPt := Lib.hid (pts_own ho (fun i hi => by have := HOK.out i; unfold OkP at this; unfold I64; omega) (by unfold maxLen; omega))
         have HW := Lib.hid (HW.out.trans (hb.mono HW.out.size))
         clear ho hb)
      | (go_at_call 18; refine (test_is HPt.out HE.out).mono ?_; rintro r y1 ⟨rfl, hb⟩; have HW := Lib.hid (HW.out.trans (hb.mono HW.out.size)); clear hb))
    go_ret
    exact ⟨rfl, HW.out⟩
  · have HU := Lib.hid hU
    clear hU
    go_enter Try.func15, Try.ntmps15
    go_wp2_with (first
      | (go_at_call 48; refine (turn_works _).mono ?_; rintro r x0 ⟨rfl, hb⟩; have HW := Lib.hid hb; have HP1 := Lib.hid (HP0.out.keep hb); clear hb)
      | (go_at_call 51; refine (made20_any HP1.out HI0.out _).mono ?_; rintro r x1 ⟨⟨v, rfl, ho⟩, hb⟩
         rw [HPB.out.1, HPB.out.2, HN.out] at ho
         obtain ⟨A, c, rfl⟩ := own_form ho
         have HPt := Lib.hid (pts_own ho (fun i hi => by have := HOK.out i; unfold OkP at this; unfold I64; omega) (by unfold maxLen; omega))
         have HW := Lib.hid (HW.out.trans (hb.mono HW.out.size))
         clear ho hb)
      | (go_at_call 18; refine (test_is HPt.out HE.out).mono ?_; rintro r y1 ⟨rfl, hb⟩; have HPt := Lib.hid (HPt.out.keep hb); have HW := Lib.hid (HW.out.trans (hb.mono HW.out.size)); clear hb)
      | (go_at_call 53; refine (begun20_any (HS0.out.1.keep HW.out) HS0.out.2.1 hN4 HS0.out.2.2 _ _).mono ?_; rintro r y2 ⟨⟨g, S, rfl, hg, hS⟩, hb⟩
         have HSg := Lib.hid hS
         have HG := Lib.hid (ints_arr hg)
         have HPt := Lib.hid (HPt.out.keep hb)
         have HW := Lib.hid (HW.out.trans (hb.mono HW.out.size))
         have HA : Hid (AskIs P B S N N 500 0) := Or.inr ⟨⟨hN4, by decide, by decide⟩, Or.inr ⟨rfl, rfl, fun i hi => ⟨HOK.out i, hS i⟩⟩⟩
         clear hg hS hb)
      | (go_at_call 45; refine (plan_any HPt.out (fun i hi => by have := HOK.out i; unfold OkP at this; unfold I64; omega) HG.out _ _ 500).mono ?_; rintro r xp ⟨hpp, hb⟩
         obtain ⟨Ap, cp, rfl, hap⟩ := plan_res hpp HA.out
         rw [if_pos rfl] at hap ⊢
         have HK : Hid (KpJ w xp A Ap g N P B S) := ⟨HPt.out.keep hb, HG.out.keep hb, hap, HW.out.trans (hb.mono HW.out.size)⟩
         clear hpp hb hap))
    have hN4' : (N : Int) ≤ 4 := by omega
    go_loopw [8] (fun vi wr => ∃ i : Nat, i ≤ N ∧ vi = .int .i64 (i : Int) ∧ Hid (KpJ w wr A Ap g N P B S)) (fun vi _ => N - (intOf vi).toNat)
    case atStart => exact ⟨0, by omega, rfl, HK⟩
    case round =>
      obtain ⟨i, hi, rfl, HK1⟩ := hrel
      clear HK
      by_cases hiN : i < N
      · have hx0 : (0 : Int) ≤ i := by omega
        have hx1 : (i : Int) < N := by omega
        have wi : IntKind.i64.wrap ((i : Int) + 1) = (i : Int) + 1 := IntWalk.i64_in _ (by omega)
        obtain ⟨b1, o1, hA, hl1, d1⟩ := HK1.out.s.at_ i hiN
        cases hA
        obtain ⟨a0, ha0⟩ : ∃ a0 : Nat, S i = a0 := ⟨(S i).toNat, by have := (HSg.out i).1; omega⟩
        rw [ha0, Nat.zero_add] at d1
        have HA0 : Hid (S i = a0 ∧ a0 ≤ 1000) := ⟨ha0, by have := (HSg.out i).2; omega⟩
        obtain ⟨hk1, hk2, hk3, hk4⟩ := HOK.out i
        obtain ⟨pN, hpN⟩ : ∃ p : Nat, P i = p := ⟨(P i).toNat, by omega⟩
        obtain ⟨bN, hbN⟩ : ∃ b : Int, B i = b := ⟨_, rfl⟩
        have HPN : Hid (P i = pN ∧ B i = bN) := ⟨hpN, hbN⟩
        have hp1 : 1 ≤ pN ∧ pN ≤ 64 := by omega
        have HCN : Hid (∀ a : Nat, S i ≤ a → ((a : Int) - S i) % P i = 0 → cntT P B S N i a pN = bN) := fun a h1 h2 => by
          rw [← hbN]
          exact cnt_keeps (fun i _ => HOK.out i) (fun i _ => (HSg.out i).1) HU.out hiN ⟨h1, h2⟩ hpN
        clear ha0 hk1 hk2 hk3 hk4 hpN hbN hl1
        go_wp2_with fail
        clear d1
        go_loopw [9] (fun va wr => ∃ a : Nat, a ≤ 1064 ∧ va = .int .i64 (a : Int) ∧ Hid (KpJ w wr A Ap g N P B S ∧ S i ≤ a ∧ ((a : Int) - S i) % P i = 0)) (fun va _ => 1064 - (intOf va).toNat)
        case atStart => exact ⟨a0, by have := HA0.out.2; omega, rfl, HK1.out, by rw [HA0.out.1]; omega, by rw [HA0.out.1]; simp⟩
        case round =>
          obtain ⟨a, ha, rfl, HK2⟩ := hrel
          clear HK1
          obtain ⟨Z, hr, hPz⟩ := HK2.out.1.p.rd
          obtain ⟨gb, off, rfl, hlt, hcell⟩ := hr i hiN
          obtain ⟨p0, p1⟩ := hPz i hiN
          obtain ⟨e0, _⟩ := hcell 0 _ rfl
          obtain ⟨e1, _⟩ := hcell 1 _ rfl
          rw [p0, HPN.out.1] at e0
          rw [p1, HPN.out.2] at e1
          simp [← Nat.add_assoc] at e0 e1
          have wa : IntKind.i64.wrap ((a : Int) + (pN : Int)) = (a : Int) + pN := IntWalk.i64_in _ (by omega)
          clear hr hPz hlt hcell p0 p1
          by_cases hap : a + pN ≤ 500
          · have hap' : (a : Int) + (pN : Int) ≤ 500 := by omega
            go_wp2_with fail
            go_loopw [10, 11] (fun vn vt wr => ∃ j : Nat, j ≤ pN ∧ vt = .int .i64 ((a + j : Nat) : Int) ∧ vn = .int .i64 (cntT P B S N i a j) ∧ Hid (KpJ w wr (some ⟨gb, off, none⟩) Ap g N P B S)) (fun _ vt _ => 600 - (intOf vt).toNat)
            case atStart => exact ⟨0, by omega, by simp, rfl, HK2.out.1⟩
            case round =>
              obtain ⟨j, hj, rfl, rfl, HK3⟩ := hrel
              clear e0 e1
              obtain ⟨e0, e1⟩ := HK3.out.cells hiN
              rw [HPN.out.1] at e0
              rw [HPN.out.2] at e1
              obtain ⟨tt, htt⟩ : ∃ tt : Nat, a + j = tt := ⟨_, rfl⟩
              rw [htt]
              obtain ⟨cn, hcn⟩ : ∃ cn, cntT P B S N i a j = cn := ⟨_, rfl⟩
              rw [hcn]
              have hcb := cntT_le P B S N i a j
              rw [hcn] at hcb
              have wc : IntKind.i64.wrap (cn + 1) = cn + 1 := IntWalk.i64_in _ (by omega)
              have wt : IntKind.i64.wrap ((tt : Int) + 1) = (tt : Int) + 1 := IntWalk.i64_in _ (by omega)
              have HTT := Lib.hid (And.intro htt (And.intro hcn hcb))
              clear htt hcn hcb
              by_cases hjp : j < pN
              · have ht1 : (tt : Int) < (a : Int) + (pN : Int) := by have := HTT.out.1; omega
                have ht2 : (tt : Int) < 500 := by omega
                have ht3 : (0 : Int) ≤ tt := by omega
                have ht4 : tt < 500 := by omega
                obtain ⟨gp2, op2, rfl, _, d2⟩ := HK3.out.r.at_ tt ht4
                rw [runT_at 500 ht4] at d2
                obtain ⟨z, hz⟩ : ∃ z, firV (whoT P B S N tt) = z := ⟨_, rfl⟩
                rw [hz] at d2
                have HZ := Lib.hid hz
                clear hz
                by_cases hzi : z = (i : Int)
                · subst hzi
                  go_wp2_with fail
                  refine ⟨⟨j + 1, by omega, ?_, ?_, HK3.out⟩, by simp [intOf]; have := HTT.out.1; omega⟩
                  · rw [← Nat.add_assoc, HTT.out.1]; go_num
                  · rw [cntT, HTT.out.2.1, HTT.out.1, HZ.out, if_pos rfl]
                · have hzd : (z == (i : Int)) = false := by simp [hzi]
                  have HZI := Lib.hid hzi
                  go_wp2_with fail
                  refine ⟨⟨j + 1, by omega, ?_, ?_, HK3.out⟩, by simp [intOf]; have := HTT.out.1; omega⟩
                  · rw [← Nat.add_assoc, HTT.out.1]; go_num
                  · rw [cntT, HTT.out.2.1, HTT.out.1, HZ.out, if_neg HZI.out, Int.add_zero]
              · obtain rfl : j = pN := by omega
                have ht1 : ¬ (tt : Int) < (a : Int) + (j : Int) := by have := HTT.out.1; omega
                have hcb2 : cn = bN := by rw [← HTT.out.2.1]; exact HCN.out a HK2.out.2.1 HK2.out.2.2
                subst hcb2
                have wa : IntKind.i64.wrap ((a : Int) + (j : Int)) = (a : Int) + j := IntWalk.i64_in _ (by omega)
                go_wp2_with fail
                refine ⟨⟨a + j, by omega, by go_num, HK3.out, by have := HK2.out.2.1; omega, ?_⟩, by simp [intOf]; omega⟩
                rw [show ((a + j : Nat) : Int) - S i = ((a : Int) - S i) + P i from by rw [HPN.out.1]; omega, Int.add_emod_right]
                exact HK2.out.2.2
          · have hap' : ¬ ((a : Int) + (pN : Int) ≤ 500) := by omega
            go_wp2_with fail
            exact ⟨⟨i + 1, by omega, by go_num, HK2.out.1⟩, by simp [intOf]; try omega⟩
      · obtain rfl : i = N := by omega
        go_wp2_with fail
        go_ret
        exact ⟨rfl, HK1.out.b⟩
end Go.Proofs.Ytogdpkeojccpcaa
