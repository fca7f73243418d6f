/- PurseExact: the walk of the law: in each period a purse is charged as often as its budget less what was short of it. -/
import Derived.Test.YtogdpkeojccpcaaPursePlays
namespace Go.Proofs.Ytogdpkeojccpcaa
set_option linter.all false
open Go.RowKit
attribute [local go_sem ↓] Go.wp_at_zero Go.wp_at_succ

/-- A purse at the start of tick k: of its budget b, c are charged. -/
structure ExI (k : Nat) (p b c e sh : Int) (n : Option (Int × Int)) : Prop where
  ok : OkP p b
  hl : 0 ≤ c ∧ c ≤ b
  he : k ≤ e ∧ e ≤ k + 64
  hs : 0 ≤ sh ∧ sh ≤ 64 * k
  hn : ∀ q, n = some q → OkP q.1 q.2
  hn0 : k ≤ 37 → n = none

theorem ExI.pk {k : Nat} {p b c e sh : Int} {n : Option (Int × Int)} (h : ExI k p b c e sh n) (hk : k ≤ 400) : POk 1099511627999 1000000 ⟨p, b, b - c, e, n, false, false, sh⟩ := by
  obtain ⟨o1, o2, o3, o4⟩ := h.ok
  obtain ⟨l1, l2⟩ := h.hl
  obtain ⟨e1, e2⟩ := h.he
  obtain ⟨s1, s2⟩ := h.hs
  refine ⟨h.ok, ⟨?_, ?_⟩, ⟨?_, ?_⟩, ⟨?_, ?_⟩, h.hn⟩
  · show 0 ≤ b - c; omega
  · show b - c ≤ 64; omega
  · show 0 ≤ e; omega
  · show e ≤ 1099511627999; omega
  · exact s1
  · show sh ≤ 1000000; omega
/-- A period that ends. -/
theorem ExI.turn {k : Nat} {p b c e sh : Int} {n : Option (Int × Int)} (h : ExI k p b c e sh n) (he : e = k) :
    ∃ p1 b1, (turnB ⟨p, b, b - c, e, n, false, false, sh⟩ k = true ∧ turnE ⟨p, b, b - c, e, n, false, false, sh⟩ k = 0 ∧ turnS ⟨p, b, b - c, e, n, false, false, sh⟩ k = ⟨p1, b1, b1 - 0, k + p1, none, false, false, sh + b - c⟩) ∧ OkP p1 b1 := by
  subst he
  have h1 : turnB ⟨p, b, b - c, k, n, false, false, sh⟩ k = true := by unfold turnB; simp
  have h2 : turnE ⟨p, b, b - c, k, n, false, false, sh⟩ k = 0 := by unfold turnE; simp
  have e1 : sh + (b - c) = sh + b - c := by omega
  cases n with
  | none => exact ⟨p, b, ⟨h1, h2, by unfold turnS; rw [h1]; simp [e1]⟩, h.ok⟩
  | some q => exact ⟨q.1, q.2, ⟨h1, h2, by unfold turnS; rw [h1]; simp [e1]⟩, h.hn q rfl⟩
theorem turn_stay {k p b c e sh : Int} {n : Option (Int × Int)} (he : k < e) :
    turnB ⟨p, b, c, e, n, false, false, sh⟩ k = false ∧ turnE ⟨p, b, c, e, n, false, false, sh⟩ k = 0 ∧ turnS ⟨p, b, c, e, n, false, false, sh⟩ k = ⟨p, b, c, e, n, false, false, sh⟩ := by
  have h1 : turnB ⟨p, b, c, e, n, false, false, sh⟩ k = false := by unfold turnB; simp; omega
  refine ⟨h1, ?_, ?_⟩
  · unfold turnE; rw [if_neg]; simp; omega
  · unfold turnS; rw [h1]; rfl
theorem change37 {p b l e sh q : Int} (hq : OkP q 1) : changeE ⟨p, b, l, e, none, false, false, sh⟩ q 1 = 0 ∧ changeS ⟨p, b, l, e, none, false, false, sh⟩ q 1 = ⟨p, b, l, e, some (q, 1), false, false, sh⟩ := by
  have h1 : settE ⟨p, b, l, e, none, false, false, sh⟩ = 0 := rfl
  constructor
  · unfold changeE; rw [if_pos h1, if_pos hq]
  · unfold changeS; rw [if_pos ⟨h1, hq⟩]
theorem charge_no {p b c e sh : Int} {n : Option (Int × Int)} (h : ¬ c < b) (h' : c ≤ b) : chargeE ⟨p, b, b - c, e, n, false, false, sh⟩ = 8 ∧ chargeS ⟨p, b, b - c, e, n, false, false, sh⟩ = ⟨p, b, b - c, e, n, false, false, sh⟩ := by
  have h0 : b - c = 0 := by omega
  rw [h0]
  exact ⟨rfl, rfl⟩
theorem charge_yes {p b c e sh : Int} {n : Option (Int × Int)} (h : c < b) : chargeE ⟨p, b, b - c, e, n, false, false, sh⟩ = 0 ∧ chargeS ⟨p, b, b - c, e, n, false, false, sh⟩ = ⟨p, b, b - (c + 1), e, n, false, false, sh⟩ := by
  have h0 : ¬ b - c = 0 := by omega
  constructor
  · unfold chargeE; simp [h0]
  · unfold chargeS; simp [h0]; omega

set_option maxRecDepth 100000 in
set_option maxHeartbeats 8000000 in
theorem purseExact_core (w : World) (a0 : Int) (h0 : -9223372036854775808 ≤ a0 ∧ a0 ≤ 9223372036854775807) (a1 : Int) (h1 : -9223372036854775808 ≤ a1 ∧ a1 ≤ 9223372036854775807) (A2 : Option Addr) (n2 c2 : Nat) (Z2 : Nat → Nat → Value) (m2 : n2 ≤ maxLen) (r2 : Rd w A2 n2 [.bool] Z2) :
    Calls Try.prog 7 #[.int .i64 a0, .int .i64 a1, .slice A2 n2 c2] w (Holds w) := by
  have hm : (n2 : Int) ≤ 9223372036854775807 := by simp [maxLen] at m2; omega
  have hn0 : (0 : Int) ≤ n2 := by omega
  have R2 := Lib.hid r2
  clear r2 m2
  have p0 := Int.emod_nonneg a0 (b := 64) (by decide)
  have p1 := Int.emod_lt_of_pos a0 (b := 64) (by decide)
  obtain ⟨P, hP⟩ : ∃ P, 1 + a0 % 64 = P := ⟨_, rfl⟩
  have b0 := Int.emod_nonneg a1 (b := P) (by omega)
  have b1 := Int.emod_lt_of_pos a1 (b := P) (by omega)
  obtain ⟨B, hB⟩ : ∃ B, 1 + a1 % P = B := ⟨_, rfl⟩
  have hPB : OkP P B := ⟨by omega, by omega, by omega, by omega⟩
  have hP1 : 1 ≤ P := by omega
  have hP2 : P ≤ 64 := by omega
  have hB1 : 1 ≤ B := by omega
  have hB2 : B ≤ P := by omega
  have wP : IntKind.i64.wrap (1 + a0 % 64) = P := by rw [IntWalk.i64_in _ (by omega)]; exact hP
  have wB : IntKind.i64.wrap (1 + a1 % P) = B := by rw [IntWalk.i64_in _ (by omega)]; exact hB
  have hne : newE P B 0 = 0 := by unfold newE; rw [if_pos ⟨hPB, by decide⟩]; rfl
  have HNE := Lib.hid hne
  have HPB := Lib.hid hPB
  have T1 := Lib.hid True.intro
  clear hne hPB hP hB
  go_enter Try.func7, Try.ntmps7
  go_wp2_with (first
    | (go_at_call 26; refine (purse_works _).mono ?_; rintro r x0 ⟨rfl, hb⟩; have HW := Lib.hid hb; clear hb)
    | (go_at_call 22; first
        | (have _tk := T1; refine (bring_any a0 64 _ h0 (by omega)).mono ?_; rintro r x1 ⟨rfl, -, rfl⟩; clear T1 _tk)
        | (refine (bring_any a1 P _ h1 (by omega)).mono ?_; rintro r x1 ⟨rfl, -, rfl⟩))
    | (go_at_call 27; refine (new_to (p := P) (b := B) (t := 0) ⟨by omega, by omega⟩ ⟨by decide, by decide⟩ HNE.out).mono ?_; rintro r x1 ⟨⟨g, rfl, hg, hp⟩, hb⟩; have HG := Lib.hid (Nat.le_trans HW.out.size hg); have HW := Lib.hid (HW.out.trans (hb.mono HW.out.size)); have H := Lib.hid hp; clear hg hp hb))
  clear wP wB p0 p1 b0 b1
  go_loopw [1, 9, 10, 11, 12] (fun vb vc vs ve i wr => ∃ (k : Nat) (p b c e sh : Int) (n : Option (Int × Int)), k ≤ n2 ∧ k ≤ 400 ∧ i = .int .i64 k ∧ vb = .int .i64 b ∧ vc = .int .i64 c ∧ vs = .int .i64 sh ∧ ve = .int .i64 e ∧ Hid (ExI k p b c e sh n) ∧ Hid (PrP wr g ⟨p, b, b - c, e, n, false, false, sh⟩ ∧ Below w.heap.size w wr)) (fun _ _ _ _ i _ => 400 - (intOf i).toNat)
  case atStart =>
    refine ⟨0, P, B, 0, P, 0, none, by omega, by omega, rfl, rfl, rfl, rfl, rfl, ?_, ?_, HW.out⟩
    · exact ⟨HPB.out, ⟨by omega, by omega⟩, ⟨by omega, by omega⟩, ⟨by decide, by decide⟩, (fun q hq => by cases hq), fun _ => rfl⟩
    · have := H.out
      unfold newS at this
      simpa using this
  case round =>
    obtain ⟨k, p, b, c, e, sh, n, hk, hk2, rfl, rfl, rfl, rfl, rfl, HI, HJ⟩ := hrel
    clear H HW
    by_cases hc : k < n2 ∧ k < 400
    · obtain ⟨bb, off, rfl, hlt, hz⟩ := R2.out k hc.1
      obtain ⟨hz0, z, hzz⟩ := hz 0 _ rfl
      rw [hzz] at hz0
      simp [← Nat.add_assoc] at hz0
      have HZ := Lib.hid (fun x (hx : Below w.heap.size w x) => (hx.cell (p := ⟨bb, _, none⟩) hlt).trans hz0)
      have hk1 := hc.1
      have hk3 := hc.2
      have hkk : (k : Int) < 400 := by omega
      clear hz hz0 hzz
      obtain ⟨o1, o2, o3, o4⟩ := HI.out.ok
      obtain ⟨l1, l2⟩ := HI.out.hl
      obtain ⟨e1, e2⟩ := HI.out.he
      obtain ⟨s1, s2⟩ := HI.out.hs
      have HPK := Lib.hid (HI.out.pk hk2)
      have wq : IntKind.i64.wrap (P * 7) = P * 7 := IntWalk.i64_in _ (by omega)
      have q0 := Int.emod_nonneg (P * 7) (b := 64) (by decide)
      have q1 := Int.emod_lt_of_pos (P * 7) (b := 64) (by decide)
      obtain ⟨Q, hQ⟩ : ∃ Q, 1 + P * 7 % 64 = Q := ⟨_, rfl⟩
      have HQ : Hid (OkP Q 1) := ⟨by omega, by omega, by omega, by omega⟩
      have wQ : IntKind.i64.wrap (1 + P * 7 % 64) = Q := by rw [IntWalk.i64_in _ (by omega)]; exact hQ
      clear hQ
      by_cases hek : e = k
      · obtain ⟨p1, b1, ht, hok⟩ := HI.out.turn hek
        have HT := Lib.hid ht
        have HO1 := Lib.hid hok
        have HP1 := Lib.hid hok.1
        obtain ⟨v1, v2, v3, v4⟩ := hok
        have HL1 : Hid (0 ≤ b1 - 0 ∧ b1 - 0 ≤ 64) := ⟨by omega, by omega⟩
        have HC := Lib.hid (charge_yes (p := p1) (b := b1) (c := 0) (e := k + p1) (sh := sh + b - c) (n := none) (by omega))
        have wS : IntKind.i64.wrap (sh + b) = sh + b := IntWalk.i64_in _ (by omega)
        have wS2 : IntKind.i64.wrap (sh + b - c) = sh + b - c := IntWalk.i64_in _ (by omega)
        have wE : IntKind.i64.wrap (k + p1) = k + p1 := IntWalk.i64_in _ (by omega)
        have dE : ((k : Int) == e) = true := by simp [hek]
        have dc : decide ((0 : Int) < b1) = true := by simp; omega
        clear ht
        by_cases h37 : k = 37
        · have d37 : ((k : Int) == 37) = true := by simp [h37]
          have H37 := Lib.hid h37
          clear h37
          have HC := Lib.hid (charge_yes (p := p1) (b := b1) (c := 0) (e := k + p1) (sh := sh + b - c) (n := some (Q, 1)) (by omega))
          cases z with
          | false =>
            have H := Lib.hid HJ.out.1
            have HW := Lib.hid HJ.out.2
            clear HJ
            go_wp2_with (first
              | (go_at_call 28; refine (turn_to _ _ _ H.out HPK.out HT.out).mono ?_; rintro r y1 ⟨rfl, hp, hu⟩; have HW := Lib.hid (below_one HW.out HG.out hu); have H := Lib.hid hp; have hzz := HZ.out _ HW.out; clear hp hu)
              | (go_at_call 29; refine (is_any H.out (by exact HP1.out)).mono ?_; rintro r y1 ⟨rfl, hb⟩; have HW := Lib.hid (HW.out.trans (hb.mono HW.out.size)); have H := Lib.hid (H.out.below hb); have hzz := HZ.out _ HW.out; clear hb)
              | (go_at_call 22; refine (bring_any (P * 7) 64 _ ⟨by omega, by omega⟩ ⟨by decide, by decide⟩).mono ?_; rintro r y1 ⟨rfl, -, rfl⟩)
              | (go_at_call 30; refine (change_to 0 _ H.out (by exact HP1.out) (change37 HQ.out)).mono ?_; rintro r y1 ⟨rfl, hp, hu⟩; have HW := Lib.hid (below_two HW.out HG.out hu); have H := Lib.hid hp; have hzz := HZ.out _ HW.out; clear hp hu)
              | (go_at_call 32; refine (left_any H.out (by exact HP1.out)).mono ?_; rintro r y1 ⟨rfl, rfl⟩)
              | (go_at_call 34; refine (ends_any H.out (by exact HP1.out)).mono ?_; rintro r y1 ⟨rfl, rfl⟩)
              | (go_at_call 33; refine (short_any H.out (by exact HP1.out)).mono ?_; rintro r y1 ⟨rfl, rfl⟩))
            refine ⟨⟨k + 1, p1, b1, 0, (k + p1), (sh + b - c), (some (Q, 1)), by omega, by omega, by go_num, rfl, by first | rfl | go_num, by first | rfl | go_num, by first | rfl | go_num, ?_, H.out, HW.out⟩, by simp [intOf]; omega⟩
            exact ⟨HO1.out, ⟨by omega, by omega⟩, ⟨by omega, by omega⟩, ⟨by omega, by omega⟩, (fun q hq => by cases hq; exact HQ.out), fun h => absurd h (by have := H37.out; omega)⟩
          | true =>
            have H := Lib.hid HJ.out.1
            have HW := Lib.hid HJ.out.2
            clear HJ
            go_wp2_with (first
              | (go_at_call 28; refine (turn_to _ _ _ H.out HPK.out HT.out).mono ?_; rintro r y1 ⟨rfl, hp, hu⟩; have HW := Lib.hid (below_one HW.out HG.out hu); have H := Lib.hid hp; have hzz := HZ.out _ HW.out; clear hp hu)
              | (go_at_call 29; refine (is_any H.out (by exact HP1.out)).mono ?_; rintro r y1 ⟨rfl, hb⟩; have HW := Lib.hid (HW.out.trans (hb.mono HW.out.size)); have H := Lib.hid (H.out.below hb); have hzz := HZ.out _ HW.out; clear hb)
              | (go_at_call 22; refine (bring_any (P * 7) 64 _ ⟨by omega, by omega⟩ ⟨by decide, by decide⟩).mono ?_; rintro r y1 ⟨rfl, -, rfl⟩)
              | (go_at_call 30; refine (change_to 0 _ H.out (by exact HP1.out) (change37 HQ.out)).mono ?_; rintro r y1 ⟨rfl, hp, hu⟩; have HW := Lib.hid (below_two HW.out HG.out hu); have H := Lib.hid hp; have hzz := HZ.out _ HW.out; clear hp hu)
              | (go_at_call 31; refine (charge_to _ _ H.out (by exact HP1.out) (by exact HL1.out) HC.out).mono ?_; rintro r y1 ⟨rfl, hp, hu⟩; have HW := Lib.hid (below_one HW.out HG.out hu); have H := Lib.hid hp; clear hp hu)
              | (go_at_call 32; refine (left_any H.out (by exact HP1.out)).mono ?_; rintro r y1 ⟨rfl, rfl⟩)
              | (go_at_call 34; refine (ends_any H.out (by exact HP1.out)).mono ?_; rintro r y1 ⟨rfl, rfl⟩)
              | (go_at_call 33; refine (short_any H.out (by exact HP1.out)).mono ?_; rintro r y1 ⟨rfl, rfl⟩))
            refine ⟨⟨k + 1, p1, b1, (0 + 1), (k + p1), (sh + b - c), (some (Q, 1)), by omega, by omega, by go_num, rfl, by first | rfl | go_num, by first | rfl | go_num, by first | rfl | go_num, ?_, H.out, HW.out⟩, by simp [intOf]; omega⟩
            exact ⟨HO1.out, ⟨by omega, by omega⟩, ⟨by omega, by omega⟩, ⟨by omega, by omega⟩, (fun q hq => by cases hq; exact HQ.out), fun h => absurd h (by have := H37.out; omega)⟩
        · have d37 : ((k : Int) == 37) = false := by simp; omega
          cases z with
          | false =>
            have H := Lib.hid HJ.out.1
            have HW := Lib.hid HJ.out.2
            clear HJ
            go_wp2_with (first
              | (go_at_call 28; refine (turn_to _ _ _ H.out HPK.out HT.out).mono ?_; rintro r y1 ⟨rfl, hp, hu⟩; have HW := Lib.hid (below_one HW.out HG.out hu); have H := Lib.hid hp; have hzz := HZ.out _ HW.out; clear hp hu)
              | (go_at_call 29; refine (is_any H.out (by exact HP1.out)).mono ?_; rintro r y1 ⟨rfl, hb⟩; have HW := Lib.hid (HW.out.trans (hb.mono HW.out.size)); have H := Lib.hid (H.out.below hb); have hzz := HZ.out _ HW.out; clear hb)
              | (go_at_call 32; refine (left_any H.out (by exact HP1.out)).mono ?_; rintro r y1 ⟨rfl, rfl⟩)
              | (go_at_call 34; refine (ends_any H.out (by exact HP1.out)).mono ?_; rintro r y1 ⟨rfl, rfl⟩)
              | (go_at_call 33; refine (short_any H.out (by exact HP1.out)).mono ?_; rintro r y1 ⟨rfl, rfl⟩))
            refine ⟨⟨k + 1, p1, b1, 0, (k + p1), (sh + b - c), none, by omega, by omega, by go_num, rfl, by first | rfl | go_num, by first | rfl | go_num, by first | rfl | go_num, ?_, H.out, HW.out⟩, by simp [intOf]; omega⟩
            exact ⟨HO1.out, ⟨by omega, by omega⟩, ⟨by omega, by omega⟩, ⟨by omega, by omega⟩, (fun q hq => by cases hq), fun _ => rfl⟩
          | true =>
            have H := Lib.hid HJ.out.1
            have HW := Lib.hid HJ.out.2
            clear HJ
            go_wp2_with (first
              | (go_at_call 28; refine (turn_to _ _ _ H.out HPK.out HT.out).mono ?_; rintro r y1 ⟨rfl, hp, hu⟩; have HW := Lib.hid (below_one HW.out HG.out hu); have H := Lib.hid hp; have hzz := HZ.out _ HW.out; clear hp hu)
              | (go_at_call 29; refine (is_any H.out (by exact HP1.out)).mono ?_; rintro r y1 ⟨rfl, hb⟩; have HW := Lib.hid (HW.out.trans (hb.mono HW.out.size)); have H := Lib.hid (H.out.below hb); have hzz := HZ.out _ HW.out; clear hb)
              | (go_at_call 31; refine (charge_to _ _ H.out (by exact HP1.out) (by exact HL1.out) HC.out).mono ?_; rintro r y1 ⟨rfl, hp, hu⟩; have HW := Lib.hid (below_one HW.out HG.out hu); have H := Lib.hid hp; clear hp hu)
              | (go_at_call 32; refine (left_any H.out (by exact HP1.out)).mono ?_; rintro r y1 ⟨rfl, rfl⟩)
              | (go_at_call 34; refine (ends_any H.out (by exact HP1.out)).mono ?_; rintro r y1 ⟨rfl, rfl⟩)
              | (go_at_call 33; refine (short_any H.out (by exact HP1.out)).mono ?_; rintro r y1 ⟨rfl, rfl⟩))
            refine ⟨⟨k + 1, p1, b1, (0 + 1), (k + p1), (sh + b - c), none, by omega, by omega, by go_num, rfl, by first | rfl | go_num, by first | rfl | go_num, by first | rfl | go_num, ?_, H.out, HW.out⟩, by simp [intOf]; omega⟩
            exact ⟨HO1.out, ⟨by omega, by omega⟩, ⟨by omega, by omega⟩, ⟨by omega, by omega⟩, (fun q hq => by cases hq), fun _ => rfl⟩
      · have HT := Lib.hid (turn_stay (p := p) (b := b) (c := b - c) (n := n) (sh := sh) (show (k : Int) < e by omega))
        have HO1 := Lib.hid HI.out.ok
        have HP1 := Lib.hid o1
        have HL1 : Hid (0 ≤ b - c ∧ b - c ≤ 64) := ⟨by omega, by omega⟩
        have dE : ((k : Int) == e) = false := by simp; omega
        by_cases h37 : k = 37
        · have hn := HI.out.hn0 (by omega)
          subst hn
          have d37 : ((k : Int) == 37) = true := by simp [h37]
          have H37 := Lib.hid h37
          clear h37
          cases z with
          | false =>
            have H := Lib.hid HJ.out.1
            have HW := Lib.hid HJ.out.2
            clear HJ
            go_wp2_with (first
              | (go_at_call 28; refine (turn_to _ _ _ H.out HPK.out HT.out).mono ?_; rintro r y1 ⟨rfl, hp, hu⟩; have HW := Lib.hid (below_one HW.out HG.out hu); have H := Lib.hid hp; have hzz := HZ.out _ HW.out; clear hp hu)
              | (go_at_call 29; refine (is_any H.out (by exact HP1.out)).mono ?_; rintro r y1 ⟨rfl, hb⟩; have HW := Lib.hid (HW.out.trans (hb.mono HW.out.size)); have H := Lib.hid (H.out.below hb); have hzz := HZ.out _ HW.out; clear hb)
              | (go_at_call 22; refine (bring_any (P * 7) 64 _ ⟨by omega, by omega⟩ ⟨by decide, by decide⟩).mono ?_; rintro r y1 ⟨rfl, -, rfl⟩)
              | (go_at_call 30; refine (change_to 0 _ H.out (by exact HP1.out) (change37 HQ.out)).mono ?_; rintro r y1 ⟨rfl, hp, hu⟩; have HW := Lib.hid (below_two HW.out HG.out hu); have H := Lib.hid hp; have hzz := HZ.out _ HW.out; clear hp hu)
              | (go_at_call 32; refine (left_any H.out (by exact HP1.out)).mono ?_; rintro r y1 ⟨rfl, rfl⟩)
              | (go_at_call 34; refine (ends_any H.out (by exact HP1.out)).mono ?_; rintro r y1 ⟨rfl, rfl⟩)
              | (go_at_call 33; refine (short_any H.out (by exact HP1.out)).mono ?_; rintro r y1 ⟨rfl, rfl⟩))
            refine ⟨⟨k + 1, p, b, c, (e), (sh), (some (Q, 1)), by omega, by omega, by go_num, rfl, by first | rfl | go_num, by first | rfl | go_num, by first | rfl | go_num, ?_, H.out, HW.out⟩, by simp [intOf]; omega⟩
            exact ⟨HO1.out, ⟨by omega, by omega⟩, ⟨by omega, by omega⟩, ⟨by omega, by omega⟩, (fun q hq => by cases hq; exact HQ.out), fun h => absurd h (by have := H37.out; omega)⟩
          | true =>
            by_cases hcb : c < b
            · have dc : decide (c < b) = true := by simp [hcb]
              have HC := Lib.hid (charge_yes (p := p) (b := b) (c := c) (e := e) (sh := sh) (n := some (Q, 1)) hcb)
              have H := Lib.hid HJ.out.1
              have HW := Lib.hid HJ.out.2
              clear HJ
              go_wp2_with (first
                | (go_at_call 28; refine (turn_to _ _ _ H.out HPK.out HT.out).mono ?_; rintro r y1 ⟨rfl, hp, hu⟩; have HW := Lib.hid (below_one HW.out HG.out hu); have H := Lib.hid hp; have hzz := HZ.out _ HW.out; clear hp hu)
                | (go_at_call 29; refine (is_any H.out (by exact HP1.out)).mono ?_; rintro r y1 ⟨rfl, hb⟩; have HW := Lib.hid (HW.out.trans (hb.mono HW.out.size)); have H := Lib.hid (H.out.below hb); have hzz := HZ.out _ HW.out; clear hb)
                | (go_at_call 22; refine (bring_any (P * 7) 64 _ ⟨by omega, by omega⟩ ⟨by decide, by decide⟩).mono ?_; rintro r y1 ⟨rfl, -, rfl⟩)
                | (go_at_call 30; refine (change_to 0 _ H.out (by exact HP1.out) (change37 HQ.out)).mono ?_; rintro r y1 ⟨rfl, hp, hu⟩; have HW := Lib.hid (below_two HW.out HG.out hu); have H := Lib.hid hp; have hzz := HZ.out _ HW.out; clear hp hu)
                | (go_at_call 31; refine (charge_to _ _ H.out (by exact HP1.out) (by exact HL1.out) HC.out).mono ?_; rintro r y1 ⟨rfl, hp, hu⟩; have HW := Lib.hid (below_one HW.out HG.out hu); have H := Lib.hid hp; clear hp hu)
                | (go_at_call 32; refine (left_any H.out (by exact HP1.out)).mono ?_; rintro r y1 ⟨rfl, rfl⟩)
                | (go_at_call 34; refine (ends_any H.out (by exact HP1.out)).mono ?_; rintro r y1 ⟨rfl, rfl⟩)
                | (go_at_call 33; refine (short_any H.out (by exact HP1.out)).mono ?_; rintro r y1 ⟨rfl, rfl⟩))
              refine ⟨⟨k + 1, p, b, (c + 1), (e), (sh), (some (Q, 1)), by omega, by omega, by go_num, rfl, by first | rfl | go_num, by first | rfl | go_num, by first | rfl | go_num, ?_, H.out, HW.out⟩, by simp [intOf]; omega⟩
              exact ⟨HO1.out, ⟨by omega, by omega⟩, ⟨by omega, by omega⟩, ⟨by omega, by omega⟩, (fun q hq => by cases hq; exact HQ.out), fun h => absurd h (by have := H37.out; omega)⟩
            · have dc : decide (c < b) = false := by simp; omega
              have HC := Lib.hid (charge_no (p := p) (b := b) (c := c) (e := e) (sh := sh) (n := some (Q, 1)) hcb l2)
              have H := Lib.hid HJ.out.1
              have HW := Lib.hid HJ.out.2
              clear HJ
              go_wp2_with (first
                | (go_at_call 28; refine (turn_to _ _ _ H.out HPK.out HT.out).mono ?_; rintro r y1 ⟨rfl, hp, hu⟩; have HW := Lib.hid (below_one HW.out HG.out hu); have H := Lib.hid hp; have hzz := HZ.out _ HW.out; clear hp hu)
                | (go_at_call 29; refine (is_any H.out (by exact HP1.out)).mono ?_; rintro r y1 ⟨rfl, hb⟩; have HW := Lib.hid (HW.out.trans (hb.mono HW.out.size)); have H := Lib.hid (H.out.below hb); have hzz := HZ.out _ HW.out; clear hb)
                | (go_at_call 22; refine (bring_any (P * 7) 64 _ ⟨by omega, by omega⟩ ⟨by decide, by decide⟩).mono ?_; rintro r y1 ⟨rfl, -, rfl⟩)
                | (go_at_call 30; refine (change_to 0 _ H.out (by exact HP1.out) (change37 HQ.out)).mono ?_; rintro r y1 ⟨rfl, hp, hu⟩; have HW := Lib.hid (below_two HW.out HG.out hu); have H := Lib.hid hp; have hzz := HZ.out _ HW.out; clear hp hu)
                | (go_at_call 31; refine (charge_to _ _ H.out (by exact HP1.out) (by exact HL1.out) HC.out).mono ?_; rintro r y1 ⟨rfl, hp, hu⟩; have HW := Lib.hid (below_one HW.out HG.out hu); have H := Lib.hid hp; clear hp hu)
                | (go_at_call 32; refine (left_any H.out (by exact HP1.out)).mono ?_; rintro r y1 ⟨rfl, rfl⟩)
                | (go_at_call 34; refine (ends_any H.out (by exact HP1.out)).mono ?_; rintro r y1 ⟨rfl, rfl⟩)
                | (go_at_call 33; refine (short_any H.out (by exact HP1.out)).mono ?_; rintro r y1 ⟨rfl, rfl⟩))
              refine ⟨⟨k + 1, p, b, c, (e), (sh), (some (Q, 1)), by omega, by omega, by go_num, rfl, by first | rfl | go_num, by first | rfl | go_num, by first | rfl | go_num, ?_, H.out, HW.out⟩, by simp [intOf]; omega⟩
              exact ⟨HO1.out, ⟨by omega, by omega⟩, ⟨by omega, by omega⟩, ⟨by omega, by omega⟩, (fun q hq => by cases hq; exact HQ.out), fun h => absurd h (by have := H37.out; omega)⟩
        · have d37 : ((k : Int) == 37) = false := by simp; omega
          cases z with
          | false =>
            have H := Lib.hid HJ.out.1
            have HW := Lib.hid HJ.out.2
            clear HJ
            go_wp2_with (first
              | (go_at_call 28; refine (turn_to _ _ _ H.out HPK.out HT.out).mono ?_; rintro r y1 ⟨rfl, hp, hu⟩; have HW := Lib.hid (below_one HW.out HG.out hu); have H := Lib.hid hp; have hzz := HZ.out _ HW.out; clear hp hu)
              | (go_at_call 29; refine (is_any H.out (by exact HP1.out)).mono ?_; rintro r y1 ⟨rfl, hb⟩; have HW := Lib.hid (HW.out.trans (hb.mono HW.out.size)); have H := Lib.hid (H.out.below hb); have hzz := HZ.out _ HW.out; clear hb)
              | (go_at_call 32; refine (left_any H.out (by exact HP1.out)).mono ?_; rintro r y1 ⟨rfl, rfl⟩)
              | (go_at_call 34; refine (ends_any H.out (by exact HP1.out)).mono ?_; rintro r y1 ⟨rfl, rfl⟩)
              | (go_at_call 33; refine (short_any H.out (by exact HP1.out)).mono ?_; rintro r y1 ⟨rfl, rfl⟩))
            refine ⟨⟨k + 1, p, b, c, (e), (sh), n, by omega, by omega, by go_num, rfl, by first | rfl | go_num, by first | rfl | go_num, by first | rfl | go_num, ?_, H.out, HW.out⟩, by simp [intOf]; omega⟩
            exact ⟨HO1.out, ⟨by omega, by omega⟩, ⟨by omega, by omega⟩, ⟨by omega, by omega⟩, (HI.out.hn), fun h => HI.out.hn0 (by omega)⟩
          | true =>
            by_cases hcb : c < b
            · have dc : decide (c < b) = true := by simp [hcb]
              have HC := Lib.hid (charge_yes (p := p) (b := b) (c := c) (e := e) (sh := sh) (n := n) hcb)
              have H := Lib.hid HJ.out.1
              have HW := Lib.hid HJ.out.2
              clear HJ
              go_wp2_with (first
                | (go_at_call 28; refine (turn_to _ _ _ H.out HPK.out HT.out).mono ?_; rintro r y1 ⟨rfl, hp, hu⟩; have HW := Lib.hid (below_one HW.out HG.out hu); have H := Lib.hid hp; have hzz := HZ.out _ HW.out; clear hp hu)
                | (go_at_call 29; refine (is_any H.out (by exact HP1.out)).mono ?_; rintro r y1 ⟨rfl, hb⟩; have HW := Lib.hid (HW.out.trans (hb.mono HW.out.size)); have H := Lib.hid (H.out.below hb); have hzz := HZ.out _ HW.out; clear hb)
                | (go_at_call 31; refine (charge_to _ _ H.out (by exact HP1.out) (by exact HL1.out) HC.out).mono ?_; rintro r y1 ⟨rfl, hp, hu⟩; have HW := Lib.hid (below_one HW.out HG.out hu); have H := Lib.hid hp; clear hp hu)
                | (go_at_call 32; refine (left_any H.out (by exact HP1.out)).mono ?_; rintro r y1 ⟨rfl, rfl⟩)
                | (go_at_call 34; refine (ends_any H.out (by exact HP1.out)).mono ?_; rintro r y1 ⟨rfl, rfl⟩)
                | (go_at_call 33; refine (short_any H.out (by exact HP1.out)).mono ?_; rintro r y1 ⟨rfl, rfl⟩))
              refine ⟨⟨k + 1, p, b, (c + 1), (e), (sh), n, by omega, by omega, by go_num, rfl, by first | rfl | go_num, by first | rfl | go_num, by first | rfl | go_num, ?_, H.out, HW.out⟩, by simp [intOf]; omega⟩
              exact ⟨HO1.out, ⟨by omega, by omega⟩, ⟨by omega, by omega⟩, ⟨by omega, by omega⟩, (HI.out.hn), fun h => HI.out.hn0 (by omega)⟩
            · have dc : decide (c < b) = false := by simp; omega
              have HC := Lib.hid (charge_no (p := p) (b := b) (c := c) (e := e) (sh := sh) (n := n) hcb l2)
              have H := Lib.hid HJ.out.1
              have HW := Lib.hid HJ.out.2
              clear HJ
              go_wp2_with (first
                | (go_at_call 28; refine (turn_to _ _ _ H.out HPK.out HT.out).mono ?_; rintro r y1 ⟨rfl, hp, hu⟩; have HW := Lib.hid (below_one HW.out HG.out hu); have H := Lib.hid hp; have hzz := HZ.out _ HW.out; clear hp hu)
                | (go_at_call 29; refine (is_any H.out (by exact HP1.out)).mono ?_; rintro r y1 ⟨rfl, hb⟩; have HW := Lib.hid (HW.out.trans (hb.mono HW.out.size)); have H := Lib.hid (H.out.below hb); have hzz := HZ.out _ HW.out; clear hb)
                | (go_at_call 31; refine (charge_to _ _ H.out (by exact HP1.out) (by exact HL1.out) HC.out).mono ?_; rintro r y1 ⟨rfl, hp, hu⟩; have HW := Lib.hid (below_one HW.out HG.out hu); have H := Lib.hid hp; clear hp hu)
                | (go_at_call 32; refine (left_any H.out (by exact HP1.out)).mono ?_; rintro r y1 ⟨rfl, rfl⟩)
                | (go_at_call 34; refine (ends_any H.out (by exact HP1.out)).mono ?_; rintro r y1 ⟨rfl, rfl⟩)
                | (go_at_call 33; refine (short_any H.out (by exact HP1.out)).mono ?_; rintro r y1 ⟨rfl, rfl⟩))
              refine ⟨⟨k + 1, p, b, c, (e), (sh), n, by omega, by omega, by go_num, rfl, by first | rfl | go_num, by first | rfl | go_num, by first | rfl | go_num, ?_, H.out, HW.out⟩, by simp [intOf]; omega⟩
              exact ⟨HO1.out, ⟨by omega, by omega⟩, ⟨by omega, by omega⟩, ⟨by omega, by omega⟩, (HI.out.hn), fun h => HI.out.hn0 (by omega)⟩
    · have HB := Lib.hid HJ.out.2
      by_cases hk1 : k < n2
      · have hk3 : ¬ (k : Int) < 400 := by omega
        go_wp2_with fail
        go_ret
        exact ⟨rfl, HB.out⟩
      · go_wp2_with fail
        go_ret
        exact ⟨rfl, HB.out⟩
end Go.Proofs.Ytogdpkeojccpcaa
