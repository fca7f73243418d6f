/- HealthAlone: the plain law, and the walk of the law. -/
import Derived.Test.YthejgbagpnoadaaHealthSet
namespace Go.Proofs.Ythejgbagpnoadaa
set_option linter.all false
open Go.RowKit

def EqAt (P : Nat) (A B : Nat → Int) : Prop := ∀ f, f < 5 → A (P * 5 + f) = B (P * 5 + f)
theorem EqAt.refl (P : Nat) (A : Nat → Int) : EqAt P A A := fun _ _ => rfl
theorem EqAt.trans {P : Nat} {A B C : Nat → Int} (h : EqAt P A B) (h' : EqAt P B C) : EqAt P A C := fun f hf => (h f hf).trans (h' f hf)
theorem EqAt.symm {P : Nat} {A B : Nat → Int} (h : EqAt P A B) : EqAt P B A := fun f hf => (h f hf).symm
theorem EqAt.both {P : Nat} {A B : Nat → Int} (h : EqAt P A B) (k : Nat) (v : Int) : EqAt P (updF A k v) (updF B k v) := fun f hf => by
  unfold updF; split
  · rfl
  · exact h f hf
theorem EqAt.far {P p f' : Nat} (A : Nat → Int) (v : Int) (hp : p ≠ P) (hf' : f' < 5) : EqAt P (updF A (p * 5 + f') v) A := fun f hf => by
  unfold updF; rw [if_neg (by omega)]
theorem sH_both {P : Nat} {A B : Nat → Int} (h : EqAt P A B) (p f v : Int) : EqAt P (sH A p f v) (sH B p f v) := by
  unfold sH
  split
  · unfold setH
    by_cases hc : (if ((f.toNat : Nat) : Int) = 4 then (0 : Int) else 1) ≤ v ∧ v ≤ 3
    · rw [if_pos hc, if_pos hc]; exact h.both _ _
    · rw [if_neg hc, if_neg hc]; exact h
  · exact h
theorem sH_far {P : Nat} (A : Nat → Int) {p f : Int} (v : Int) (hp : p ≠ P) : EqAt P (sH A p f v) A := by
  unfold sH
  split
  · rename_i hr
    obtain ⟨h1, h2, h3, h4⟩ := hr
    unfold setH
    by_cases hc : (if ((f.toNat : Nat) : Int) = 4 then (0 : Int) else 1) ≤ v ∧ v ≤ 3
    · rw [if_pos hc]; exact EqAt.far A v (by omega) (by omega)
    · rw [if_neg hc]; exact EqAt.refl _ _
  · exact EqAt.refl _ _
theorem tT_both {P : Nat} {A B : Nat → Int} (h : EqAt P A B) (p f : Int) : EqAt P (tT A p f) (tT B p f) := by
  unfold tT
  split
  · rename_i hr
    obtain ⟨h1, h2, h3, h4⟩ := hr
    unfold tellT
    by_cases hp : p.toNat = P
    · rw [hp, h f.toNat (by omega)]
      exact h.both _ _
    · exact (EqAt.far A _ hp (by omega)).trans (h.trans (EqAt.far B _ hp (by omega)).symm)
  · exact h
theorem tT_far {P : Nat} (A : Nat → Int) {p f : Int} (hp : p ≠ P) : EqAt P (tT A p f) A := by
  unfold tT
  split
  · rename_i hr
    obtain ⟨h1, h2, h3, h4⟩ := hr
    exact EqAt.far A _ (by omega) (by omega)
  · exact EqAt.refl _ _
theorem cT_both {P : Nat} {A B : Nat → Int} (h : EqAt P A B) (p : Int) : EqAt P (cT A p) (cT B p) := by
  unfold cT
  split
  · unfold clrT
    exact ((((h.both _ _).both _ _).both _ _).both _ _).both _ _
  · exact h
theorem cT_far {P : Nat} (A : Nat → Int) {p : Int} (hp : p ≠ P) : EqAt P (cT A p) A := by
  unfold cT
  split
  · have : p.toNat ≠ P := by omega
    unfold clrT
    exact (EqAt.far _ _ this (by omega)).trans ((EqAt.far _ _ this (by omega)).trans ((EqAt.far _ _ this (by omega)).trans ((EqAt.far _ _ this (by omega)).trans (EqAt.far (f' := 0) _ _ this (by omega)))))
  · exact EqAt.refl _ _
theorem pQ_both {P : Nat} {A B : Nat → Int} (h : A P = B P) (p n : Int) : pQ A p n P = pQ B p n P := by
  unfold pQ patQ updF
  split
  · split
    · dsimp only
      split
      · rfl
      · exact h
    · exact h
  · exact h
theorem pQ_far {P : Nat} (A : Nat → Int) {p : Int} (n : Int) (hp : p ≠ P) : pQ A p n P = A P := by
  unfold pQ patQ updF
  split
  · split
    · dsimp only
      rw [if_neg (by omega)]
    · rfl
  · rfl

structure Agree (P : Nat) (s s' : HS) : Prop where
  h : EqAt P s.H s'.H
  t : EqAt P s.T s'.T
  q : s.Q P = s'.Q P

theorem agree_step {P q : Nat} {s s' : HS} (h : Agree P s s') (hPq : P ≠ q) (kind part fault n : Int) :
    Agree P (hsStep s kind part fault n (-1)) (hsStep s' kind part fault n q) := by
  have m0 := Int.emod_nonneg part (b := 4) (by decide)
  unfold hsStep
  rw [if_neg (show ¬ part % 4 = -1 by omega)]
  by_cases hq : part % 4 = q
  · have hp : part % 4 ≠ (P : Int) := by omega
    rw [if_pos hq]
    by_cases h1 : kind % 4 = 0
    · rw [if_pos h1]; exact ⟨(sH_far _ _ hp).trans h.h, h.t, h.q⟩
    · rw [if_neg h1]
      by_cases h2 : kind % 4 = 1
      · rw [if_pos h2]; exact ⟨h.h, h.t, (pQ_far _ _ hp).trans h.q⟩
      · rw [if_neg h2]
        by_cases h3 : kind % 4 = 2
        · rw [if_pos h3]; exact ⟨h.h, (tT_far _ hp).trans h.t, h.q⟩
        · rw [if_neg h3]; exact ⟨h.h, (cT_far _ hp).trans h.t, h.q⟩
  · rw [if_neg hq]
    by_cases h1 : kind % 4 = 0
    · rw [if_pos h1, if_pos h1]; exact ⟨sH_both h.h _ _ _, h.t, h.q⟩
    · rw [if_neg h1, if_neg h1]
      by_cases h2 : kind % 4 = 1
      · rw [if_pos h2, if_pos h2]; exact ⟨h.h, h.t, pQ_both h.q _ _⟩
      · rw [if_neg h2, if_neg h2]
        by_cases h3 : kind % 4 = 2
        · rw [if_pos h3, if_pos h3]; exact ⟨h.h, tT_both h.t _ _, h.q⟩
        · rw [if_neg h3, if_neg h3]; exact ⟨h.h, cT_both h.t _, h.q⟩

theorem agree_run (Z : Nat → Nat → Value) {P q : Nat} (hPq : P ≠ q) (k : Nat) : Agree P (hsRun Z (-1) k) (hsRun Z q k) := by
  induction k with
  | zero => exact ⟨EqAt.refl _ _, EqAt.refl _ _, rfl⟩
  | succ k ih => exact agree_step ih hPq _ _ _ _

theorem left_step {q : Nat} {s : HS} (h : EqAt q s.T (fun _ => 0)) (kind part fault n : Int) : EqAt q (hsStep s kind part fault n q).T (fun _ => 0) := by
  unfold hsStep
  by_cases hq : part % 4 = q
  · rw [if_pos hq]; exact h
  · rw [if_neg hq]
    by_cases h1 : kind % 4 = 0
    · rw [if_pos h1]; exact h
    · rw [if_neg h1]
      by_cases h2 : kind % 4 = 1
      · rw [if_pos h2]; exact h
      · rw [if_neg h2]
        by_cases h3 : kind % 4 = 2
        · rw [if_pos h3]; exact (tT_far _ hq).trans h
        · rw [if_neg h3]; exact (cT_far _ hq).trans h
theorem left_run (Z : Nat → Nat → Value) (q : Nat) (k : Nat) : EqAt q (hsRun Z q k).T (fun _ => 0) := by
  induction k with
  | zero => exact EqAt.refl _ _
  | succ k ih => exact left_step ih _ _ _ _

theorem tV_same {P : Nat} {H T Q H' T' Q' : Nat → Int} (hH : EqAt P H H') (hT : EqAt P T T') (hQ : Q P = Q' P) (f : Int) : tV H T Q P f = tV H' T' Q' P f := by
  unfold tV
  split
  · rename_i hr
    obtain ⟨h1, h2, h3, h4⟩ := hr
    have ht : EqAt P (tellT T P f.toNat) (tellT T' P f.toNat) := by
      unfold tellT
      rw [hT f.toNat (by omega)]
      exact hT.both _ _
    have hs : sum5 (tellT T P f.toNat) P = sum5 (tellT T' P f.toNat) P := by
      have e0 := ht 0 (by omega)
      have e1 := ht 1 (by omega)
      have e2 := ht 2 (by omega)
      have e3 := ht 3 (by omega)
      have e4 := ht 4 (by omega)
      unfold sum5
      rw [Nat.add_zero] at e0
      rw [e0, e1, e2, e3, e4]
    unfold tellV
    rw [Int.toNat_natCast, hs, hQ, hH f.toNat (by omega)]
  · rfl
theorem nT_same {P : Nat} {T T' : Nat → Int} (hT : EqAt P T T') (f : Int) : nT T P f = nT T' P f := by
  unfold nT
  split
  · rename_i hr
    obtain ⟨h1, h2, h3, h4⟩ := hr
    rw [Int.toNat_natCast]
    exact hT f.toNat (by omega)
  · rfl

theorem blk_two {w : World} {g : Nat} {t : TypeId} {x y : Value} (h : Blk w g t #[x, y]) : w.cell? ⟨g, 0, none⟩ = some x ∧ w.cell? ⟨g, 1, none⟩ = some y := ⟨by simpa using h.cell 0, by simpa using h.cell 1⟩
theorem below_box {w w' : World} {o : Obj} (h : Below (w.alloc o).heap.size (w.alloc o) w') : Below w.heap.size w w' := ((Below.refl w.heap.size w).alloc (Nat.le_refl _) o).trans (h.mono (by simp))

set_option maxRecDepth 100000 in
set_option maxHeartbeats 4000000 in
theorem healthAlone_core (w : World) (A0 : Option Addr) (n0 c0 : Nat) (Z0 : Nat → Nat → Value) (m0 : n0 ≤ maxLen) (r0 : Rd w A0 n0 [.int .i64, .int .i64, .int .i64, .int .i64] Z0) (a1_0 : Int) (h1_0 : -9223372036854775808 ≤ a1_0 ∧ a1_0 ≤ 9223372036854775807) (a1_1 : Int) (h1_1 : -9223372036854775808 ≤ a1_1 ∧ a1_1 ≤ 9223372036854775807) (a2 : Int) (h2 : -9223372036854775808 ≤ a2 ∧ a2 ≤ 9223372036854775807) :
    Calls Try.prog 4 #[.slice A0 n0 c0, .agg #[.int .i64 a1_0, .int .i64 a1_1], .int .i64 a2] w (Holds w) := by
  have R0 := Lib.hid r0
  have M0 := Lib.hid m0
  clear r0 m0
  have p0 := Int.emod_nonneg a1_0 (b := 4) (by decide)
  have p1 := Int.emod_lt_of_pos a1_0 (b := 4) (by decide)
  have p2 := Int.emod_nonneg a1_1 (b := 3) (by decide)
  have p3 := Int.emod_lt_of_pos a1_1 (b := 3) (by decide)
  have p4 := Int.emod_nonneg a2 (b := 4) (by decide)
  have p5 := Int.emod_lt_of_pos a2 (b := 4) (by decide)
  obtain ⟨P, hP⟩ : ∃ P : Nat, a1_0 % 4 = P := Int.eq_ofNat_of_zero_le p0
  obtain ⟨q, hq⟩ : ∃ q : Nat, ((P : Int) + 1 + a1_1 % 3) % 4 = q := Int.eq_ofNat_of_zero_le (Int.emod_nonneg _ (by decide))
  have hPq : P ≠ q := by omega
  have hP4 : P < 4 := by omega
  have hq4 : q < 4 := by omega
  go_enter Try.func4, Try.ntmps4
  go_wp2_with (first
    | (go_at_call 20; refine (health_works _).mono ?_; rintro r x0 ⟨rfl, hx⟩; have hb := (Blk.new w 38 #[.int .i64 a1_0, .int .i64 a1_1]).below hx (by simp); obtain ⟨s0, s1⟩ := blk_two hb; have HU := Lib.hid (below_box hx); clear hx hb)
    | (go_at_call 9; refine (bring_any _ _ _ (by assumption) (by omega)).mono ?_; rintro r x1 ⟨rfl, -, rfl⟩)
    | (go_at_call 21; first
        | (have _tk := HU; refine (set_any A0 n0 _ Z0 (-1) _ M0.out (R0.out.keep HU.out)).mono ?_; intro r xa hp; obtain ⟨rfl, hm, hb⟩ := hp; have MA := Lib.hid hm; have ga := hm.lt; have HU2 := Lib.hid (HU.out.trans (hb.mono HU.out.size)); have za := HU.out.size; clear hm hb HU _tk)
        | (refine (set_any A0 n0 _ Z0 q _ M0.out (R0.out.keep HU2.out)).mono ?_; intro r xb hp; obtain ⟨rfl, hm, hb⟩ := hp; have MB := Lib.hid hm; have gb := hm.lt; have MA2 := Lib.hid (MA.out.below' hb); have HU3 := Lib.hid (HU2.out.trans (hb.mono HU2.out.size)); clear hm hb HU2 MA)))
  have AG := Lib.hid (agree_run Z0 hPq (min n0 100))
  have LF := Lib.hid (left_run Z0 q (min n0 100))
  have GA := Lib.hid ((hsRun_good Z0 (-1) (min n0 100)).more (show ((min n0 100 : Nat) : Int) ≤ 100 by omega))
  have GB := Lib.hid ((hsRun_good Z0 q (min n0 100)).more (show ((min n0 100 : Nat) : Int) ≤ 100 by omega))
  clear s0 s1
  go_loopw [12] (fun i wr => ∃ (k : Nat) (TA TB : Nat → Int), k ≤ 25 ∧ i = .int .i64 k ∧ Hid (MonP wr x0.heap.size (hsRun Z0 (-1) (min n0 100)).H TA (hsRun Z0 (-1) (min n0 100)).Q ∧ MonP wr xa.heap.size (hsRun Z0 q (min n0 100)).H TB (hsRun Z0 q (min n0 100)).Q ∧
    Good (100 + k) TA ∧ Good (100 + k) TB ∧ EqAt P TA TB ∧ EqAt q TB (fun _ => 0) ∧ Below w.heap.size w wr)) (fun i _ => 25 - (intOf i).toNat)
  case atStart => exact ⟨0, _, _, by omega, rfl, ⟨MA2.out, MB.out, by simpa using GA.out, by simpa using GB.out, AG.out.t, LF.out, HU3.out⟩⟩
  case round =>
    obtain ⟨k, TA, TB, hk, rfl, hw⟩ := hrel
    clear MA2 MB GA GB HU3
    by_cases hc : k < 25
    · have hd : decide ((k : Int) < 25) = true := by simp; omega
      have SA := Lib.hid (hw.out.2.2.1.small (by omega))
      have SB := Lib.hid (hw.out.2.2.2.1.small (by omega))
      have V := Lib.hid (tV_same (H := (hsRun Z0 (-1) (min n0 100)).H) (Q := (hsRun Z0 (-1) (min n0 100)).Q) (H' := (hsRun Z0 q (min n0 100)).H) (Q' := (hsRun Z0 q (min n0 100)).Q) AG.out.h hw.out.2.2.2.2.1 AG.out.q (1 + a2 % 4))
      have NE := Lib.hid (tT_both hw.out.2.2.2.2.1 P (1 + a2 % 4))
      have N := Lib.hid (nT_same NE.out (1 + a2 % 4))
      go_wp2_with (first
        | (go_at_call 14; first
            | (have _tk := SA; refine (htell_any x0.heap.size _ _ _ hw.out.1 SA.out).mono ?_; rintro r y1 ⟨rfl, h1, h2⟩; rw [V.out]; have MA1 := Lib.hid h1; have MB1 := Lib.hid (hw.out.2.1.upd h2 (by omega)); have U1 := Lib.hid h2; clear h1 h2 SA _tk)
            | (refine (htell_any xa.heap.size _ _ _ MB1.out SB.out).mono ?_; rintro r y2 ⟨rfl, h1, h2⟩; have MB2 := Lib.hid h1; have MA2 := Lib.hid (MA1.out.upd h2 (by omega)); have U2 := Lib.hid h2; clear h1 h2))
        | (go_at_call 18; first
            | (have _tk := N; refine (hcount_any x0.heap.size _ _ _ MA2.out).mono ?_; rintro r y3 ⟨rfl, rfl⟩; rw [N.out]; clear N _tk)
            | (refine (hcount_any xa.heap.size _ _ _ MB2.out).mono ?_; rintro r y3 ⟨rfl, rfl⟩)))
      refine ⟨⟨k + 1, _, _, by omega, by go_num, ⟨MA2.out, MB2.out, ?_, ?_, NE.out, (tT_far _ (by omega)).trans hw.out.2.2.2.2.2.1, ?_⟩⟩, by simp [intOf]; omega⟩
      · have := hw.out.2.2.1.tell P (1 + a2 % 4)
        rwa [show (100 : Int) + k + 1 = 100 + ((k + 1 : Nat) : Int) from by omega] at this
      · have := hw.out.2.2.2.1.tell P (1 + a2 % 4)
        rwa [show (100 : Int) + k + 1 = 100 + ((k + 1 : Nat) : Int) from by omega] at this
      · exact (hw.out.2.2.2.2.2.2.trans (U1.out.below hw.out.2.2.2.2.2.2.size (fun i hi => by omega))).trans (U2.out.below (Nat.le_trans hw.out.2.2.2.2.2.2.size U1.out.size) (fun i hi => by omega))
    · have hd : decide ((k : Int) < 25) = false := by simp; omega
      go_wp2_with fail
      have HW := Lib.hid (And.intro hw.out.2.1 (And.intro hw.out.2.2.2.2.2.1 hw.out.2.2.2.2.2.2))
      clear hw
      go_loopw [17] (fun i wr => ∃ (k : Nat), 1 ≤ k ∧ k ≤ 5 ∧ i = .int .i64 k ∧ Hid (MonP wr xa.heap.size (hsRun Z0 q (min n0 100)).H TB (hsRun Z0 q (min n0 100)).Q ∧ Below w.heap.size w wr)) (fun i _ => 5 - (intOf i).toNat)
      case atStart => exact ⟨1, by omega, by omega, rfl, ⟨HW.out.1, HW.out.2.2⟩⟩
      case round =>
        obtain ⟨k, hk1, hk5, rfl, hv⟩ := hrel
        by_cases hc5 : k < 5
        · have hn : nT TB q k = 0 := by
            unfold nT
            rw [if_pos (by unfold InR; omega), Int.toNat_natCast, Int.toNat_natCast]
            exact HW.out.2.1 k (by omega)
          have N := Lib.hid hn
          clear hn
          go_wp2_with (go_at_call 18; refine (hcount_any xa.heap.size _ _ _ hv.out.1).mono ?_; rintro r y3 ⟨rfl, rfl⟩; rw [N.out])
          exact ⟨⟨k + 1, by omega, by omega, by go_num, hv⟩, by simp [intOf]; omega⟩
        · go_wp2_with fail
          go_ret
          exact ⟨rfl, hv.out.2⟩
end Go.Proofs.Ythejgbagpnoadaa
