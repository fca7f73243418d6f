/- ShareExact: the walk of the law: servers that do not pass the test, and begin at once, do not keep all. -/
import Derived.Test.YtogdpkeojccpcaaShareKeeps
namespace Go.Proofs.Ytogdpkeojccpcaa
set_option linter.all false
open Go.RowKit

/-- A row of servers that may be written. -/
def PB (w : World) (g N : Nat) (P B : Nat → Int) : Prop :=
  ∃ cur, Blk w g 36 cur ∧ ∀ i, i < N → cur[i * 3]? = some (.int .i64 (P i)) ∧ cur[i * 3 + 1]? = some (.int .i64 (B i)) ∧ ∃ A n c, cur[i * 3 + 2]? = some (.slice A n c)

theorem PB.cells {w : World} {g N i : Nat} {P B : Nat → Int} (h : PB w g N P B) (hi : i < N) : w.cell? ⟨g, i * 3, none⟩ = some (.int .i64 (P i)) ∧ w.cell? ⟨g, i * 3 + 1, none⟩ = some (.int .i64 (B i)) := by
  obtain ⟨cur, hb, hc⟩ := h
  obtain ⟨h1, h2, _⟩ := hc i hi
  exact ⟨by rw [hb.cell]; exact h1, by rw [hb.cell]; exact h2⟩
theorem PB.frozen {w : World} {g N : Nat} {P B : Nat → Int} (h : PB w g N P B) (j : Nat) : w.frozen? ⟨g, j, none⟩ = false := by
  obtain ⟨cur, hb, _⟩ := h
  exact hb.frozen j
theorem PB.lt {w : World} {g N : Nat} {P B : Nat → Int} (h : PB w g N P B) : g < w.heap.size := by
  obtain ⟨cur, hb, _⟩ := h
  exact hb.lt
theorem PB.setP {w : World} {g N k : Nat} {P B : Nat → Int} (h : PB w g N P B) (v : Int) : PB (w.setCell ⟨g, k * 3, none⟩ (.int .i64 v)) g N (upd P k v) B := by
  obtain ⟨cur, hb, hc⟩ := h
  refine ⟨_, hb.set_ _ _, fun i hi => ?_⟩
  obtain ⟨h1, h2, A, n, c, h3⟩ := hc i hi
  have hs : i * 3 < cur.size := by
    rcases Nat.lt_or_ge (i * 3) cur.size with h | h
    · exact h
    · rw [Array.getElem?_eq_none h] at h1; cases h1
  refine ⟨?_, ?_, A, n, c, ?_⟩
  · rw [Array.getElem?_setIfInBounds]
    by_cases hik : i = k
    · subst hik; rw [if_pos rfl, if_pos hs, upd_at]
    · rw [if_neg (by omega), upd_ne hik]; exact h1
  · rw [Array.getElem?_setIfInBounds, if_neg (by omega)]; exact h2
  · rw [Array.getElem?_setIfInBounds, if_neg (by omega)]; exact h3
theorem PB.setB {w : World} {g N k : Nat} {P B : Nat → Int} (h : PB w g N P B) (v : Int) : PB (w.setCell ⟨g, k * 3 + 1, none⟩ (.int .i64 v)) g N P (upd B k v) := by
  obtain ⟨cur, hb, hc⟩ := h
  refine ⟨_, hb.set_ _ _, fun i hi => ?_⟩
  obtain ⟨h1, h2, A, n, c, h3⟩ := hc i hi
  have hs : i * 3 + 1 < cur.size := by
    rcases Nat.lt_or_ge (i * 3 + 1) cur.size with h | h
    · exact h
    · rw [Array.getElem?_eq_none h] at h2; cases h2
  refine ⟨?_, ?_, A, n, c, ?_⟩
  · rw [Array.getElem?_setIfInBounds, if_neg (by omega)]; exact h1
  · rw [Array.getElem?_setIfInBounds]
    by_cases hik : i = k
    · subst hik; rw [if_pos rfl, if_pos hs, upd_at]
    · rw [if_neg (by omega), upd_ne hik]; exact h2
  · rw [Array.getElem?_setIfInBounds, if_neg (by omega)]; exact h3
theorem PB.drew {w : World} {g N : Nat} {P B : Nat → Int} (h : PB w g N P B) : PB w.drew g N P B := h
theorem PB.pts {w : World} {g N : Nat} {P B : Nat → Int} (h : PB w g N P B) (hI : ∀ i, i < N → I64 (P i) ∧ I64 (B i)) (hN : N ≤ maxLen) : Pts w (some ⟨g, 0, none⟩) N P B := by
  obtain ⟨cur, hb, hc⟩ := h
  refine ⟨⟨fun i j => (cur[i * 3 + j]?).getD (.bool false), fun i hi => ⟨g, 0, rfl, hb.lt, fun j l hj => ?_⟩, fun i hi => ?_⟩, hN⟩
  · obtain ⟨h1, h2, A, n, c, h3⟩ := hc i hi
    obtain ⟨i1, i2⟩ := hI i hi
    have hj2 : j < 3 := by
      rcases Nat.lt_or_ge j 3 with h3 | h3
      · exact h3
      · rw [List.getElem?_eq_none (by simpa using h3)] at hj; cases hj
    have e : ∀ j, (0 + (i * [Leaf.int .i64, Leaf.int .i64, Leaf.any].length + j)) = i * 3 + j := fun j => by simp
    rw [e, hb.cell]
    show cur[i * 3 + j]? = some ((cur[i * 3 + j]?).getD (.bool false)) ∧ l.fits ((cur[i * 3 + j]?).getD (.bool false))
    match j, hj2, hj with
    | 0, _, hj => cases hj; rw [Nat.add_zero, h1]; exact ⟨rfl, Leaf.int_ok i1⟩
    | 1, _, hj => cases hj; rw [h2]; exact ⟨rfl, Leaf.int_ok i2⟩
    | 2, _, hj => cases hj; rw [h3]; exact ⟨rfl, A, n, c, rfl⟩
  · obtain ⟨h1, h2, _⟩ := hc i hi
    show (cur[i * 3 + 0]?).getD _ = _ ∧ (cur[i * 3 + 1]?).getD _ = _
    rw [Nat.add_zero, h1, h2]
    exact ⟨rfl, rfl⟩
theorem pb_own {w : World} {base n : Nat} {v : Value} {P B : Nat → Int} (h : w.ownsRow base 36 3 v n (ptC P B n)) (hn : 1 ≤ n) : ∃ g c, v = .slice (some ⟨g, 0, none⟩) n c ∧ base ≤ g ∧ PB w g n P B := by
  obtain ⟨hl, h2⟩ := h
  rcases h2 with ⟨_, h0⟩ | ⟨g, cap, cur, hv, hg, hb, hcap, _, hsz, htk⟩
  · omega
  · refine ⟨g, cap, hv, hg, cur, hb, fun i hi => ?_⟩
    have key : ∀ j, j < n * 3 → cur[j]? = (ptC P B n)[j]? := by
      intro j hj
      rw [← htk, List.getElem?_take, if_pos hj]
      simp
    obtain ⟨h1, h2⟩ := ptC_at P B n i hi
    have hlen := ptC_len P B n
    have hc2 : ∀ m, i < m → (ptC P B m)[i * 3 + 2]? = some (.slice none 0 0) := by
      intro m
      induction m with
      | zero => intro h; omega
      | succ m ih =>
        intro him
        have hlm := ptC_len P B m
        rw [ptC]
        by_cases hik : i < m
        · rw [List.getElem?_append_left (by omega)]; exact ih hik
        · obtain rfl : i = m := by omega
          rw [List.getElem?_append_right (by omega), hlm, show i * 3 + 2 - i * 3 = 2 from by omega]; rfl
    rw [List.getD_eq_getElem?_getD] at h1 h2
    refine ⟨?_, ?_, none, 0, 0, ?_⟩
    · rw [key _ (by omega)]
      rw [Nat.add_zero] at h1
      rw [List.getElem?_eq_getElem (by omega)] at h1 ⊢
      simpa using h1
    · rw [key _ (by omega)]
      rw [List.getElem?_eq_getElem (by omega)] at h2 ⊢
      simpa using h2
    · rw [key _ (by omega)]; exact hc2 n hi

set_option maxRecDepth 100000 in
set_option maxHeartbeats 4000000 in
theorem shareExact_core (w : World) (A0 : Option Addr) (n0 c0 : Nat) (Z0 : Nat → Nat → Value) (m0 : n0 ≤ maxLen) (r0 : Rd w A0 n0 [.int .i64, .int .i64, .any] Z0) :
    Calls Try.prog 5 #[.slice A0 n0 c0] w (Holds w) := by
  obtain ⟨P0, B0, hp, hI⟩ := pts_of_rd m0 r0
  have HP0 := Lib.hid hp
  have HI0 := Lib.hid hI
  clear r0 hp hI m0
  obtain ⟨N, hN⟩ : ∃ N, min n0 4 = N := ⟨_, rfl⟩
  have hN4 : N ≤ 4 := by omega
  have hN4' : (N : Int) ≤ 4 := by omega
  have hN0 : (0 : Int) ≤ N := by omega
  have HN := Lib.hid hN
  clear hN
  obtain ⟨P, hP⟩ : ∃ P, mdP 24 P0 = P := ⟨_, rfl⟩
  obtain ⟨B, hB⟩ : ∃ B, mdB 24 P0 B0 = B := ⟨_, rfl⟩
  have hok : ∀ i, OkP (P i) (B i) := fun i => by rw [← hP, ← hB]; exact (md_ok (by decide) (by decide) P0 B0 i).1
  have HOK := Lib.hid hok
  have HPB := Lib.hid (And.intro hP hB)
  clear hok hP hB
  obtain ⟨P1, hP1⟩ : ∃ g : Nat → Int, g = fun i => 1 + P i % 9 := ⟨_, rfl⟩
  obtain ⟨B1, hB1⟩ : ∃ g : Nat → Int, g = fun i => 1 + B i % P1 i := ⟨_, rfl⟩
  have hok1 : ∀ i, OkP (P1 i) (B1 i) ∧ P1 i ≤ 9 := fun i => by
    obtain ⟨o1, o2, o3, o4⟩ := HOK.out i
    have e1 : P1 i = 1 + P i % 9 := by rw [hP1]
    have e2 : B1 i = 1 + B i % P1 i := by rw [hB1]
    have a := Int.emod_nonneg (P i) (b := 9) (by omega)
    have b := Int.emod_lt_of_pos (P i) (b := 9) (by omega)
    have c := Int.emod_nonneg (B i) (b := P1 i) (by omega)
    have d := Int.emod_lt_of_pos (B i) (b := P1 i) (by omega)
    unfold OkP
    omega
  have HOK1 := Lib.hid hok1
  have HD1 := Lib.hid (And.intro hP1 hB1)
  have hmk := mk_int N hN4
  have HMK := Lib.hid hmk
  clear hok1 hP1 hB1 hmk
  go_enter Try.func5, Try.ntmps5
  go_wp2_with (go_at_call 21; refine (made_any HP0.out HI0.out _).mono ?_; rintro r x1 ⟨⟨v, rfl, ho⟩, hb⟩
               rw [HPB.out.1, HPB.out.2, HN.out] at ho
               have hform : 1 ≤ N → ∃ g c, v = .slice (some ⟨g, 0, none⟩) N c ∧ w.heap.size ≤ g ∧ PB x1 g N P B := fun h1 => pb_own ho h1
               obtain ⟨A, c, rfl⟩ := own_form ho
               have HF : Hid (1 ≤ N → ∃ g, A = some ⟨g, 0, none⟩ ∧ w.heap.size ≤ g ∧ PB x1 g N P B) := fun h1 => by
                 obtain ⟨g, c', hv, hg, hp⟩ := hform h1
                 cases hv
                 exact ⟨g, rfl, hg, hp⟩
               have HW := Lib.hid hb
               clear ho hb hform)
  go_loopw [3] (fun i wr => ∃ (k : Nat), k ≤ N ∧ i = .int .i64 k ∧ Hid ((1 ≤ N → ∃ g, A = some ⟨g, 0, none⟩ ∧ w.heap.size ≤ g ∧ PB wr g N (preF k P1 P) (preF k B1 B)) ∧ Below w.heap.size w wr)) (fun i _ => N - (intOf i).toNat)
  case atStart =>
    refine ⟨0, by omega, rfl, ?_, HW.out⟩
    have e : ∀ g g' : Nat → Int, preF 0 g g' = g' := fun g g' => by funext j; unfold preF; rw [if_neg (by omega)]
    rw [e, e]
    exact HF.out
  case round =>
    obtain ⟨k, hk, rfl, HR⟩ := hrel
    clear HF HW
    by_cases hc : k < N
    · obtain ⟨g, rfl, hg, hpb⟩ := HR.out.1 (by omega)
      obtain ⟨c0, c1⟩ := hpb.cells hc
      have hPk : preF k P1 P k = P k := by unfold preF; rw [if_neg (by omega)]
      have hBk : preF k B1 B k = B k := by unfold preF; rw [if_neg (by omega)]
      rw [hPk] at c0
      rw [hBk] at c1
      obtain ⟨o1, o2, o3, o4⟩ := HOK.out k
      obtain ⟨⟨r1, r2, r3, r4⟩, r5⟩ := HOK1.out k
      have e1 : P1 k = 1 + P k % 9 := by rw [HD1.out.1]
      have e2 : B1 k = 1 + B k % P1 k := by rw [HD1.out.2]
      obtain ⟨pk, hpk⟩ : ∃ x, P k = x := ⟨_, rfl⟩
      obtain ⟨bk, hbk⟩ : ∃ x, B k = x := ⟨_, rfl⟩
      obtain ⟨p1, hp1⟩ : ∃ x, P1 k = x := ⟨_, rfl⟩
      obtain ⟨b1, hb1⟩ : ∃ x, B1 k = x := ⟨_, rfl⟩
      rw [hpk] at c0 o1 o2 o4 e1
      rw [hbk] at c1 o3 o4 e2
      rw [hp1] at r1 r2 r4 r5 e1 e2
      rw [hb1] at r3 r4 e2
      have f0 := hpb.frozen (k * 3)
      have f1 := hpb.frozen (k * 3 + 1)
      have w1 : IntKind.i64.wrap (1 + pk % 9) = p1 := by rw [IntWalk.i64_in _ (by omega)]; exact e1.symm
      have w2 : IntKind.i64.wrap (1 + bk % p1) = b1 := by rw [IntWalk.i64_in _ (by omega)]; exact e2.symm
      have HK := Lib.hid (And.intro hpk (And.intro hbk (And.intro hp1 hb1)))
      have HE2 := Lib.hid e2
      have HPBk := Lib.hid hpb
      have hpz : (p1 == 0) = false := by simp; omega
      have hb0 : (0 : Int) ≤ bk := by omega
      have hp0 : (0 : Int) < p1 := by omega
      have hpn : p1 ≠ 0 := by omega
      have hb9 : bk ≤ 9223372036854775807 := by omega
      have hx0 : (0 : Int) ≤ k := by omega
      have hx1 : (k : Int) < N := by omega
      have m1 := Int.emod_nonneg bk (b := p1) (by omega)
      have m2 := Int.emod_lt_of_pos bk (b := p1) (by omega)
      have wt : IntKind.i64.wrap (bk.tmod p1) = bk % p1 := by rw [Int.tmod_eq_emod_of_nonneg (by omega)]; exact IntWalk.i64_in _ (by omega)
      clear hpk hbk hp1 hb1 e1 e2 hpb hPk hBk
      go_wp2_with fail
      have hy := HPBk.out.setP (k := k) p1
      have hby := HR.out.2.setCell (p := ⟨g, k * 3, none⟩) hg (.int .i64 p1)
      generalize wr.setCell ⟨g, k * 3, none⟩ (.int .i64 p1) = y at hy hby ⊢
      clear c0 c1 f0 f1
      obtain ⟨c0, c1⟩ := hy.cells hc
      rw [upd_at] at c0
      rw [show preF k B1 B k = B k from by unfold preF; rw [if_neg (by omega)], HK.out.2.1] at c1
      have f1 := hy.frozen (k * 3 + 1)
      have HY := Lib.hid (And.intro hy hby)
      clear hy hby
      go_still_tail 16, (by kernel_rfl)
      go_wp2_with fail
      refine ⟨⟨k + 1, by omega, by go_num, fun _ => ⟨g, rfl, hg, ?_⟩, ?_⟩, by simp [intOf]; omega⟩
      · rw [← preF_upd k P1 P, ← preF_upd k B1 B, HK.out.2.2.1, HK.out.2.2.2]
        rw [← HE2.out]
        exact (HY.out.1.setB b1).drew
      · exact (HY.out.2.setCell hg _).drew
    · obtain rfl : k = N := by omega
      have eP : ∀ i, i < k → preF k P1 P i = P1 i := fun i hi => by unfold preF; rw [if_pos hi]
      have eB : ∀ i, i < k → preF k B1 B i = B1 i := fun i hi => by unfold preF; rw [if_pos hi]
      have hpts : Pts wr A k P1 B1 := by
        by_cases h0 : k = 0
        · subst h0; exact ⟨⟨fun _ _ => undef, fun i hi => absurd hi (by omega), fun i hi => absurd hi (by omega)⟩, by omega⟩
        · obtain ⟨g, rfl, hg, hpb⟩ := HR.out.1 (by omega)
          have hpts := hpb.pts (fun i hi => by
            rw [eP i hi, eB i hi]
            have := (HOK1.out i).1
            unfold OkP at this
            unfold I64
            omega) (by unfold maxLen; omega)
          obtain ⟨Z, h1, h2⟩ := hpts.rd
          exact ⟨⟨Z, h1, fun i hi => by rw [← eP i hi, ← eB i hi]; exact h2 i hi⟩, hpts.len⟩
      have HPT := Lib.hid hpts
      have HWR := Lib.hid HR.out.2
      have hsh : ShOk P1 B1 k := ⟨hN4, fun i _ => (HOK1.out i).1⟩
      obtain ⟨e, he⟩ : ∃ e, smV P1 B1 k = e := ⟨_, rfl⟩
      have HE := Lib.hid he
      have hcases : (e = 120 ∧ (runF P1 B1 (fun _ => 0) k 2600).isSome = false) ∨ (e = 0 ∧ (runF P1 B1 (fun _ => 0) k 2600).isSome = true) := by
        rw [← he]
        unfold smV
        rw [if_pos hsh]
        by_cases ho : shD P1 B1 k < shT P1 B1 k
        · rw [if_pos ho]
          rw [sh_over P1 B1 k hsh] at ho
          refine Or.inl ⟨rfl, ?_⟩
          rw [runF_false (H := 2520) (K := 2600) (fun i _ => (HOK1.out i).1) ho (by decide) (by decide) fun i hi => ?_]
          · rfl
          · obtain ⟨⟨r1, _⟩, r5⟩ := HOK1.out i
            have hcl : ∀ p : Nat, 1 ≤ p → p ≤ 9 → ((2520 : Nat) : Int) % (p : Int) = 0 := by
              intro p h1 h2
              match p, h1, h2 with
              | 1, _, _ => decide
              | 2, _, _ => decide
              | 3, _, _ => decide
              | 4, _, _ => decide
              | 5, _, _ => decide
              | 6, _, _ => decide
              | 7, _, _ => decide
              | 8, _, _ => decide
              | 9, _, _ => decide
            have := hcl (P1 i).toNat (by omega) (by omega)
            rwa [Int.toNat_of_nonneg (by omega)] at this
        · rw [if_neg ho]
          rw [sh_over P1 B1 k hsh] at ho
          refine Or.inr ⟨rfl, ?_⟩
          obtain ⟨L, E, h1, _⟩ := runF_true (P := P1) (B := B1) (S := fun _ => 0) (n := k) (fun i _ => (HOK1.out i).1) (fun i _ => Int.le_refl _) (by omega) 2600
          rw [h1]; rfl
      clear hpts eP eB hsh he
      have hmk := HMK.out
      have hx1 : ¬ (k : Int) < k := by omega
      have HRW := Lib.hid (Below.refl wr.heap.size wr)
      rcases hcases with ⟨rfl, hrun⟩ | ⟨rfl, hrun⟩
      all_goals
        have HRUN := Lib.hid hrun
        clear hrun
        go_wp2_with fail
        go_region_with (first
          | (go_at_call 18
             refine (test_is (HPT.out.keep (by first | exact (Below.refl _ _).drew | exact ((Below.refl _ _).alloc (Nat.le_refl _) _).drew)) HE.out).mono ?_
             rintro r y1 ⟨rfl, hb⟩
             have HY1 : Hid (Below wr.heap.size wr y1) := by
               first
                 | exact (Below.refl wr.heap.size wr).drew.trans hb
                 | exact ((Below.refl wr.heap.size wr).alloc (Nat.le_refl _) (.cells (arrF (fun _ => 0) k) 3)).drew.trans (hb.mono (by simp))
             first
               | have HBk : Hid (Blk y1 wr.heap.size 3 (arrF (fun _ => 0) k)) := (Blk.new wr 3 (arrF (fun _ => 0) k)).drew.below hb (by simp)
               | skip
             clear hb)
          | (go_at_call 23
             first
               | (refine (kept_any (S := fun _ => 0) (HPT.out.keep HY1.out) _ _ 2600 hN4 (by decide) (fun i _ => (HOK1.out i).1) (fun i _ => ⟨Int.le_refl _, by decide⟩) (fun i hi => ⟨wr.heap.size, 0, rfl, HBk.out.lt, by rw [Nat.zero_add, HBk.out.cell i]; exact arrF_at _ k i hi⟩)).mono ?_
                  rintro r y2 ⟨rfl, hb⟩
                  rw [HRUN.out]
                  have HY2 := Lib.hid (HY1.out.trans (hb.mono HY1.out.size))
                  clear hb)
               | (refine (kept_any (S := fun _ => 0) (HPT.out.keep (HY1.out.alloc HY1.out.size _)) _ _ 2600 hN4 (by decide) (fun i _ => (HOK1.out i).1) (fun i _ => ⟨Int.le_refl _, by decide⟩) (fun i hi => ⟨y1.heap.size, 0, rfl, by simp, by rw [Nat.zero_add, (Blk.new y1 3 (arrF (fun _ => 0) k)).cell i]; exact arrF_at _ k i hi⟩)).mono ?_
                  rintro r y2 ⟨rfl, hb⟩
                  rw [HRUN.out]
                  have HY2 := Lib.hid ((HY1.out.alloc HY1.out.size _).trans (hb.mono (by have := HY1.out.size; simp; omega)))
                  clear hb))
          | (go_at_call 20; refine (share_works _).mono ?_; rintro r y3 ⟨rfl, hb⟩; have HY3 := Lib.hid (HY2.out.trans (hb.mono HY2.out.size)); clear hb))
        all_goals
          go_wp2_with fail
          go_ret
          exact ⟨rfl, HWR.out.trans (HY3.out.mono HWR.out.size)⟩
end Go.Proofs.Ytogdpkeojccpcaa
