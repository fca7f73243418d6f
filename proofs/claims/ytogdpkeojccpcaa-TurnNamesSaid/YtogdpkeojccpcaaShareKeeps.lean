/- ShareKeeps: the walk of the law: servers that pass the test have run for their whole budget by the end of each period. -/
import Derived.Test.YtogdpkeojccpcaaShareKept
import Derived.Test.YtogdpkeojccpcaaShareMade
import Derived.Test.YtogdpkeojccpcaaShareWorks
namespace Go.Proofs.Ytogdpkeojccpcaa
set_option linter.all false
open Go.RowKit

theorem sh_over (P B : Nat → Int) (n : Nat) (h : ShOk P B n) : shD P B n < shT P B n ↔ (fr P B n).2 < (fr P B n).1 := by
  obtain ⟨b1, b2, b3, b4⟩ := fr_bounds P B n h.1 h.2
  exact red_above b3 b1

set_option maxRecDepth 100000 in
set_option maxHeartbeats 4000000 in
theorem shareKeeps_core (w : World) (A0 : Option Addr) (n0 c0 : Nat) (Z0 : Nat → Nat → Value) (m0 : n0 ≤ maxLen) (r0 : Rd w A0 n0 [.int .i64, .int .i64, .any] Z0) (A1 : Option Addr) (n1 c1 : Nat) (Z1 : Nat → Nat → Value) (m1 : n1 ≤ maxLen) (r1 : Rd w A1 n1 [.int .i64] Z1) :
    Calls Try.prog 4 #[.slice A0 n0 c0, .slice A1 n1 c1] w (Holds w) := by
  obtain ⟨P0, B0, hp, hI⟩ := pts_of_rd m0 r0
  have HP0 := Lib.hid hp
  have HI0 := Lib.hid hI
  have R1 := Lib.hid r1
  have hm1 : (n1 : Int) ≤ 9223372036854775807 := by simp [maxLen] at m1; omega
  have hn1 : (0 : Int) ≤ n1 := by omega
  clear r0 hp hI m0 r1 m1
  obtain ⟨N, hN⟩ : ∃ N, min n0 4 = N := ⟨_, rfl⟩
  have hN4 : N ≤ 4 := by omega
  have hN4' : (N : Int) ≤ 4 := by omega
  have hN0 : (0 : Int) ≤ N := by omega
  have HN := Lib.hid hN
  clear hN
  obtain ⟨P, hP⟩ : ∃ P, mdP 24 P0 = P := ⟨_, rfl⟩
  obtain ⟨B, hB⟩ : ∃ B, mdB 24 P0 B0 = B := ⟨_, rfl⟩
  have hok : ∀ i, OkP (P i) (B i) := fun i => by rw [← hP, ← hB]; exact (md_ok (by decide) (by decide) P0 B0 i).1
  have HOK := Lib.hid hok
  have HPB := Lib.hid (And.intro hP hB)
  have hmk := mk_int N hN4
  clear hok hP hB
  go_enter Try.func4, Try.ntmps4
  go_wp2_with (first
    | (go_at_call 20; refine (share_works _).mono ?_; rintro r x0 ⟨rfl, hb⟩; have HW := Lib.hid hb; have HP1 := Lib.hid (HP0.out.keep hb); clear hb)
    | (go_at_call 21; refine (made_any HP1.out HI0.out _).mono ?_; rintro r x1 ⟨⟨v, rfl, ho⟩, hb⟩
       rw [HPB.out.1, HPB.out.2, HN.out] at ho
       obtain ⟨A, c, rfl⟩ := own_form ho
       have HPt := Lib.hid (pts_own ho (fun i hi => by have := HOK.out i; unfold OkP at this; unfold I64; omega) (by unfold maxLen; omega))
       have HW := Lib.hid (HW.out.trans (hb.mono HW.out.size))
       clear ho hb))
  clear hmk
  obtain ⟨gA, hgA⟩ : ∃ g, x1.heap.size = g := ⟨_, rfl⟩
  have hb0 : Blk (x1.alloc (.cells (arrF (fun _ => 0) N) 3)) gA 3 (arrF (fun _ => 0) N) := by rw [← hgA]; exact Blk.new _ _ _
  have HB0 := Lib.hid hb0
  rw [hgA]
  have HGA := Lib.hid hgA
  clear hb0 hgA
  go_loopw [6] (fun i wr => ∃ (k : Nat) (S : Nat → Int), k ≤ N ∧ k ≤ n1 ∧ i = .int .i64 k ∧ Hid (Blk wr gA 3 (arrF S N) ∧ (∀ i, 0 ≤ S i ∧ S i ≤ 1000) ∧ Below gA x1 wr)) (fun i _ => N - (intOf i).toNat)
  case atStart => exact ⟨0, _, by omega, by omega, rfl, ⟨HB0.out, fun _ => ⟨by decide, by decide⟩, (Below.refl _ _).alloc (by rw [HGA.out]; exact Nat.le_refl _) _⟩⟩
  case round =>
    obtain ⟨k, S, hk, hk1, rfl, HR⟩ := hrel
    clear HB0
    by_cases hc : k < N ∧ k < n1
    · obtain ⟨b, off, rfl, hlt, hz⟩ := R1.out k hc.2
      obtain ⟨hz0, z, hzz, hwf⟩ := hz 0 _ rfl
      rw [hzz] at hz0
      have hx2 := HW.out.size
      rw [← HW.out.cell (p := ⟨b, _, none⟩) hlt] at hz0
      rw [← HR.out.2.2.cell (p := ⟨b, _, none⟩) (by rw [← HGA.out]; exact Nat.lt_of_lt_of_le hlt hx2)] at hz0
      simp [← Nat.add_assoc] at hz0
      have hcl : wr.cell? ⟨gA, k, none⟩ = some (.int .i64 (S k)) := by rw [HR.out.1.cell k]; exact arrF_at S N k hc.1
      have hfr := HR.out.1.frozen k
      have zb := wf_bounds hwf
      have q0 := Int.emod_nonneg z (b := 100) (by decide)
      have q1 := Int.emod_lt_of_pos z (b := 100) (by decide)
      have hx0 : (0 : Int) ≤ k := by omega
      have hx1 : (k : Int) < N := by omega
      have hx3 : (k : Int) < n1 := by omega
      clear hz hzz hwf
      go_wp2_with (go_at_call 22; refine (bring_any z 100 _ zb (by omega)).mono ?_; rintro r y1 ⟨rfl, -, rfl⟩)
      refine ⟨⟨k + 1, upd S k (z % 100), by omega, by omega, by go_num, ?_, ?_, ?_⟩, by simp [intOf]; omega⟩
      · rw [← arrF_upd]; exact HR.out.1.set_ k _
      · intro i
        unfold upd
        split
        · omega
        · exact HR.out.2.1 i
      · exact HR.out.2.2.setCell (Nat.le_refl _) _
    · have hlen : wr.heap.size ≥ gA := by have := HR.out.1.lt; omega
      have HPt2 := Lib.hid (show Pts wr A N P B by
        have := HR.out.2.2
        rw [← HGA.out] at this
        exact HPt.out.keep this)
      have hsh : ShOk P B N := ⟨hN4, fun i _ => HOK.out i⟩
      have HWR := Lib.hid (show Below w.heap.size w wr from HW.out.trans ((show Below x1.heap.size x1 wr by rw [HGA.out]; exact HR.out.2.2).mono HW.out.size))
      obtain ⟨e, he⟩ : ∃ e, smV P B N = e := ⟨_, rfl⟩
      have HE := Lib.hid he
      have hcases : (e = 120) ∨ (e = 0 ∧ (fr P B N).1 ≤ (fr P B N).2) := by
        rw [← he]
        unfold smV
        rw [if_pos hsh]
        by_cases ho : shD P B N < shT P B N
        · rw [if_pos ho]; exact Or.inl rfl
        · rw [if_neg ho]
          rw [sh_over P B N hsh] at ho
          exact Or.inr ⟨rfl, by omega⟩
      have hfin : ∀ x, Below wr.heap.size wr x → ∀ i, i < N → ∃ b off, some (⟨gA, 0, none⟩ : Addr) = some ⟨b, off, none⟩ ∧ b < x.heap.size ∧ x.cell? ⟨b, off + i, none⟩ = some (.int .i64 (S i)) := by
        intro x hx i hi
        have hbx := HR.out.1.below hx HR.out.1.lt
        refine ⟨gA, 0, rfl, hbx.lt, ?_⟩
        rw [Nat.zero_add, hbx.cell i]
        exact arrF_at S N i hi
      have HFIN := Lib.hid hfin
      have HSB := Lib.hid HR.out.2.1
      clear hfin hsh he hlen
      have hend : ∀ K L : World → Prop, True := fun _ _ => trivial
      clear hend
      rcases hcases with rfl | ⟨rfl, hU⟩
      · by_cases hkN : k < N
        · have hx1 : (k : Int) < N := by omega
          have hx3 : ¬ (k : Int) < n1 := by omega
          go_wp2_with (go_at_call 18; refine (test_is HPt2.out HE.out).mono ?_; rintro r y1 ⟨rfl, hb⟩; have HT := Lib.hid hb; clear hb)
          go_ret
          exact ⟨rfl, HWR.out.trans (HT.out.mono HWR.out.size)⟩
        · have hx1 : ¬ (k : Int) < N := by omega
          go_wp2_with (go_at_call 18; refine (test_is HPt2.out HE.out).mono ?_; rintro r y1 ⟨rfl, hb⟩; have HT := Lib.hid hb; clear hb)
          go_ret
          exact ⟨rfl, HWR.out.trans (HT.out.mono HWR.out.size)⟩
      · have hrun : (runF P B S N 600).isSome = true := by
          obtain ⟨L, E, h1, _⟩ := runF_true (P := P) (B := B) (S := S) (n := N) (fun i _ => HOK.out i) (fun i _ => (HSB.out i).1) hU 600
          rw [h1]; rfl
        have HRUN := Lib.hid hrun
        clear hrun hU
        by_cases hkN : k < N
        · have hx1 : (k : Int) < N := by omega
          have hx3 : ¬ (k : Int) < n1 := by omega
          go_wp2_with (first
            | (go_at_call 18; refine (test_is HPt2.out HE.out).mono ?_; rintro r y1 ⟨rfl, hb⟩; have HT := Lib.hid hb; have HP3 := Lib.hid (HPt2.out.keep hb); have HF3 := Lib.hid (HFIN.out _ hb); clear hb)
            | (go_at_call 23; refine (kept_any HP3.out _ _ 600 hN4 (by decide) (fun i _ => HOK.out i) (fun i _ => HSB.out i) HF3.out).mono ?_; rintro r y2 ⟨rfl, hb⟩; rw [HRUN.out]; have HK := Lib.hid hb; clear hb))
          go_ret
          have z1 := HWR.out.trans (HT.out.mono HWR.out.size)
          exact ⟨rfl, z1.trans (HK.out.mono z1.size)⟩
        · have hx1 : ¬ (k : Int) < N := by omega
          go_wp2_with (first
            | (go_at_call 18; refine (test_is HPt2.out HE.out).mono ?_; rintro r y1 ⟨rfl, hb⟩; have HT := Lib.hid hb; have HP3 := Lib.hid (HPt2.out.keep hb); have HF3 := Lib.hid (HFIN.out _ hb); clear hb)
            | (go_at_call 23; refine (kept_any HP3.out _ _ 600 hN4 (by decide) (fun i _ => HOK.out i) (fun i _ => HSB.out i) HF3.out).mono ?_; rintro r y2 ⟨rfl, hb⟩; rw [HRUN.out]; have HK := Lib.hid hb; clear hb))
          go_ret
          have z1 := HWR.out.trans (HT.out.mono HWR.out.size)
          exact ⟨rfl, z1.trans (HK.out.mono z1.size)⟩
end Go.Proofs.Ytogdpkeojccpcaa
