/- PortSamples: the walk of the law. -/
import Derived.Test.YtlaakcgipecldaaPortW
import Derived.Test.YtlaakcgipecldaaArgs
namespace Go.Proofs.Ytlaakcgipecldaa
set_option linter.all false
open Go.RowKit
attribute [local go_sem ↓] Go.wp_at_zero Go.wp_at_succ

theorem cut16 (z : ByteArray) : (z.extract 0 (if (16 : Int) < z.size then (16 : Int) else z.size).toNat).size ≤ 16 := by
  rw [ByteArray.size_extract]
  split <;> omega
theorem WayP.drewN {F : Nat → Prop} {w : World} {g : Nat} {s : WS} (h : WayP w F g s) (n : Nat) : WayP (w.drewN n) F g s := h.upd ((Upd.refl (fun _ => False) _).drewN n) (fun _ _ h => h)
theorem send1 {a N t : Int} {L : List ByteArray} {s : ByteArray} (hs : s.size ≤ 16) (hN : 0 ≤ N ∧ N ≤ 1099511627776) : sendE ⟨1, 16, a, L, t⟩ s.size N = 0 ∧ sendS ⟨1, 16, a, L, t⟩ s N = ⟨1, 16, a, [s], N⟩ := by
  have h1 : sendE ⟨1, 16, a, L, t⟩ s.size N = 0 := by
    unfold sendE
    rw [if_neg (by show ¬ ((16 : Int) < s.size ∨ _); omega), if_pos rfl]
  exact ⟨h1, by unfold sendS; rw [if_pos h1, if_pos rfl]⟩
theorem recv1 {a N t : Int} {s : ByteArray} (hN : 0 ≤ N ∧ N ≤ 1099511627776) : recvM ⟨1, 16, a, [s], t⟩ N = s ∧ recvB ⟨1, 16, a, [s], t⟩ N = decide (N - t ≤ a) ∧ recvE ⟨1, 16, a, [s], t⟩ N = 0 ∧ recvS ⟨1, 16, a, [s], t⟩ N = ⟨1, 16, a, [s], t⟩ := by
  have h1 : recvE ⟨1, 16, a, [s], t⟩ N = 0 := by
    unfold recvE
    rw [if_pos hN]; exact if_neg (show ¬ (1 : Nat) = 0 by decide)
  refine ⟨by unfold recvM; rw [if_pos h1]; rfl, by unfold recvB; rw [if_pos h1, if_pos rfl], h1, by unfold recvS; rw [if_neg (fun h => h.2 rfl)]⟩
theorem recv0 {a N t : Int} (hN : 0 ≤ N ∧ N ≤ 1099511627776) : recvM ⟨1, 16, a, [], t⟩ N = ⟨#[]⟩ ∧ recvB ⟨1, 16, a, [], t⟩ N = false ∧ recvE ⟨1, 16, a, [], t⟩ N = 8 ∧ recvS ⟨1, 16, a, [], t⟩ N = ⟨1, 16, a, [], t⟩ := by
  have h1 : recvE ⟨1, 16, a, [], t⟩ N = 8 := by
    unfold recvE
    rw [if_pos hN]; exact if_pos (show (0 : Nat) = 0 from rfl)
  refine ⟨by unfold recvM; rw [if_neg (by rw [h1]; decide)]; rfl, by unfold recvB; rw [if_neg (by rw [h1]; decide)], h1, by unfold recvS; rw [if_neg (fun h => h.2 rfl)]⟩

set_option maxRecDepth 100000 in
set_option maxHeartbeats 8000000 in
theorem portSamples_core (w : World) (a0 : Int) (h0 : -9223372036854775808 ≤ a0 ∧ a0 ≤ 9223372036854775807) (A1 : Option Addr) (n1 c1 : Nat) (Z1 : Nat → Nat → Value) (m1 : n1 ≤ maxLen) (r1 : Rd w A1 n1 [.str] Z1) (a2_0 : Int) (h2_0 : -9223372036854775808 ≤ a2_0 ∧ a2_0 ≤ 9223372036854775807) (a2_1 : Int) (h2_1 : -9223372036854775808 ≤ a2_1 ∧ a2_1 ≤ 9223372036854775807) :
    Calls Try.prog 5 #[.int .i64 a0, .slice A1 n1 c1, .agg #[.int .i64 a2_0, .int .i64 a2_1]] w (Holds w) := by
  have hm : (n1 : Int) ≤ 9223372036854775807 := by simp [maxLen] at m1; omega
  have hn0 : (0 : Int) ≤ n1 := by omega
  have R1 := Lib.hid r1
  clear r1 m1
  have p0 := Int.emod_nonneg a0 (b := 64) (by decide)
  have p1 := Int.emod_lt_of_pos a0 (b := 64) (by decide)
  obtain ⟨a, ha⟩ : ∃ a, 1 + a0 % 64 = a := ⟨_, rfl⟩
  have wa : IntKind.i64.wrap (1 + a0 % 64) = a := by rw [IntWalk.i64_in _ (by omega)]; exact ha
  have ha1 : 1 ≤ a := by omega
  have ha2 : a ≤ 64 := by omega
  have q0 := Int.emod_nonneg a2_0 (b := 70) (by decide)
  have q1 := Int.emod_lt_of_pos a2_0 (b := 70) (by decide)
  obtain ⟨d, hd⟩ : ∃ d, a2_0 % 70 = d := ⟨_, rfl⟩
  have r0 := Int.emod_nonneg a2_1 (b := 100) (by decide)
  have r1 := Int.emod_lt_of_pos a2_1 (b := 100) (by decide)
  obtain ⟨n, hn⟩ : ∃ n, a2_1 % 100 = n := ⟨_, rfl⟩
  rw [hd] at q0 q1
  rw [hn] at r0 r1
  have HDN := Lib.hid (And.intro hd hn)
  have PA : Hid (PortOk 1 1 0 16 0 a) := ⟨Or.inl ⟨rfl, rfl, ha1, ha2⟩, by decide, by decide, by decide, by decide, by decide, by decide, by decide⟩
  clear ha hd hn p0 p1
  go_enter Try.func5, Try.ntmps5
  have HB0 := Lib.hid (Blk.new w 44 #[.int .i64 a2_0, .int .i64 a2_1])
  go_wp2_with (first
    | (go_at_call 10; refine (bring_any a0 64 _ h0 (by omega)).mono ?_; rintro r y1 ⟨rfl, -, rfl⟩)
    | (go_at_call 11; refine (new_ok _ PA.out).mono ?_; rintro r x1 ⟨⟨g, rfl, hg, hp⟩, hb⟩
       have HA := Lib.hid (show WayP x1 (fun k => w.heap.size + 1 ≤ k) g ⟨1, 16, a, [], 0⟩ from by
         have e : newW 1 16 0 a = ⟨1, 16, a, [], 0⟩ := by unfold newW; simp
         rw [e] at hp
         exact hp.mono fun k hk => by have := hk.1; simpa using this)
       have HB1 := Lib.hid (HB0.out.below hb (by simp))
       have HW := Lib.hid (show Below (w.heap.size + 1) (w.alloc (.cells #[.int .i64 a2_0, .int .i64 a2_1] 44)) x1 by have := hb; simpa using this)
       clear hg hp hb))
  clear wa
  go_loopw [10, 11, 12] (fun vn vl i wr => ∃ (k : Nat) (N : Int) (m : ByteArray) (L : List ByteArray) (t : Int), k ≤ n1 ∧ k ≤ 50 ∧ i = .int .i64 k ∧ vn = .int .i64 N ∧ vl = .string m ∧ 0 ≤ N ∧ N ≤ 70 * k ∧ Hid (L.length ≤ 1 ∧ WayP wr (fun k => w.heap.size + 1 ≤ k) g ⟨1, 16, a, L, t⟩ ∧ Blk wr w.heap.size 44 #[.int .i64 a2_0, .int .i64 a2_1] ∧ Below (w.heap.size + 1) (w.alloc (.cells #[.int .i64 a2_0, .int .i64 a2_1] 44)) wr)) (fun _ _ i _ => 50 - (intOf i).toNat)
  case atStart => exact ⟨0, 0, _, [], 0, by omega, by omega, rfl, rfl, rfl, by omega, by omega, ⟨by decide, HA.out, HB1.out, HW.out⟩⟩
  case round =>
    obtain ⟨k, N, m, L, t, hk, hk2, rfl, rfl, rfl, hN0, hN1, HR⟩ := hrel
    clear HA HB1 HW HB0
    by_cases hc : k < n1 ∧ k < 50
    · obtain ⟨b, off, rfl, hlt, hz⟩ := R1.out k hc.1
      obtain ⟨hz0, z, hzz, hzs⟩ := hz 0 _ rfl
      rw [hzz] at hz0
      have hwo : (w.alloc (.cells #[.int .i64 a2_0, .int .i64 a2_1] 44)).cell? ⟨b, off + (k * [Leaf.str].length + 0), none⟩ = some (.string z) := (((Below.refl w.heap.size w).alloc (Nat.le_refl _) (.cells #[.int .i64 a2_0, .int .i64 a2_1] 44)).cell (p := ⟨b, _, none⟩) hlt).trans hz0
      rw [← HR.out.2.2.2.cell (p := ⟨b, _, none⟩) (by exact Nat.lt_succ_of_lt hlt)] at hwo
      simp [← Nat.add_assoc] at hwo
      have b0 := HR.out.2.2.1.cell 0
      have b1 := HR.out.2.2.1.cell 1
      simp at b0 b1
      have hk1 := hc.1
      have hk3 := hc.2
      have hkk : (k : Int) < 50 := by omega
      have hx0 : (0 : Int) ≤ k := by omega
      have hx1 : (k : Int) < n1 := by omega
      have hzm : (z.size : Int) ≤ 9223372036854775807 := by simp [maxLen] at hzs; omega
      have hz00 : (0 : Int) ≤ z.size := by omega
      clear hz hz0 hzz hzs
      go_wp2_with (go_at_call 10; refine (bring_any a2_0 70 _ h2_0 (by omega)).mono ?_; rintro r y1 ⟨rfl, -, rfl⟩; rw [HDN.out.1])
      go_quiet (fail)
      have hsz := cut16 z
      generalize z.extract 0 (if (16 : Int) < z.size then (16 : Int) else z.size).toNat = s at hsz ⊢
      have HSZ := Lib.hid hsz
      have hN : 0 ≤ N + d ∧ N + d ≤ 1099511627776 := by omega
      have HN := Lib.hid hN
      have HNN := Lib.hid (show 0 ≤ N + d + n ∧ N + d + n ≤ 1099511627776 by omega)
      obtain ⟨M, hM⟩ : ∃ M, N + d = M := ⟨_, rfl⟩
      rw [hM]
      have HM := Lib.hid hM
      have hM0 : 0 ≤ M := by omega
      have hM1 : M ≤ 70 * k + 69 := by omega
      rw [hM] at HN HNN
      have bb1 := b1
      clear hsz hN hM b0 b1 hwo hzm hz00
      have W1 := Lib.hid (HR.out.2.1.drewN nq)
      have U1 := Lib.hid (HR.out.2.2.1.drewN nq)
      have V1 := Lib.hid (belowN HR.out.2.2.2 nq)
      go_wp2_with (first
        | (go_at_call 13; refine (wsend_to 0 ⟨1, 16, a, [s], M⟩ W1.out (wok1 (by decide) (by omega) HR.out.1) (by have := HSZ.out; unfold maxLen; omega) (fun k hk => by have := V1.out.size; simp at this hk ⊢; omega) (send1 HSZ.out HN.out)).mono ?_; rintro r y1 ⟨rfl, hp, hu⟩
           have W2 := Lib.hid hp
           have U2 := Lib.hid (U1.out.upd hu (by show ¬ w.heap.size + 1 ≤ w.heap.size; omega))
           have V2 := Lib.hid (V1.out.trans (hu.below (by have := V1.out.size; simp at this ⊢; omega) (fun _ h => h)))
           have b1 := U2.out.cell 1
           simp at b1
           clear hp hu bb1)
        | (go_at_call 10; refine (bring_any a2_1 100 _ h2_1 (by omega)).mono ?_; rintro r y1 ⟨rfl, -, rfl⟩; rw [HDN.out.2]))
      all_goals
        go_loopw [14] (fun j wr => ∃ j0 : Nat, j0 ≤ 3 ∧ j = .int .i64 j0 ∧ Hid (WayP wr (fun k => w.heap.size + 1 ≤ k) g ⟨1, 16, a, [s], M⟩ ∧ Blk wr w.heap.size 44 #[.int .i64 a2_0, .int .i64 a2_1] ∧ Below (w.heap.size + 1) (w.alloc (.cells #[.int .i64 a2_0, .int .i64 a2_1] 44)) wr)) (fun j _ => 3 - (intOf j).toNat)
        case atStart => exact ⟨0, by omega, rfl, ⟨W2.out, U2.out, V2.out⟩⟩
        case round =>
          obtain ⟨j0, hj, rfl, HR2⟩ := hrel
          by_cases hj3 : j0 < 3
          · have hjj : (j0 : Int) < 3 := by omega
            have wn : IntKind.i64.wrap (M + n) = M + n := IntWalk.i64_in _ (by omega)
            have hdv : decide (M + n - M ≤ a) = decide (n ≤ a) := by rw [show M + n - M = n from by omega]
            go_wp2_with (go_at_call 12; refine (wrecv_to s (decide (n ≤ a)) 0 ⟨1, 16, a, [s], M⟩ HR2.out.1 (wok1 (by decide) (by omega) (Nat.le_refl 1)) (by rw [← hdv]; exact recv1 HNN.out)).mono ?_; rintro r y2 ⟨rfl, hp, hu⟩
                         have W3 := Lib.hid hp
                         have U3 := Lib.hid (HR2.out.2.1.upd hu (by show ¬ w.heap.size + 1 ≤ w.heap.size; omega))
                         have V3 := Lib.hid (HR2.out.2.2.trans (hu.below (by have := HR2.out.2.2.size; simp at this ⊢; omega) (fun _ h => h)))
                         clear hp hu)
            exact ⟨⟨j0 + 1, by omega, by go_num, ⟨W3.out, U3.out, V3.out⟩⟩, by simp [intOf]; omega⟩
          · obtain rfl : j0 = 3 := by omega
            go_wp2_with fail
            refine ⟨⟨k + 1, M, s, [s], M, by omega, by omega, by go_num, rfl, rfl, hM0, by omega, ⟨Nat.le_refl 1, HR2.out⟩⟩, by simp [intOf]; omega⟩
    · have HB := Lib.hid HR.out.2.2.2
      have hN : 0 ≤ N ∧ N ≤ 1099511627776 := by omega
      have HN := Lib.hid hN
      clear hN
      by_cases hk1 : k < n1
      · have hk3 : ¬ (k : Int) < 50 := by omega
        have hx1 : (k : Int) < n1 := by omega
        go_wp2_with (first
          | (go_at_call 20; refine (wclear_any HR.out.2.1).mono ?_; rintro r y1 ⟨rfl, hp, hu⟩
             have W2 := Lib.hid (show WayP y1 (fun k => w.heap.size + 1 ≤ k) g ⟨1, 16, a, [], t⟩ from hp)
             have V2 := Lib.hid (HB.out.trans (hu.below (by have := HB.out.size; simp at this ⊢; omega) (fun _ h => h)))
             clear hp hu)
          | (go_at_call 12; refine (wrecv_to ⟨#[]⟩ false 8 ⟨1, 16, a, [], t⟩ W2.out (wok1 (by decide) (by omega) (by decide)) (recv0 HN.out)).mono ?_; rintro r y2 ⟨rfl, hp, hu⟩
             have W3 := Lib.hid hp
             have V3 := Lib.hid (V2.out.trans (hu.below (by have := V2.out.size; simp at this ⊢; omega) (fun _ h => h)))
             clear hp hu)
          | (go_at_call 14; refine (wlen_any W3.out (wok1 (by decide) (by omega) (by decide))).mono ?_; rintro r y3 ⟨rfl, rfl⟩)
          | (go_at_call 9; refine (port_works _).mono ?_; rintro r y4 ⟨rfl, hb⟩; have V4 := Lib.hid (V3.out.trans (hb.mono (by have := V3.out.size; simp at this ⊢; omega))); clear hb))
        go_ret
        exact ⟨rfl, ((Below.refl _ _).alloc (Nat.le_refl _) _).trans (V4.out.mono (by omega))⟩
      · have hx1 : ¬ (k : Int) < n1 := by omega
        go_wp2_with (first
          | (go_at_call 20; refine (wclear_any HR.out.2.1).mono ?_; rintro r y1 ⟨rfl, hp, hu⟩
             have W2 := Lib.hid (show WayP y1 (fun k => w.heap.size + 1 ≤ k) g ⟨1, 16, a, [], t⟩ from hp)
             have V2 := Lib.hid (HB.out.trans (hu.below (by have := HB.out.size; simp at this ⊢; omega) (fun _ h => h)))
             clear hp hu)
          | (go_at_call 12; refine (wrecv_to ⟨#[]⟩ false 8 ⟨1, 16, a, [], t⟩ W2.out (wok1 (by decide) (by omega) (by decide)) (recv0 HN.out)).mono ?_; rintro r y2 ⟨rfl, hp, hu⟩
             have W3 := Lib.hid hp
             have V3 := Lib.hid (V2.out.trans (hu.below (by have := V2.out.size; simp at this ⊢; omega) (fun _ h => h)))
             clear hp hu)
          | (go_at_call 14; refine (wlen_any W3.out (wok1 (by decide) (by omega) (by decide))).mono ?_; rintro r y3 ⟨rfl, rfl⟩)
          | (go_at_call 9; refine (port_works _).mono ?_; rintro r y4 ⟨rfl, hb⟩; have V4 := Lib.hid (V3.out.trans (hb.mono (by have := V3.out.size; simp at this ⊢; omega))); clear hb))
        go_ret
        exact ⟨rfl, ((Below.refl _ _).alloc (Nat.le_refl _) _).trans (V4.out.mono (by omega))⟩
end Go.Proofs.Ytlaakcgipecldaa
