/- PortQueues: the walk of the law. -/
import Derived.Test.YtlaakcgipecldaaPortRow
namespace Go.Proofs.Ytlaakcgipecldaa
set_option linter.all false
open Go.RowKit
attribute [local go_sem ↓] Go.wp_at_zero Go.wp_at_succ

theorem QRow.drewN {F : Nat → Prop} {w : World} {v : Value} {L : List ByteArray} (h : QRow w F v L) (n : Nat) : QRow (w.drewN n) F v L := h.upd ((Upd.refl (fun _ => False) _).drewN n) (fun _ _ h => h)
theorem QRow.alloc {F : Nat → Prop} {w : World} {v : Value} {L : List ByteArray} (h : QRow w F v L) (o : Obj) : QRow (w.alloc o) F v L := h.upd ((Upd.refl (fun _ => False) _).alloc o) (fun _ _ h => h)
theorem WayP.alloc {F : Nat → Prop} {w : World} {g : Nat} {s : WS} (h : WayP w F g s) (o : Obj) : WayP (w.alloc o) F g s := h.upd ((Upd.refl (fun _ => False) _).alloc o) (fun _ _ h => h)

theorem send2 {n N t : Int} {L : List ByteArray} {s : ByteArray} (hs : s.size ≤ 16) (hN : 0 ≤ N ∧ N ≤ 1099511627776) : sendE ⟨2, 16, n, L, t⟩ s.size N = (if (L.length : Int) = n then 7 else 0) ∧ sendS ⟨2, 16, n, L, t⟩ s N = ⟨2, 16, n, (if (L.length : Int) = n then L else L ++ [s]), t⟩ := by
  have h1 : sendE ⟨2, 16, n, L, t⟩ s.size N = (if (L.length : Int) = n then 7 else 0) := by
    unfold sendE
    rw [if_neg (by show ¬ ((16 : Int) < s.size ∨ _); omega), if_neg (show ¬ (2 : Int) = 1 by decide)]
  refine ⟨h1, ?_⟩
  unfold sendS
  rw [h1]
  by_cases h : (L.length : Int) = n
  · rw [if_pos h, if_neg (by decide), if_pos h]
  · rw [if_neg h, if_pos rfl, if_neg (show ¬ (2 : Int) = 1 by decide), if_neg h]
theorem recv2 {n N t : Int} {L : List ByteArray} {m : ByteArray} (hN : 0 ≤ N ∧ N ≤ 1099511627776) : recvM ⟨2, 16, n, m :: L, t⟩ N = m ∧ recvB ⟨2, 16, n, m :: L, t⟩ N = true ∧ recvE ⟨2, 16, n, m :: L, t⟩ N = 0 ∧ recvS ⟨2, 16, n, m :: L, t⟩ N = ⟨2, 16, n, L, t⟩ := by
  have h1 : recvE ⟨2, 16, n, m :: L, t⟩ N = 0 := by
    unfold recvE
    rw [if_pos hN]; exact if_neg (show ¬ L.length + 1 = 0 by omega)
  refine ⟨by unfold recvM; rw [if_pos h1]; rfl, by unfold recvB; rw [if_pos h1, if_neg (show ¬ (2 : Int) = 1 by decide)], h1, by unfold recvS; rw [if_pos ⟨h1, (show ¬ (2 : Int) = 1 by decide)⟩]; rfl⟩
theorem recv20 {n N t : Int} (hN : 0 ≤ N ∧ N ≤ 1099511627776) : recvM ⟨2, 16, n, [], t⟩ N = ⟨#[]⟩ ∧ recvB ⟨2, 16, n, [], t⟩ N = false ∧ recvE ⟨2, 16, n, [], t⟩ N = 8 ∧ recvS ⟨2, 16, n, [], t⟩ N = ⟨2, 16, n, [], t⟩ := by
  have h1 : recvE ⟨2, 16, n, [], t⟩ N = 8 := by
    unfold recvE
    rw [if_pos hN]; exact if_pos (show (0 : Nat) = 0 from rfl)
  refine ⟨by unfold recvM; rw [if_neg (by rw [h1]; decide)]; rfl, by unfold recvB; rw [if_neg (by rw [h1]; decide)], h1, by unfold recvS; rw [if_neg (fun h => by rw [h1] at h; exact absurd h.1 (by decide))]⟩

/-- The queue and what went in: they lie apart. -/
structure QJ (w w' : World) (g : Nat) (n : Int) (v : Value) (L : List ByteArray) : Prop where
  ex : ∃ FW FI : Nat → Prop, WayP w' FW g ⟨2, 16, n, L, 0⟩ ∧ QRow w' FI v L ∧ (∀ k, FW k → ¬ FI k) ∧ (∀ k, FW k → w.heap.size ≤ k ∧ k < w'.heap.size) ∧ (∀ k, FI k → w.heap.size ≤ k ∧ k < w'.heap.size)
  b : Below w.heap.size w w'
  n : (L.length : Int) ≤ n

set_option maxRecDepth 100000 in
set_option maxHeartbeats 8000000 in
theorem portQueues_core (w : World) (a0 : Int) (h0 : -9223372036854775808 ≤ a0 ∧ a0 ≤ 9223372036854775807) (A1 : Option Addr) (n1 c1 : Nat) (Z1 : Nat → Nat → Value) (m1 : n1 ≤ maxLen) (r1 : Rd w A1 n1 [.str] Z1) (a2 : Int) (h2 : -9223372036854775808 ≤ a2 ∧ a2 ≤ 9223372036854775807) :
    Calls Try.prog 3 #[.int .i64 a0, .slice A1 n1 c1, .int .i64 a2] w (Holds w) := by
  have hm : (n1 : Int) ≤ 9223372036854775807 := by simp [maxLen] at m1; omega
  have hn0 : (0 : Int) ≤ n1 := by omega
  have R1 := Lib.hid r1
  clear r1 m1
  have p0 := Int.emod_nonneg a0 (b := 4) (by decide)
  have p1 := Int.emod_lt_of_pos a0 (b := 4) (by decide)
  obtain ⟨n, hn⟩ : ∃ a, 1 + a0 % 4 = a := ⟨_, rfl⟩
  have wn : IntKind.i64.wrap (1 + a0 % 4) = n := by rw [IntWalk.i64_in _ (by omega)]; exact hn
  have hn1 : 1 ≤ n := by omega
  have hn2 : n ≤ 4 := by omega
  have q0 := Int.emod_nonneg a2 (b := 1000) (by decide)
  have q1 := Int.emod_lt_of_pos a2 (b := 1000) (by decide)
  obtain ⟨t, ht⟩ : ∃ d, a2 % 1000 = d := ⟨_, rfl⟩
  rw [ht] at q0 q1
  have HT := Lib.hid ht
  have HTT : Hid (0 ≤ t ∧ t ≤ 1099511627776) := ⟨by omega, by omega⟩
  have PA : Hid (PortOk 2 3 0 16 n 0) := ⟨Or.inr ⟨rfl, rfl, hn1, hn2⟩, by decide, by decide, by decide, by decide, by decide, by decide, by decide⟩
  have T1 := Lib.hid True.intro
  clear hn ht p0 p1
  go_enter Try.func3, Try.ntmps3
  go_wp2_with (first
    | (go_at_call 9; refine (port_works _).mono ?_; rintro r x0 ⟨rfl, hb⟩; have HW := Lib.hid hb; clear hb)
    | (go_at_call 10; first
        | (have _tk := T1; refine (bring_any a0 4 _ h0 (by omega)).mono ?_; rintro r y1 ⟨rfl, -, rfl⟩; clear T1 _tk)
        | (refine (bring_any a2 1000 _ h2 (by omega)).mono ?_; rintro r y1 ⟨rfl, -, rfl⟩; rw [HT.out]))
    | (go_at_call 11; refine (new_ok _ PA.out).mono ?_; rintro r x1 ⟨⟨g, rfl, hg, hp⟩, hb⟩
       have HJ : Hid (QJ w x1 g n (.slice none 0 0) []) := by
         have e : newW 2 16 n 0 = ⟨2, 16, n, [], 0⟩ := by unfold newW; simp
         rw [e] at hp
         exact ⟨⟨_, fun _ => False, hp, Or.inl ⟨rfl, rfl⟩, fun _ _ h => h, fun k hk => ⟨Nat.le_trans HW.out.size hk.1, hk.2⟩, fun k hk => hk.elim⟩, HW.out.trans (hb.mono HW.out.size), by show (0 : Int) ≤ n; omega⟩
       clear hg hp hb))
  clear wn
  go_loopw [11, 12] (fun v i wr => ∃ (k : Nat) (L : List ByteArray), k ≤ n1 ∧ k ≤ 100 ∧ i = .int .i64 k ∧ Hid (QJ w wr g n v L)) (fun _ i _ => 100 - (intOf i).toNat)
  case atStart => exact ⟨0, [], by omega, by omega, rfl, HJ.out⟩
  case round =>
    obtain ⟨k, L, hk, hk2, rfl, HR⟩ := hrel
    clear HJ HW
    by_cases hc : k < n1 ∧ k < 100
    · obtain ⟨b, off, rfl, hlt, hz⟩ := R1.out k hc.1
      obtain ⟨hz0, z, hzz, hzs⟩ := hz 0 _ rfl
      rw [hzz] at hz0
      rw [← HR.out.b.cell (p := ⟨b, _, none⟩) hlt] at hz0
      simp [← Nat.add_assoc] at hz0
      have hk1 := hc.1
      have hk3 := hc.2
      have hkk : (k : Int) < 100 := by omega
      have hx0 : (0 : Int) ≤ k := by omega
      have hx1 : (k : Int) < n1 := by omega
      have hzm : (z.size : Int) ≤ 9223372036854775807 := by simp [maxLen] at hzs; omega
      have hz00 : (0 : Int) ≤ z.size := by omega
      clear hz hzz hzs
      go_wp2_with fail
      go_quiet (fail)
      have hsz := cut16 z
      generalize z.extract 0 (if (16 : Int) < z.size then (16 : Int) else z.size).toNat = s at hsz ⊢
      have HSZ := Lib.hid hsz
      clear hsz hz0 hzm hz00
      obtain ⟨FW, FI, hW, hI, hd, hFW, hFI⟩ := HR.out.ex
      have hL := HR.out.n
      have hok : WOk ⟨2, 16, n, L, 0⟩ := wok2 (by decide) ⟨hn1, hn2⟩ hL
      have HOK := Lib.hid hok
      have HWW := Lib.hid (hW.drewN nq)
      have HII := Lib.hid (hI.drewN nq)
      have HD := Lib.hid hd
      have HFW := Lib.hid hFW
      have HFI := Lib.hid hFI
      have HBN := Lib.hid (belowN HR.out.b nq)
      clear hW hI hd hFW hFI hok
      by_cases hs : s.toList.isEmpty = true
      · have hs0 : s.toList.isEmpty = true := hs
        cases L with
        | nil =>
          obtain ⟨a', c', rfl⟩ := HII.out.len
          go_wp2_with (go_at_call 12; refine (wrecv_to ⟨#[]⟩ false 8 ⟨2, 16, n, [], 0⟩ HWW.out HOK.out (recv20 HTT.out)).mono ?_; rintro r y1 ⟨rfl, hp, hu⟩; have HP := Lib.hid (And.intro hp hu); clear hp hu)
          refine ⟨⟨k + 1, [], by omega, by omega, by go_num, ⟨⟨FW, FI, HP.out.1, HII.out.upd HP.out.2 (fun k h1 h2 => HD.out k h2 h1), HD.out, fun k hk => ?_, fun k hk => ?_⟩, ?_, hL⟩⟩, by simp [intOf]; omega⟩
          · exact ⟨(HFW.out k hk).1, Nat.lt_of_lt_of_le (HFW.out k hk).2 HP.out.2.size⟩
          · exact ⟨(HFI.out k hk).1, Nat.lt_of_lt_of_le (HFI.out k hk).2 HP.out.2.size⟩
          · exact below_upd HBN.out HP.out.2 (fun k hk => (HFW.out k hk).1)
        | cons m L =>
          rcases HII.out with ⟨_, h2⟩ | ⟨gi, oi, cap, cur, rfl, hF, hblk, hle, hcap, hcells⟩
          · cases h2
          · have e0 : cur[oi]? = some (.string m) := hcells 0 m rfl
            have hcc := Lib.hid hcells
            have HE0 := Lib.hid e0
            have HBK := Lib.hid hblk
            have hc1 : (1 : Int) ≤ cap := by simp at hle; omega
            have hc2 : 1 ≤ cap := by simp at hle; omega
            have hlc : L.length + 1 ≤ cap := by simpa using hle
            have hh : (1 : Int) ≤ (L.length : Int) + 1 := by omega
            have hh2 : (0 : Int) < (L.length : Int) + 1 := by omega
            have hz0 : ((L.length : Int) + 1 == 0) = false := beq_eq_false_iff_ne.mpr (by omega)
            have hnF : ¬ FW gi := fun h => HD.out gi h hF
            clear hcells e0 hblk hle
            go_wp2_with (go_at_call 12; refine (wrecv_to m true 0 ⟨2, 16, n, L, 0⟩ HWW.out HOK.out (recv2 HTT.out)).mono ?_; rintro r y1 ⟨rfl, hp, hu⟩
                         have HP := Lib.hid (And.intro hp hu)
                         have hb1 := HBK.out.upd hu hnF
                         have c0 : y1.cell? ⟨gi, oi, none⟩ = some (.string m) := by rw [hb1.cell oi]; exact HE0.out
                         have HB1 := Lib.hid hb1
                         clear hp hu hb1)
            have hv : ∃ o2, (if cap = 1 then some (⟨gi, oi, none⟩ : Addr) else some ⟨gi, oi + 1, none⟩) = some ⟨gi, o2, none⟩ ∧ o2 + (cap - 1) ≤ cur.size ∧ ∀ (i : Nat) (x : ByteArray), L[i]? = some x → cur[o2 + i]? = some (.string x) := by
              by_cases h1 : cap = 1
              · have hL0 : L = [] := List.eq_nil_of_length_eq_zero (by omega)
                exact ⟨oi, if_pos h1, by omega, fun i x hi => by rw [hL0] at hi; simp at hi⟩
              · refine ⟨oi + 1, if_neg h1, by omega, fun i x hi => ?_⟩
                have := hcc.out (i + 1) x (by simpa using hi)
                rw [show oi + 1 + i = oi + (i + 1) from by omega]
                exact this
            obtain ⟨o2, hv1, hv2, hv3⟩ := hv
            exact ⟨⟨k + 1, L, by omega, by omega, by go_num, ⟨⟨FW, FI, HP.out.1, Or.inr ⟨gi, o2, cap - 1, cur, by rw [hv1], hF, HB1.out, by omega, hv2, hv3⟩, HD.out, fun k hk => ⟨(HFW.out k hk).1, Nat.lt_of_lt_of_le (HFW.out k hk).2 HP.out.2.size⟩, fun k hk => ⟨(HFI.out k hk).1, Nat.lt_of_lt_of_le (HFI.out k hk).2 HP.out.2.size⟩⟩, below_upd HBN.out HP.out.2 (fun k hk => (HFW.out k hk).1), by rw [List.length_cons] at hL; omega⟩⟩, by simp [intOf]; omega⟩
      · have ds : s.toList.isEmpty = false := by simpa using hs
        have HS2 := Lib.hid (send2 (n := n) (L := L) (t := 0) HSZ.out HTT.out)
        have HSM : Hid (s.size ≤ maxLen) := by have := HSZ.out; show s.size ≤ maxLen; unfold maxLen; omega
        obtain ⟨a', c', rfl⟩ := HII.out.len
        by_cases hfull : (L.length : Int) = n
        · have HS3 : Hid (sendE ⟨2, 16, n, L, 0⟩ s.size t = 7 ∧ sendS ⟨2, 16, n, L, 0⟩ s t = ⟨2, 16, n, L, 0⟩) := by
            have := HS2.out
            rw [if_pos hfull, if_pos hfull] at this
            exact this
          have dl : decide ((L.length : Int) < n) = false := decide_eq_false (by omega)
          clear hfull
          go_wp2_with (first
            | (go_at_call 13; refine (wsend_any HWW.out HOK.out s t HSM.out).mono ?_; rintro r y1 ⟨rfl, hp, hu⟩; rw [HS3.out.1]; rw [HS3.out.2] at hp; have HP := Lib.hid (And.intro hp hu); clear hp hu)
            | (go_at_call 14; refine (wlen_any HP.out.1 HOK.out).mono ?_; rintro r y2 ⟨rfl, rfl⟩))
          refine ⟨⟨k + 1, L, by omega, by omega, by go_num, ⟨⟨_, FI, HP.out.1, HII.out.upd HP.out.2 (fun k h1 h2 => HD.out k h2 h1), fun k h1 h2 => ?_, fun k hk => ?_, fun k hk => ⟨(HFI.out k hk).1, Nat.lt_of_lt_of_le (HFI.out k hk).2 HP.out.2.size⟩⟩, below_upd HBN.out HP.out.2 (fun k hk => (HFW.out k hk).1), hL⟩⟩, by simp [intOf]; omega⟩
          · rcases h1 with h1 | h1
            · exact HD.out k h1 h2
            · have := (HFI.out k h2).2; have h3 : wr.heap.size ≤ k := h1.1; omega
          · rcases hk with hk | hk
            · exact ⟨(HFW.out k hk).1, Nat.lt_of_lt_of_le (HFW.out k hk).2 HP.out.2.size⟩
            · exact ⟨Nat.le_trans HBN.out.size hk.1, hk.2⟩
        · have HS3 : Hid (sendE ⟨2, 16, n, L, 0⟩ s.size t = 0 ∧ sendS ⟨2, 16, n, L, 0⟩ s t = ⟨2, 16, n, L ++ [s], 0⟩) := by
            have := HS2.out
            rw [if_neg hfull, if_neg hfull] at this
            exact this
          have dl : decide ((L.length : Int) < n) = true := decide_eq_true (by omega)
          have hL4 : L.length ≤ 4 := by omega
          have HL1 : Hid (((L ++ [s]).length : Int) = L.length + 1 ∧ (L.length : Int) + 1 ≤ n) := ⟨by simp, by omega⟩
          have HOK2 : Hid (WOk ⟨2, 16, n, L ++ [s], 0⟩) := wok2 (by decide) ⟨hn1, hn2⟩ (by rw [HL1.out.1]; exact HL1.out.2)
          clear hfull
          go_wp2_with (first
            | (go_at_call 13; refine (wsend_any HWW.out HOK.out s t HSM.out).mono ?_; rintro r y1 ⟨rfl, hp, hu⟩; rw [HS3.out.1]; rw [HS3.out.2] at hp
               have HP := Lib.hid (And.intro hp hu)
               have HI2 := Lib.hid ((HII.out.upd hu (fun k h1 h2 => HD.out k h2 h1)).alloc (.cells #[.string s] 9))
               clear hp hu)
            | (at_builtin; refine wpList_append_qrow _ (by rfl) _ _ (by rfl) (by rfl) HI2.out hL4 ⟨y1.heap.size, 0, none⟩ 1 (by rfl) (World.news_of_block (cs := #[.string s]) (t := 9) (fr := (0, 0)) (heap_alloc_new y1 _)) ?_
               intro a2' c2' y2 hq2 hu2
               have HQ2 := Lib.hid (And.intro hq2 hu2)
               have HW2 := Lib.hid ((HP.out.1.alloc (.cells #[.string s] 9)).upd hu2 (fun k h1 h2 => by
                 rcases h1 with h1 | h1
                 · exact HD.out k h1 h2
                 · have := (HFI.out k h2).2; have h3 : wr.heap.size ≤ k := h1.1; omega))
               clear hq2 hu2)
            | (go_at_call 14; refine (wlen_any HW2.out HOK2.out).mono ?_; rintro r y3 ⟨rfl, rfl⟩; rw [show (((⟨2, 16, n, L ++ [s], 0⟩ : WS).L.length : Int)) = L.length + 1 from HL1.out.1]))
          have z1 : wr.heap.size ≤ y1.heap.size := HP.out.2.size
          have z2 : y1.heap.size + 1 ≤ y2.heap.size := by have := HQ2.out.2.size; simpa using this
          refine ⟨⟨k + 1, L ++ [s], by omega, by omega, by go_num, ⟨⟨_, _, HW2.out, HQ2.out.1, fun k h1 h2 => ?_, fun k hk => ?_, fun k hk => ?_⟩, ?_, ?_⟩⟩, by simp [intOf]; omega⟩
          · rcases h1 with h1 | h1
            · rcases h2 with h2 | h2
              · exact HD.out k h1 h2
              · have h3 := h2.1; simp at h3; have := (HFW.out k h1).2; omega
            · rcases h2 with h2 | h2
              · have := (HFI.out k h2).2; have h3 : wr.heap.size ≤ k := h1.1; omega
              · have h3 := h2.1; simp at h3; have := h1.2; omega
          · rcases hk with hk | hk
            · have := HFW.out k hk; omega
            · have h3 : wr.heap.size ≤ k := hk.1; have := hk.2; have := HBN.out.size; exact ⟨Nat.le_trans this h3, by omega⟩
          · rcases hk with hk | hk
            · have := HFI.out k hk; omega
            · have h3 := hk.1; simp at h3; have := hk.2; have h4 : w.heap.size ≤ wr.heap.size := HBN.out.size; omega
          · refine below_upd ((below_upd HBN.out HP.out.2 (fun k hk => (HFW.out k hk).1)).alloc (Nat.le_trans HBN.out.size HP.out.2.size) _) HQ2.out.2 (fun k hk => (HFI.out k hk).1)
          · rw [HL1.out.1]; exact HL1.out.2
    · have HB := Lib.hid HR.out.b
      by_cases hk1 : k < n1
      · have hk3 : ¬ (k : Int) < 100 := by omega
        have hx1 : (k : Int) < n1 := by omega
        go_wp2_with fail
        go_ret
        exact ⟨rfl, HB.out⟩
      · have hx1 : ¬ (k : Int) < n1 := by omega
        go_wp2_with fail
        go_ret
        exact ⟨rfl, HB.out⟩
end Go.Proofs.Ytlaakcgipecldaa
