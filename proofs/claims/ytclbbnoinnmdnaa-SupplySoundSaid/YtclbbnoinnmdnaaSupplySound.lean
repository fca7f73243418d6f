/- SupplySound: the walk of the law: of any ticks in a row the server runs in as many at least as the supply says. -/
import Derived.Test.YtclbbnoinnmdnaaSupplyRuns
namespace Go.Proofs.Ytclbbnoinnmdnaa
set_option linter.all false
open Go.RowKit

set_option maxRecDepth 100000 in
set_option maxHeartbeats 4000000 in
theorem supplySound_core (w : World) (a0_0 : Int) (h0_0 : -9223372036854775808 ≤ a0_0 ∧ a0_0 ≤ 9223372036854775807) (a0_1 : Int) (h0_1 : -9223372036854775808 ≤ a0_1 ∧ a0_1 ≤ 9223372036854775807) (A1 : Option Addr) (n1 c1 : Nat) (Z1 : Nat → Nat → Value) (m1 : n1 ≤ maxLen) (r1 : Rd w A1 n1 [.int .i64] Z1) (a2 : Int) (h2 : -9223372036854775808 ≤ a2 ∧ a2 ≤ 9223372036854775807) :
    Calls Try.prog 9 #[.agg #[.int .i64 a0_0, .int .i64 a0_1], .slice A1 n1 c1, .int .i64 a2] w (Holds w) := by
  have hok := made_ok a0_0 a0_1
  obtain ⟨P, hP⟩ : ∃ P : Nat, madeP a0_0 = P := Int.eq_ofNat_of_zero_le (by have := hok.1; omega)
  obtain ⟨B, hB⟩ : ∃ B : Nat, madeB a0_0 a0_1 = B := Int.eq_ofNat_of_zero_le (by have := hok.2.2.1; omega)
  have hmade := made_any a0_0 a0_1
  rw [hP, hB] at hok hmade
  have MADE := Lib.hid hmade
  clear hP hB hmade
  have OK := Lib.hid hok
  have M1 := Lib.hid m1
  have R1 := Lib.hid r1
  obtain ⟨k1, k2, k3, k4⟩ := hok
  have hpz : 0 < 40 * P := by omega
  have q0 := Int.emod_nonneg a2 (b := ((40 * P : Nat) : Int)) (by omega)
  have q1 := Int.emod_lt_of_pos a2 (b := ((40 * P : Nat) : Int)) (by omega)
  obtain ⟨a, ha⟩ : ∃ a : Nat, a2 % ((40 * P : Nat) : Int) = a := Int.eq_ofNat_of_zero_le q0
  have ha' : a2 % (40 * (P : Int)) = a := by rw [← ha]; congr 1
  have hal : a < 40 * P := by omega
  clear m1 r1 ha q0 q1
  go_enter Try.func9, Try.ntmps9
  go_wp2_with (first
    | (go_at_call 27; refine (supply_works _).mono ?_; rintro r x0 ⟨rfl, hx⟩; have HS := Lib.hid ((Blk.new w 47 #[.int .i64 a0_0, .int .i64 a0_1]).below hx (by simp)); obtain ⟨c0, c1', f0, f1⟩ := two_facts HS.out; have HU := Lib.hid (((Below.refl w.heap.size w).alloc (Nat.le_refl _) (.cells #[.int .i64 a0_0, .int .i64 a0_1] 47)).trans (hx.mono (by simp))); clear hx)
    | (go_at_call 30; refine (MADE.out _ (by assumption) (by assumption)).mono ?_; rintro r x1 ⟨rfl, hx⟩; have hb1 := HS.out.below hx HS.out.lt; obtain ⟨c0, c1', f0, f1⟩ := two_facts hb1; replace HS := Lib.hid (two_set hb1 (.int .i64 P) (.int .i64 B)); replace HU := Lib.hid (((HU.out.trans (hx.mono HU.out.size)).setCell (p := ⟨w.heap.size, 0, none⟩) (Nat.le_refl _) (.int .i64 P)).setCell (p := ⟨w.heap.size, 1, none⟩) (Nat.le_refl _) (.int .i64 B)); clear hx hb1)
    | (go_at_call 31; refine (runs_any P B _ OK.out A1 n1 _ Z1 M1.out (R1.out.keep HU.out)).mono ?_; intro r x2 hrp; obtain ⟨g, cap, L, rfl, hown, hlen, hrun, hx⟩ := hrp; replace HS := Lib.hid (HS.out.below hx HS.out.lt); have HU0 := HU; replace HU := Lib.hid (HU.out.trans (hx.mono HU.out.size)); have HO := Lib.hid (And.intro hown (And.intro hlen hrun)); clear hx hown hlen hrun; obtain ⟨c0, c1', f0, f1⟩ := two_facts HS.out)
    | (go_at_call 15; refine (bring_any _ _ _ (by assumption) (by omega)).mono ?_; rintro r x3 ⟨rfl, -, rfl⟩))
  have hd1 : decide (a < 40 * P) = true := by simpa using hal
  clear ha' f0 f1
  go_loopw [8, 10] (fun sn st wr => ∃ (t : Nat) (n : Int), t ≤ 150 ∧ a + t ≤ 40 * P ∧ st = .int .i64 t ∧ sn = .int .i64 n ∧ 0 ≤ n ∧ n ≤ t ∧ Hid (n = cntT L (a + t) - cntT L a ∧ Below x2.heap.size x2 wr)) (fun _ st _ => 150 - (intOf st).toNat)
  case atStart => exact ⟨0, 0, by omega, by omega, rfl, rfl, by omega, by omega, ⟨by simp, Below.refl _ _⟩⟩
  case round =>
    obtain ⟨t, n, ht, hat, rfl, rfl, hn0, hn1, hw⟩ := hrel
    have HSr := Lib.hid (HS.out.below hw.out.2 HS.out.lt)
    clear c0 c1'
    obtain ⟨c0, c1', _, _⟩ := two_facts HSr.out
    by_cases hc : t < 150 ∧ a + t < 40 * P
    · obtain ⟨hc1, hc2⟩ := hc
      have hwin := window OK.out L P rfl HO.out.2.1 HO.out.2.2 a t hc2
      rw [← hw.out.1] at hwin
      have hidx : a + t < L.length := by have := HO.out.2.1; omega
      have hstep := cntT_step L (a + t) hidx
      obtain ⟨x, hx⟩ : ∃ x : Bool, L[a + t]'hidx = x := ⟨_, rfl⟩
      rw [hx] at hstep
      have hcell : wr.cell? ⟨g, a + t, none⟩ = some (.bool x) := by
        have h1 := HO.out.1.cells (g := g) rfl (a + t) (.bool x) (by rw [List.getElem?_map, List.getElem?_eq_getElem hidx, hx]; rfl)
        have hlt := HO.out.1.form hpz
        obtain ⟨g', cap', hv, _, hlt⟩ := hlt
        have hg : g = g' := by injection hv with h; injection h with h; injection h
        rw [← hg] at hlt
        have h2 : wr.cell? ((⟨g, 0, none⟩ : Addr).add (a + t)) = x2.cell? ((⟨g, 0, none⟩ : Addr).add (a + t)) := hw.out.2.cell (by unfold Addr.add; split <;> exact hlt)
        have h3 : (⟨g, 0, none⟩ : Addr).add (a + t) = ⟨g, a + t, none⟩ := by unfold Addr.add; split <;> simp_all
        rw [← h3, h2, h1]
      have hi0 : (0 : Int) ≤ (a : Int) + t := by omega
      have hi1 : (a : Int) + t < 40 * (P : Int) := by omega
      have hd2 : decide ((t : Int) < 150) = true := by simp; omega
      have HSTEP := Lib.hid hstep
      have HWIN := hwin
      clear hstep hwin hx hidx
      obtain ⟨G, hG⟩ : ∃ G, givesI P B t = G := ⟨_, rfl⟩
      rw [hG] at HWIN
      cases x with
      | true =>
        go_wp2_with (first
          | (go_at_call 25; refine (Of_ok P B _ _ OK.out (by omega)).mono ?_; rintro r x4 ⟨rfl, hx⟩; have hcell4 : x4.cell? ⟨g, a + t, none⟩ = some (.bool true) := (hx.cell (p := ⟨g, a + t, none⟩) (cell_lt hcell)).trans hcell; have HB4 := Lib.hid (hw.out.2.trans (hx.mono hw.out.2.size)); clear hx))
        refine ⟨⟨t + 1, n + 1, by omega, by omega, by go_num, rfl, by omega, by omega, ⟨?_, HB4.out⟩⟩, by simp [intOf]; omega⟩
        have h1 := HSTEP.out
        simp at h1
        rw [show a + (t + 1) = a + t + 1 from by omega, h1]
        have := hw.out.1
        omega
      | false =>
        go_wp2_with (first
          | (go_at_call 25; refine (Of_ok P B _ _ OK.out (by omega)).mono ?_; rintro r x4 ⟨rfl, hx⟩; have hcell4 : x4.cell? ⟨g, a + t, none⟩ = some (.bool false) := (hx.cell (p := ⟨g, a + t, none⟩) (cell_lt hcell)).trans hcell; have HB4 := Lib.hid (hw.out.2.trans (hx.mono hw.out.2.size)); clear hx))
        refine ⟨⟨t + 1, n, by omega, by omega, by go_num, rfl, by omega, by omega, ⟨?_, HB4.out⟩⟩, by simp [intOf]; omega⟩
        have h1 := HSTEP.out
        simp at h1
        rw [show a + (t + 1) = a + t + 1 from by omega, h1]
        have := hw.out.1
        omega
    · have HB4 := Lib.hid (HU.out.trans (hw.out.2.mono HU.out.size))
      by_cases hc1 : t < 150
      · have hc2 : ¬ (a : Int) + t < 40 * (P : Int) := by omega
        go_wp2_with fail
        go_ret
        exact ⟨rfl, HB4.out⟩
      · go_wp2_with fail
        go_ret
        exact ⟨rfl, HB4.out⟩
end Go.Proofs.Ytclbbnoinnmdnaa
