/- Which plans there may be: the walk of the document's asked. -/
import Derived.Test.YtogdpkeojccpcaaTurnAsk
import Derived.Test.YtogdpkeojccpcaaPurseRef
import Derived.Deep.RegionHeld3
namespace Go.Proofs.Ytogdpkeojccpcaa
set_option linter.all false
open Go.RowKit

set_option maxRecDepth 100000 in
set_option maxHeartbeats 8000000 in
theorem rask_any {w : World} {A A2 : Option Addr} {m mb : Nat} {P B S : Nat → Int} (h : Pts w A m P B) (hI : ∀ i, i < m → I64 (P i) ∧ I64 (B i)) (h2 : IntsW w A2 mb S) (c c2 : Nat) (n : Int) :
    Calls Try.prog 62 #[.slice A m c, .slice A2 mb c2, .int .i64 n] w fun r w' => (∃ E, r = .returned (.int .i64 E) ∧ AskIs P B S m mb n E) ∧ Below w.heap.size w w' := by
  obtain ⟨Z, hr, hP⟩ := h.rd
  have HR := Lib.hid hr
  have HP := Lib.hid hP
  have H2 := Lib.hid h2
  have HI := Lib.hid hI
  clear hr hP h2 hI h
  by_cases h4 : 4 < m ∨ n < 0 ∨ 1000 < n
  · have HN : Hid (AskIs P B S m mb n 5) := Or.inl ⟨rfl, h4⟩
    by_cases a1 : 4 < m
    · have a1' : (4 : Int) < m := by omega
      clear h4
      go_enter Try.func62, Try.ntmps62
      go_wp2_with fail
      go_ret
      exact ⟨⟨5, rfl, HN.out⟩, Below.refl _ _⟩
    · have a1' : (m : Int) ≤ 4 := by omega
      by_cases a2 : n < 0
      · clear h4
        go_enter Try.func62, Try.ntmps62
        go_wp2_with fail
        go_ret
        exact ⟨⟨5, rfl, HN.out⟩, Below.refl _ _⟩
      · have a3 : 1000 < n := by omega
        clear h4
        go_enter Try.func62, Try.ntmps62
        go_wp2_with fail
        go_ret
        exact ⟨⟨5, rfl, HN.out⟩, Below.refl _ _⟩
  · have b1 : (m : Int) ≤ 4 := by omega
    have b2 : 0 ≤ n := by omega
    have b3 : n ≤ 1000 := by omega
    have HB3 : Hid (m ≤ 4 ∧ 0 ≤ n ∧ n ≤ 1000) := ⟨by omega, b2, b3⟩
    clear h4
    by_cases hm : mb = m
    · subst hm
      go_enter Try.func62, Try.ntmps62
      go_wp2_with fail
      go_loopw [7] (fun vi wr => ∃ k : Nat, k ≤ mb ∧ vi = .int .i64 (k : Int) ∧ Hid (AskOk P B S k ∧ Below w.heap.size w wr)) (fun vi _ => mb - (intOf vi).toNat)
      case atStart => exact ⟨0, by omega, rfl, fun i hi => by omega, Below.refl _ _⟩
      case round =>
        obtain ⟨k, hk, rfl, HK⟩ := hrel
        by_cases hkm : k < mb
        · have hx0 : (0 : Int) ≤ k := by omega
          have hx1 : (k : Int) < mb := by omega
          have w1 : IntKind.i64.wrap ((k : Int) + 1) = (k : Int) + 1 := IntWalk.i64_in _ (by omega)
          obtain ⟨gb, off, rfl, hlt, hcell⟩ := HR.out k hkm
          obtain ⟨p0, p1⟩ := HP.out k hkm
          obtain ⟨c0, _⟩ := hcell 0 _ rfl
          obtain ⟨c1, _⟩ := hcell 1 _ rfl
          rw [p0] at c0
          rw [p1] at c1
          have hsz := HK.out.2.size
          rw [← HK.out.2.cell (p := ⟨gb, _, none⟩) hlt] at c0 c1
          simp [← Nat.add_assoc] at c0 c1
          obtain ⟨gs, offs, rfl, hlts, d0⟩ := H2.out.at_ k hkm
          rw [← HK.out.2.cell (p := ⟨gs, _, none⟩) hlts] at d0
          obtain ⟨pk, hpk⟩ : ∃ x, P k = x := ⟨_, rfl⟩
          obtain ⟨bk, hbk⟩ : ∃ x, B k = x := ⟨_, rfl⟩
          obtain ⟨sk, hsk⟩ : ∃ x, S k = x := ⟨_, rfl⟩
          have hik := (HI.out k hkm).1
          rw [hpk] at c0 hik
          rw [hbk] at c1
          rw [hsk] at d0
          have HKE := Lib.hid (And.intro hpk (And.intro hbk hsk))
          have HIK := Lib.hid hik
          clear hpk hbk hsk p0 p1 hcell hik
          by_cases hok : OkP pk bk
          · have HE := Lib.hid (newE_ok hok)
            have HOK := Lib.hid hok
            clear hok
            by_cases hs0 : sk < 0
            · have hd1 : decide (sk < 0) = true := decide_eq_true hs0
              go_wp2_with fail
              go_region_held3 (fun w' => w'.cell? ⟨gb, off + k * 3, none⟩ = some (.int .i64 pk) ∧ w'.cell? ⟨gb, off + k * 3 + 1, none⟩ = some (.int .i64 bk) ∧ w'.cell? ⟨gs, offs + k, none⟩ = some (.int .i64 sk)) (first | go_keep | (exact E1.out))
                (first | (go_at_call 35; refine (rnew_any pk bk 0 _ HIK.out ⟨by decide, by decide⟩).mono ?_; rintro r x1 ⟨a, rfl, hb, -, -⟩; rw [HE.out]
                          have E1 : Hid (x1.cell? ⟨gb, off + k * 3, none⟩ = some (.int .i64 pk) ∧ x1.cell? ⟨gb, off + k * 3 + 1, none⟩ = some (.int .i64 bk) ∧ x1.cell? ⟨gs, offs + k, none⟩ = some (.int .i64 sk)) := ⟨(hb.cell (p := ⟨gb, off + k * 3, none⟩) (by simp; omega)).trans c0, (hb.cell (p := ⟨gb, off + k * 3 + 1, none⟩) (by simp; omega)).trans c1, (hb.cell (p := ⟨gs, offs + k, none⟩) (by simp; omega)).trans d0⟩
                          have HB := Lib.hid hb
                          clear hb))
              have d1 := E1.out.2.2
              go_wp2_with fail
              go_ret
              refine ⟨⟨2, rfl, Or.inr ⟨HB3.out, Or.inl ⟨rfl, Or.inr fun h => ?_⟩⟩⟩, HK.out.2.drew.trans (HB.out.mono (by simp; omega))⟩
              have := (h k hkm).2.1
              rw [HKE.out.2.2] at this
              omega
            · have hd1 : decide (sk < 0) = false := decide_eq_false hs0
              by_cases hs1 : sk > 1000
              · have hd2 : decide (sk > 1000) = true := decide_eq_true hs1
                go_wp2_with fail
                go_region_held3 (fun w' => w'.cell? ⟨gb, off + k * 3, none⟩ = some (.int .i64 pk) ∧ w'.cell? ⟨gb, off + k * 3 + 1, none⟩ = some (.int .i64 bk) ∧ w'.cell? ⟨gs, offs + k, none⟩ = some (.int .i64 sk)) (first | go_keep | (exact E1.out))
                  (first | (go_at_call 35; refine (rnew_any pk bk 0 _ HIK.out ⟨by decide, by decide⟩).mono ?_; rintro r x1 ⟨a, rfl, hb, -, -⟩; rw [HE.out]
                            have E1 : Hid (x1.cell? ⟨gb, off + k * 3, none⟩ = some (.int .i64 pk) ∧ x1.cell? ⟨gb, off + k * 3 + 1, none⟩ = some (.int .i64 bk) ∧ x1.cell? ⟨gs, offs + k, none⟩ = some (.int .i64 sk)) := ⟨(hb.cell (p := ⟨gb, off + k * 3, none⟩) (by simp; omega)).trans c0, (hb.cell (p := ⟨gb, off + k * 3 + 1, none⟩) (by simp; omega)).trans c1, (hb.cell (p := ⟨gs, offs + k, none⟩) (by simp; omega)).trans d0⟩
                            have HB := Lib.hid hb
                            clear hb))
                have d1 := E1.out.2.2
                go_wp2_with fail
                go_ret
                refine ⟨⟨2, rfl, Or.inr ⟨HB3.out, Or.inl ⟨rfl, Or.inr fun h => ?_⟩⟩⟩, HK.out.2.drew.trans (HB.out.mono (by simp; omega))⟩
                have := (h k hkm).2.2
                rw [HKE.out.2.2] at this
                omega
              · have hd2 : decide (sk > 1000) = false := decide_eq_false hs1
                have HS : Hid (0 ≤ sk ∧ sk ≤ 1000) := ⟨by omega, by omega⟩
                go_wp2_with fail
                go_region_held3 (fun w' => w'.cell? ⟨gb, off + k * 3, none⟩ = some (.int .i64 pk) ∧ w'.cell? ⟨gb, off + k * 3 + 1, none⟩ = some (.int .i64 bk) ∧ w'.cell? ⟨gs, offs + k, none⟩ = some (.int .i64 sk)) (first | go_keep | (exact E1.out))
                  (first | (go_at_call 35; refine (rnew_any pk bk 0 _ HIK.out ⟨by decide, by decide⟩).mono ?_; rintro r x1 ⟨a, rfl, hb, -, -⟩; rw [HE.out]
                            have E1 : Hid (x1.cell? ⟨gb, off + k * 3, none⟩ = some (.int .i64 pk) ∧ x1.cell? ⟨gb, off + k * 3 + 1, none⟩ = some (.int .i64 bk) ∧ x1.cell? ⟨gs, offs + k, none⟩ = some (.int .i64 sk)) := ⟨(hb.cell (p := ⟨gb, off + k * 3, none⟩) (by simp; omega)).trans c0, (hb.cell (p := ⟨gb, off + k * 3 + 1, none⟩) (by simp; omega)).trans c1, (hb.cell (p := ⟨gs, offs + k, none⟩) (by simp; omega)).trans d0⟩
                            have HB := Lib.hid hb
                            clear hb))
                have d1 := E1.out.2.2
                go_wp2_with fail
                refine ⟨⟨k + 1, by omega, by go_num, ⟨fun i hi => ?_, HK.out.2.drew.trans (HB.out.mono (by simp; omega))⟩⟩, by simp [intOf]; try omega⟩
                by_cases hik : i = k
                · subst hik
                  rw [HKE.out.1, HKE.out.2.1, HKE.out.2.2]
                  exact ⟨HOK.out, HS.out⟩
                · exact HK.out.1 i (by omega)
          · have HE := Lib.hid (newE_no hok)
            have HOK := Lib.hid hok
            clear hok
            go_wp2_with fail
            go_region_held3 (fun w' => w'.cell? ⟨gb, off + k * 3, none⟩ = some (.int .i64 pk) ∧ w'.cell? ⟨gb, off + k * 3 + 1, none⟩ = some (.int .i64 bk) ∧ w'.cell? ⟨gs, offs + k, none⟩ = some (.int .i64 sk)) (first | go_keep | (exact E1.out))
              (first | (go_at_call 35; refine (rnew_any pk bk 0 _ HIK.out ⟨by decide, by decide⟩).mono ?_; rintro r x1 ⟨a, rfl, hb, -, -⟩; rw [HE.out]
                        have E1 : Hid (x1.cell? ⟨gb, off + k * 3, none⟩ = some (.int .i64 pk) ∧ x1.cell? ⟨gb, off + k * 3 + 1, none⟩ = some (.int .i64 bk) ∧ x1.cell? ⟨gs, offs + k, none⟩ = some (.int .i64 sk)) := ⟨(hb.cell (p := ⟨gb, off + k * 3, none⟩) (by simp; omega)).trans c0, (hb.cell (p := ⟨gb, off + k * 3 + 1, none⟩) (by simp; omega)).trans c1, (hb.cell (p := ⟨gs, offs + k, none⟩) (by simp; omega)).trans d0⟩
                        have HB := Lib.hid hb
                        clear hb))
            have d1 := E1.out.2.2
            go_wp2_with fail
            go_ret
            refine ⟨⟨2, rfl, Or.inr ⟨HB3.out, Or.inl ⟨rfl, Or.inr fun h => ?_⟩⟩⟩, HK.out.2.drew.trans (HB.out.mono (by simp; omega))⟩
            have := (h k hkm).1
            rw [HKE.out.1, HKE.out.2.1] at this
            exact HOK.out this
        · obtain rfl : k = mb := by omega
          go_wp2_with fail
          go_ret
          exact ⟨⟨0, rfl, Or.inr ⟨HB3.out, Or.inr ⟨rfl, rfl, HK.out.1⟩⟩⟩, HK.out.2⟩
    · have HN : Hid (AskIs P B S m mb n 2) := Or.inr ⟨HB3.out, Or.inl ⟨rfl, Or.inl hm⟩⟩
      have hd : ((mb : Int) != (m : Int)) = true := by simp; omega
      have hd2 : ¬ ((mb : Int) = (m : Int)) := by omega
      go_enter Try.func62, Try.ntmps62
      go_wp2_with fail
      go_ret
      exact ⟨⟨2, rfl, HN.out⟩, Below.refl _ _⟩
end Go.Proofs.Ytogdpkeojccpcaa
