/- Package rank: the walk of down. -/
import Derived.Test.YtbfbahedbfjcoaaRankPut
namespace Go.Proofs.Ytbfbahedbfjcoaa
set_option linter.all false
open Go.RowKit

structure DownPost (w w' : World) (h gl n cap : Nat) (M : Nat → Option Int) (s : HS) : Prop where
  hp : HpS w' h gl n cap s
  rep : RepP n s M
  heap : HeapP n s
  u : Upd (fun q => q = h ∨ q = gl) w w'
structure DnRound (w wr : World) (h gl n cap : Nat) (M : Nat → Option Int) (x : Nat) (k : Int) (a : Nat) (s : HS) : Prop where
  hp : HpS wr h gl n cap s
  blk : Blk wr w.heap.size 69 #[.int .i64 x, .int .i64 k]
  u : Upd (fun q => q = h ∨ q = gl) w wr
  rep : RepP n (layS a x k s) M
  dn : DownI n a (layS a x k s)

set_option maxRecDepth 100000 in
set_option maxHeartbeats 8000000 in
theorem down_any {w : World} {h gl n cap : Nat} {s0 : HS} {M : Nat → Option Int} (hp : HpS w h gl n cap s0) (i : Nat) (hi : i < n) (hn : n ≤ 64) (hrep : RepP n s0 M) (hdn : DownI n i s0) :
    Calls Try.prog 46 #[.pointer (some ⟨h, 0, none⟩), .int .i64 i] w fun r w' => r = .returned (.tuple #[]) ∧ ∃ s, DownPost w w' h gl n cap M s := by
  have HP := Lib.hid hp
  have e0 : w.cell? ⟨h, 0, none⟩ = some (.slice (some ⟨gl, 0, none⟩) n cap) := by rw [hp.p.hb.cell]; exact hpA_0 _ _
  obtain ⟨c0, c1⟩ := hp.p.cells hi
  obtain ⟨x, hx64, hx, hxM, _⟩ := hrep.at_ i hi
  obtain ⟨k, hk⟩ : ∃ x, s0.K i = x := ⟨_, rfl⟩
  have hstart : RepP n (layS i x k s0) M ∧ DownI n i (layS i x k s0) := by
    rw [← hx, ← hk, layS_same hrep hi]
    exact ⟨hrep, hdn⟩
  rw [hx] at c0
  rw [hk] at c1
  have HS0 := Lib.hid hstart
  have hx0 : (0 : Int) ≤ i := by omega
  have hx1 : (i : Int) < n := by omega
  have hlt := hp.p.hb.lt
  have hltg : gl < w.heap.size := by obtain ⟨cur, hb, _⟩ := hp.p.row; exact hb.lt
  clear hp hx hk hrep hdn hstart hxM
  go_enter Try.func46, Try.ntmps46
  go_wp2_with fail
  have HR0 : Hid (DnRound w (w.alloc (.cells #[.int .i64 x, .int .i64 k] 69)) h gl n cap M x k i s0) :=
    ⟨⟨HP.out.p.alloc _⟩, Blk.new _ _ _, (Upd.refl _ _).alloc _, HS0.out.1, HS0.out.2⟩
  clear e0 c0 c1
  go_loopw [1] (fun va wr => ∃ (a : Nat) (s : HS), a < n ∧ va = .int .i64 a ∧ Hid (DnRound w wr h gl n cap M x k a s)) (fun va _ => n - (intOf va).toNat)
  case atStart => exact ⟨i, s0, hi, rfl, HR0⟩
  case round =>
    obtain ⟨a, s, ha, rfl, HR⟩ := hrel
    clear HR0 HP HS0
    have b0 := HR.out.blk.cell 0
    have b1 := HR.out.blk.cell 1
    simp at b0 b1
    have e0 : wr.cell? ⟨h, 0, none⟩ = some (.slice (some ⟨gl, 0, none⟩) n cap) := by rw [HR.out.hp.p.hb.cell]; exact hpA_0 _ _
    obtain ⟨av, hav⟩ : ∃ z : Int, (a : Int) = z := ⟨_, rfl⟩
    obtain ⟨t1, ht1⟩ : ∃ z : Int, 2 * av = z := ⟨_, rfl⟩
    obtain ⟨p1, hp1⟩ : ∃ p, 2 * a + 1 = p := ⟨_, rfl⟩
    obtain ⟨p2, hp2⟩ : ∃ p, 2 * a + 2 = p := ⟨_, rfl⟩
    have w1 : IntKind.i64.wrap (2 * av) = t1 := by rw [ht1]; exact IntWalk.i64_in _ (by omega)
    have w2 : IntKind.i64.wrap (t1 + 1) = (p1 : Int) := by rw [show t1 + 1 = (p1 : Int) from by omega]; exact IntWalk.i64_in _ (by omega)
    have w3 : IntKind.i64.wrap ((p1 : Int) + 1) = (p2 : Int) := by rw [show (p1 : Int) + 1 = (p2 : Int) from by omega]; exact IntWalk.i64_in _ (by omega)
    have HAV : Hid ((a : Int) = av ∧ 2 * a + 1 = p1 ∧ 2 * a + 2 = p2) := ⟨hav, hp1, hp2⟩
    rw [hav]
    have ha64 : a < 64 := by omega
    clear hav ht1
    by_cases h1 : p1 < n
    · obtain ⟨c10, c11⟩ := HR.out.hp.p.cells h1
      have hy0 : (0 : Int) ≤ p1 := by omega
      have hy1 : (p1 : Int) < n := by omega
      have hgn : decide ((p1 : Int) ≥ (n : Int)) = false := decide_eq_false (by omega)
      have hgn' : ¬ n ≤ p1 := by omega
      have hgn'' : decide (n ≤ p1) = false := decide_eq_false hgn'
      obtain ⟨x1, hx1_64, hx1', _, _⟩ := HR.out.rep.at_ p1 h1
      rw [layS_I, if_neg (by omega)] at hx1'
      obtain ⟨k1, hk1⟩ : ∃ z, s.K p1 = z := ⟨_, rfl⟩
      rw [hx1'] at c10
      rw [hk1] at c11
      have H1 : Hid (s.I p1 = x1 ∧ s.K p1 = k1) := ⟨hx1', hk1⟩
      clear hx1' hk1
      by_cases h2 : p2 < n
      · obtain ⟨c20, c21⟩ := HR.out.hp.p.cells h2
        have hz0 : (0 : Int) ≤ p2 := by omega
        have hz1 : (p2 : Int) < n := by omega
        have hgn2 : decide ((p2 : Int) ≥ (n : Int)) = false := decide_eq_false (by omega)
        have hgn2' : ¬ n ≤ p2 := by omega
        have hgn2'' : decide (n ≤ p2) = false := decide_eq_false hgn2'
        have h2d : decide (p2 < n) = true := decide_eq_true h2
        obtain ⟨x2, hx2_64, hx2', _, _⟩ := HR.out.rep.at_ p2 h2
        rw [layS_I, if_neg (by omega)] at hx2'
        obtain ⟨k2, hk2⟩ : ∃ z, s.K p2 = z := ⟨_, rfl⟩
        rw [hx2'] at c20
        rw [hk2] at c21
        have H2 : Hid (s.I p2 = x2 ∧ s.K p2 = k2) := ⟨hx2', hk2⟩
        clear hx2' hk2 hp1 hp2
        go_wp2_with fail
        go_region_held3 (fun w' => w'.cell? ⟨w.heap.size, 0, none⟩ = some (.int .i64 x) ∧ w'.cell? ⟨w.heap.size, 1, none⟩ = some (.int .i64 k) ∧ w'.cell? ⟨h, 0, none⟩ = some (.slice (some ⟨gl, 0, none⟩) n cap) ∧ w'.cell? ⟨gl, p1 * 2, none⟩ = some (.int .i64 x1) ∧ w'.cell? ⟨gl, p1 * 2 + 1, none⟩ = some (.int .i64 k1) ∧ w'.cell? ⟨gl, p2 * 2, none⟩ = some (.int .i64 x2) ∧ w'.cell? ⟨gl, p2 * 2 + 1, none⟩ = some (.int .i64 k2)) (first | go_keep | (exact E1.out))
          (first | (go_at_call 47; refine (ahead_one _ _ _ _ _).mono ?_; rintro r y ⟨rfl, hb⟩
                    have HP1 := Lib.hid (HR.out.hp.p.drew.below hb)
                    have HB1 := Lib.hid (HR.out.blk.drew.below hb HR.out.blk.lt)
                    have E1 : Hid (y.cell? ⟨w.heap.size, 0, none⟩ = some (.int .i64 x) ∧ y.cell? ⟨w.heap.size, 1, none⟩ = some (.int .i64 k) ∧ y.cell? ⟨h, 0, none⟩ = some (.slice (some ⟨gl, 0, none⟩) n cap) ∧ y.cell? ⟨gl, p1 * 2, none⟩ = some (.int .i64 x1) ∧ y.cell? ⟨gl, p1 * 2 + 1, none⟩ = some (.int .i64 k1) ∧ y.cell? ⟨gl, p2 * 2, none⟩ = some (.int .i64 x2) ∧ y.cell? ⟨gl, p2 * 2 + 1, none⟩ = some (.int .i64 k2)) := by
                      refine ⟨by simpa using HB1.out.cell 0, by simpa using HB1.out.cell 1, by rw [HP1.out.hb.cell]; exact hpA_0 _ _, ?_, ?_, ?_, ?_⟩
                      · rw [(HP1.out.cells h1).1, H1.out.1]
                      · rw [(HP1.out.cells h1).2, H1.out.2]
                      · rw [(HP1.out.cells h2).1, H2.out.1]
                      · rw [(HP1.out.cells h2).2, H2.out.2]
                    have HU1 : Hid (Below wr.heap.size wr y) := (Below.refl wr.heap.size wr).drew.trans hb
                    clear hb))
        clear b0 b1 e0 c10 c11 c20 c21
        by_cases hA2 : AheadP (x2 : Int) k2 (x1 : Int) k1
        · rw [decide_eq_true hA2]
          have HM : Hid (∀ j, 0 < j → j < n → (j - 1) / 2 = a → ¬ AheadP (s.I j) (s.K j) (x2 : Int) k2) := fun j hj0 hj hja => by
            have := HAV.out
            have hj2 : j = p1 ∨ j = p2 := by omega
            rcases hj2 with rfl | rfl
            · rw [H1.out.1, H1.out.2]; unfold AheadP at hA2 ⊢; omega
            · rw [H2.out.1, H2.out.2]; unfold AheadP; omega
          clear hA2
          have c0 := (HP1.out.cells (show p2 < n by omega)).1
          have c1 := (HP1.out.cells (show p2 < n by omega)).2
          rw [H2.out.1] at c0
          rw [H2.out.2] at c1
          have b0 := HB1.out.cell 0
          have b1 := HB1.out.cell 1
          simp at b0 b1
          have e0 : y.cell? ⟨h, 0, none⟩ = some (.slice (some ⟨gl, 0, none⟩) n cap) := by rw [HP1.out.hb.cell]; exact hpA_0 _ _
          go_wp2_with fail
          go_region_held3 (fun w' => w'.cell? ⟨w.heap.size, 0, none⟩ = some (.int .i64 x) ∧ w'.cell? ⟨w.heap.size, 1, none⟩ = some (.int .i64 k) ∧ w'.cell? ⟨h, 0, none⟩ = some (.slice (some ⟨gl, 0, none⟩) n cap) ∧ w'.cell? ⟨gl, p2 * 2, none⟩ = some (.int .i64 x2) ∧ w'.cell? ⟨gl, p2 * 2 + 1, none⟩ = some (.int .i64 k2)) (first | go_keep | (exact E2.out))
            (first | (go_at_call 47; refine (ahead_one _ _ _ _ _).mono ?_; rintro r z ⟨rfl, hb⟩
                      have HP2 := Lib.hid (HP1.out.drew.below hb)
                      have HB2 := Lib.hid (HB1.out.drew.below hb HB1.out.lt)
                      have E2 : Hid (z.cell? ⟨w.heap.size, 0, none⟩ = some (.int .i64 x) ∧ z.cell? ⟨w.heap.size, 1, none⟩ = some (.int .i64 k) ∧ z.cell? ⟨h, 0, none⟩ = some (.slice (some ⟨gl, 0, none⟩) n cap) ∧ z.cell? ⟨gl, p2 * 2, none⟩ = some (.int .i64 x2) ∧ z.cell? ⟨gl, p2 * 2 + 1, none⟩ = some (.int .i64 k2)) := by
                        refine ⟨by simpa using HB2.out.cell 0, by simpa using HB2.out.cell 1, by rw [HP2.out.hb.cell]; exact hpA_0 _ _, ?_, ?_⟩
                        · rw [(HP2.out.cells (show p2 < n by omega)).1, H2.out.1]
                        · rw [(HP2.out.cells (show p2 < n by omega)).2, H2.out.2]
                      have HU2 : Hid (Below wr.heap.size wr z) := HU1.out.drew.trans (hb.mono HU1.out.size)
                      clear hb))
          clear b0 b1 e0 c0 c1
          by_cases hA : AheadP (x2 : Int) k2 (x : Int) k
          · rw [decide_eq_true hA]
            have HA := Lib.hid hA
            clear hA
            go_wp2_with (go_at_call 45; refine (lay_to a x2 k2 HP2.out HAV.out.1.symm rfl ha (by assumption) hn).mono ?_; rintro r y2 ⟨rfl, hp, hu⟩; have HL := Lib.hid (And.intro hp hu); clear hp hu)
            have hq0 := H2.out.1
            have hq1 := H2.out.2
            have hA' := HA.out
            have hav := HAV.out
            have hs' : layS a x2 k2 s = ⟨updP s.I a x2, updP s.K a k2, updP s.Pl x2 (a + 1)⟩ := by unfold layS; rw [Int.toNat_natCast]
            have hu : Upd (fun q => q = h ∨ q = gl) w y2 := (HR.out.u.trans (Upd.of_below HU2.out |>.mono_ge (Nat.le_refl _))).trans HL.out.2
            have hne1 : w.heap.size ≠ h ∧ w.heap.size ≠ gl := by omega
            refine ⟨⟨p2, layS a x2 k2 s, by omega, rfl, ⟨⟨by rw [hs']; exact HL.out.1⟩, HB2.out.upd HL.out.2 (by omega), hu, ?_, ?_⟩⟩, ?_⟩
            · rw [← hq0, ← hq1]
              exact rep_swap HR.out.rep (by omega) ha (by omega)
            · have := down_step (c := p2) HR.out.dn (by omega) ⟨by omega, by omega⟩ (by rw [hq0, hq1]; exact hA') (fun j j0 jn ja => by rw [hq0, hq1]; exact HM.out j j0 jn ja)
              rw [hq0, hq1] at this
              exact this
            · show n - (p2 : Int).toNat < n - av.toNat
              omega
          · rw [decide_eq_false hA]
            have HA := Lib.hid hA
            clear hA
            go_wp2_with (go_at_call 45; refine (lay_to a x k HP2.out HAV.out.1.symm rfl ha hx64 hn).mono ?_; rintro r y2 ⟨rfl, hp, hu⟩; have HL := Lib.hid (And.intro hp hu); clear hp hu)
            have hA' := HA.out
            refine bodyPost_end (v := .tuple #[]) (by simp [results, Try.results46]) rfl ⟨rfl, layS a x k s, ?_⟩
            have hu : Upd (fun q => q = h ∨ q = gl) w y2 := (HR.out.u.trans (Upd.of_below HU2.out |>.mono_ge (Nat.le_refl _))).trans HL.out.2
            refine ⟨⟨HL.out.1⟩, HR.out.rep, down_end HR.out.dn (fun j j0 jn ja hh => ?_), hu⟩
            have := HM.out j j0 jn ja
            unfold AheadP at this hA' hh
            omega
        · rw [decide_eq_false hA2]
          have HM : Hid (∀ j, 0 < j → j < n → (j - 1) / 2 = a → ¬ AheadP (s.I j) (s.K j) (x1 : Int) k1) := fun j hj0 hj hja => by
            have := HAV.out
            have hj2 : j = p1 ∨ j = p2 := by omega
            rcases hj2 with rfl | rfl
            · rw [H1.out.1, H1.out.2]; unfold AheadP; omega
            · rw [H2.out.1, H2.out.2]; exact hA2
          clear hA2
          have c0 := (HP1.out.cells (show p1 < n by omega)).1
          have c1 := (HP1.out.cells (show p1 < n by omega)).2
          rw [H1.out.1] at c0
          rw [H1.out.2] at c1
          have b0 := HB1.out.cell 0
          have b1 := HB1.out.cell 1
          simp at b0 b1
          have e0 : y.cell? ⟨h, 0, none⟩ = some (.slice (some ⟨gl, 0, none⟩) n cap) := by rw [HP1.out.hb.cell]; exact hpA_0 _ _
          go_wp2_with fail
          go_region_held3 (fun w' => w'.cell? ⟨w.heap.size, 0, none⟩ = some (.int .i64 x) ∧ w'.cell? ⟨w.heap.size, 1, none⟩ = some (.int .i64 k) ∧ w'.cell? ⟨h, 0, none⟩ = some (.slice (some ⟨gl, 0, none⟩) n cap) ∧ w'.cell? ⟨gl, p1 * 2, none⟩ = some (.int .i64 x1) ∧ w'.cell? ⟨gl, p1 * 2 + 1, none⟩ = some (.int .i64 k1)) (first | go_keep | (exact E2.out))
            (first | (go_at_call 47; refine (ahead_one _ _ _ _ _).mono ?_; rintro r z ⟨rfl, hb⟩
                      have HP2 := Lib.hid (HP1.out.drew.below hb)
                      have HB2 := Lib.hid (HB1.out.drew.below hb HB1.out.lt)
                      have E2 : Hid (z.cell? ⟨w.heap.size, 0, none⟩ = some (.int .i64 x) ∧ z.cell? ⟨w.heap.size, 1, none⟩ = some (.int .i64 k) ∧ z.cell? ⟨h, 0, none⟩ = some (.slice (some ⟨gl, 0, none⟩) n cap) ∧ z.cell? ⟨gl, p1 * 2, none⟩ = some (.int .i64 x1) ∧ z.cell? ⟨gl, p1 * 2 + 1, none⟩ = some (.int .i64 k1)) := by
                        refine ⟨by simpa using HB2.out.cell 0, by simpa using HB2.out.cell 1, by rw [HP2.out.hb.cell]; exact hpA_0 _ _, ?_, ?_⟩
                        · rw [(HP2.out.cells (show p1 < n by omega)).1, H1.out.1]
                        · rw [(HP2.out.cells (show p1 < n by omega)).2, H1.out.2]
                      have HU2 : Hid (Below wr.heap.size wr z) := HU1.out.drew.trans (hb.mono HU1.out.size)
                      clear hb))
          clear b0 b1 e0 c0 c1
          by_cases hA : AheadP (x1 : Int) k1 (x : Int) k
          · rw [decide_eq_true hA]
            have HA := Lib.hid hA
            clear hA
            go_wp2_with (go_at_call 45; refine (lay_to a x1 k1 HP2.out HAV.out.1.symm rfl ha (by assumption) hn).mono ?_; rintro r y2 ⟨rfl, hp, hu⟩; have HL := Lib.hid (And.intro hp hu); clear hp hu)
            have hq0 := H1.out.1
            have hq1 := H1.out.2
            have hA' := HA.out
            have hav := HAV.out
            have hs' : layS a x1 k1 s = ⟨updP s.I a x1, updP s.K a k1, updP s.Pl x1 (a + 1)⟩ := by unfold layS; rw [Int.toNat_natCast]
            have hu : Upd (fun q => q = h ∨ q = gl) w y2 := (HR.out.u.trans (Upd.of_below HU2.out |>.mono_ge (Nat.le_refl _))).trans HL.out.2
            have hne1 : w.heap.size ≠ h ∧ w.heap.size ≠ gl := by omega
            refine ⟨⟨p1, layS a x1 k1 s, by omega, rfl, ⟨⟨by rw [hs']; exact HL.out.1⟩, HB2.out.upd HL.out.2 (by omega), hu, ?_, ?_⟩⟩, ?_⟩
            · rw [← hq0, ← hq1]
              exact rep_swap HR.out.rep (by omega) ha (by omega)
            · have := down_step (c := p1) HR.out.dn (by omega) ⟨by omega, by omega⟩ (by rw [hq0, hq1]; exact hA') (fun j j0 jn ja => by rw [hq0, hq1]; exact HM.out j j0 jn ja)
              rw [hq0, hq1] at this
              exact this
            · show n - (p1 : Int).toNat < n - av.toNat
              omega
          · rw [decide_eq_false hA]
            have HA := Lib.hid hA
            clear hA
            go_wp2_with (go_at_call 45; refine (lay_to a x k HP2.out HAV.out.1.symm rfl ha hx64 hn).mono ?_; rintro r y2 ⟨rfl, hp, hu⟩; have HL := Lib.hid (And.intro hp hu); clear hp hu)
            have hA' := HA.out
            refine bodyPost_end (v := .tuple #[]) (by simp [results, Try.results46]) rfl ⟨rfl, layS a x k s, ?_⟩
            have hu : Upd (fun q => q = h ∨ q = gl) w y2 := (HR.out.u.trans (Upd.of_below HU2.out |>.mono_ge (Nat.le_refl _))).trans HL.out.2
            refine ⟨⟨HL.out.1⟩, HR.out.rep, down_end HR.out.dn (fun j j0 jn ja hh => ?_), hu⟩
            have := HM.out j j0 jn ja
            unfold AheadP at this hA' hh
            omega
      · have hz1 : ¬ (p2 : Int) < n := by omega
        have hz2 : decide ((p2 : Int) < (n : Int)) = false := decide_eq_false hz1
        have HM : Hid (∀ j, 0 < j → j < n → (j - 1) / 2 = a → ¬ AheadP (s.I j) (s.K j) (x1 : Int) k1) := fun j hj0 hj hja => by
          have := HAV.out
          obtain rfl : j = p1 := by omega
          rw [H1.out.1, H1.out.2]; unfold AheadP; omega
        clear hp1 hp2
        go_wp2_with fail
        go_quiet (fail)
        have HP1 : Hid (HpP (wr.drewN nq) h gl n cap s.I s.K s.Pl) := HR.out.hp.p.drewN nq
        have HB1 : Hid (Blk (wr.drewN nq) w.heap.size 69 #[.int .i64 x, .int .i64 k]) := HR.out.blk.drewN nq
        have HU1 : Hid (Below wr.heap.size wr (wr.drewN nq)) := belowN (Below.refl _ _) nq
        generalize wr.drewN nq = y at HP1 HB1 HU1 ⊢
        clear b0 b1 e0 c10 c11
        have c0 := (HP1.out.cells (show p1 < n by omega)).1
        have c1 := (HP1.out.cells (show p1 < n by omega)).2
        rw [H1.out.1] at c0
        rw [H1.out.2] at c1
        have b0 := HB1.out.cell 0
        have b1 := HB1.out.cell 1
        simp at b0 b1
        have e0 : y.cell? ⟨h, 0, none⟩ = some (.slice (some ⟨gl, 0, none⟩) n cap) := by rw [HP1.out.hb.cell]; exact hpA_0 _ _
        go_wp2_with fail
        go_region_held3 (fun w' => w'.cell? ⟨w.heap.size, 0, none⟩ = some (.int .i64 x) ∧ w'.cell? ⟨w.heap.size, 1, none⟩ = some (.int .i64 k) ∧ w'.cell? ⟨h, 0, none⟩ = some (.slice (some ⟨gl, 0, none⟩) n cap) ∧ w'.cell? ⟨gl, p1 * 2, none⟩ = some (.int .i64 x1) ∧ w'.cell? ⟨gl, p1 * 2 + 1, none⟩ = some (.int .i64 k1)) (first | go_keep | (exact E2.out))
          (first | (go_at_call 47; refine (ahead_one _ _ _ _ _).mono ?_; rintro r z ⟨rfl, hb⟩
                    have HP2 := Lib.hid (HP1.out.drew.below hb)
                    have HB2 := Lib.hid (HB1.out.drew.below hb HB1.out.lt)
                    have E2 : Hid (z.cell? ⟨w.heap.size, 0, none⟩ = some (.int .i64 x) ∧ z.cell? ⟨w.heap.size, 1, none⟩ = some (.int .i64 k) ∧ z.cell? ⟨h, 0, none⟩ = some (.slice (some ⟨gl, 0, none⟩) n cap) ∧ z.cell? ⟨gl, p1 * 2, none⟩ = some (.int .i64 x1) ∧ z.cell? ⟨gl, p1 * 2 + 1, none⟩ = some (.int .i64 k1)) := by
                      refine ⟨by simpa using HB2.out.cell 0, by simpa using HB2.out.cell 1, by rw [HP2.out.hb.cell]; exact hpA_0 _ _, ?_, ?_⟩
                      · rw [(HP2.out.cells (show p1 < n by omega)).1, H1.out.1]
                      · rw [(HP2.out.cells (show p1 < n by omega)).2, H1.out.2]
                    have HU2 : Hid (Below wr.heap.size wr z) := HU1.out.drew.trans (hb.mono HU1.out.size)
                    clear hb))
        clear b0 b1 e0 c0 c1
        by_cases hA : AheadP (x1 : Int) k1 (x : Int) k
        · rw [decide_eq_true hA]
          have HA := Lib.hid hA
          clear hA
          go_wp2_with (go_at_call 45; refine (lay_to a x1 k1 HP2.out HAV.out.1.symm rfl ha (by assumption) hn).mono ?_; rintro r y2 ⟨rfl, hp, hu⟩; have HL := Lib.hid (And.intro hp hu); clear hp hu)
          have hq0 := H1.out.1
          have hq1 := H1.out.2
          have hA' := HA.out
          have hav := HAV.out
          have hs' : layS a x1 k1 s = ⟨updP s.I a x1, updP s.K a k1, updP s.Pl x1 (a + 1)⟩ := by unfold layS; rw [Int.toNat_natCast]
          have hu : Upd (fun q => q = h ∨ q = gl) w y2 := (HR.out.u.trans (Upd.of_below HU2.out |>.mono_ge (Nat.le_refl _))).trans HL.out.2
          have hne1 : w.heap.size ≠ h ∧ w.heap.size ≠ gl := by omega
          refine ⟨⟨p1, layS a x1 k1 s, by omega, rfl, ⟨⟨by rw [hs']; exact HL.out.1⟩, HB2.out.upd HL.out.2 (by omega), hu, ?_, ?_⟩⟩, ?_⟩
          · rw [← hq0, ← hq1]
            exact rep_swap HR.out.rep (by omega) ha (by omega)
          · have := down_step (c := p1) HR.out.dn (by omega) ⟨by omega, by omega⟩ (by rw [hq0, hq1]; exact hA') (fun j j0 jn ja => by rw [hq0, hq1]; exact HM.out j j0 jn ja)
            rw [hq0, hq1] at this
            exact this
          · show n - (p1 : Int).toNat < n - av.toNat
            omega
        · rw [decide_eq_false hA]
          have HA := Lib.hid hA
          clear hA
          go_wp2_with (go_at_call 45; refine (lay_to a x k HP2.out HAV.out.1.symm rfl ha hx64 hn).mono ?_; rintro r y2 ⟨rfl, hp, hu⟩; have HL := Lib.hid (And.intro hp hu); clear hp hu)
          have hA' := HA.out
          refine bodyPost_end (v := .tuple #[]) (by simp [results, Try.results46]) rfl ⟨rfl, layS a x k s, ?_⟩
          have hu : Upd (fun q => q = h ∨ q = gl) w y2 := (HR.out.u.trans (Upd.of_below HU2.out |>.mono_ge (Nat.le_refl _))).trans HL.out.2
          refine ⟨⟨HL.out.1⟩, HR.out.rep, down_end HR.out.dn (fun j j0 jn ja hh => ?_), hu⟩
          have := HM.out j j0 jn ja
          unfold AheadP at this hA' hh
          omega
    · have hz1 : ¬ (p2 : Int) < n := by omega
      have hz2 : decide ((p2 : Int) < (n : Int)) = false := decide_eq_false (by omega)
      have hz3 : n ≤ p1 := by omega
      have hz4 : ¬ p2 < n := by omega
      have hgn : decide ((p1 : Int) ≥ (n : Int)) = true := decide_eq_true (by omega)
      have HM : Hid (∀ j, 0 < j → j < n → (j - 1) / 2 = a → ¬ AheadP (s.I j) (s.K j) (x : Int) k) := fun j hj0 hj hja => by
        have := HAV.out
        omega
      clear hp1 hp2
      go_wp2_with fail
      go_quiet (fail)
      go_wp2_with fail
      go_quiet (fail)
      generalize hy : World.drewN (World.drewN wr _) _ = y
      have HP2 : Hid (HpP y h gl n cap s.I s.K s.Pl) := by rw [← hy]; exact (HR.out.hp.p.drewN _).drewN _
      have HB2 : Hid (Blk y w.heap.size 69 #[.int .i64 x, .int .i64 k]) := by rw [← hy]; exact (HR.out.blk.drewN _).drewN _
      have HU2 : Hid (Below wr.heap.size wr y) := by rw [← hy]; exact belowN (belowN (Below.refl _ _) _) _
      clear hy b0 b1 e0
      have b0 := HB2.out.cell 0
      have b1 := HB2.out.cell 1
      simp at b0 b1
      go_wp2_with (go_at_call 45; refine (lay_to a x k HP2.out HAV.out.1.symm rfl ha hx64 hn).mono ?_; rintro r y2 ⟨rfl, hp, hu⟩; have HL := Lib.hid (And.intro hp hu); clear hp hu)
      refine bodyPost_end (v := .tuple #[]) (by simp [results, Try.results46]) rfl ⟨rfl, layS a x k s, ?_⟩
      have hu : Upd (fun q => q = h ∨ q = gl) w y2 := (HR.out.u.trans (Upd.of_below HU2.out |>.mono_ge (Nat.le_refl _))).trans HL.out.2
      exact ⟨⟨HL.out.1⟩, HR.out.rep, down_end HR.out.dn HM.out, hu⟩
end Go.Proofs.Ytbfbahedbfjcoaa
