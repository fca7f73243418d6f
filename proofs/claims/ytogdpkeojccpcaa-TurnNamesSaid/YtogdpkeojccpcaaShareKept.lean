/- The walk of kept: it answers as the plain rounds do. -/
import Derived.Test.YtogdpkeojccpcaaShareOver
import Derived.Test.YtogdpkeojccpcaaShareServ
import Derived.Deep.QuietTactic
import Derived.BigQuiet
namespace Go.Proofs.Ytogdpkeojccpcaa
set_option linter.all false
open Go.RowKit

def arrF (f : Nat → Int) (n : Nat) : Array Value := ((List.range n).map (fun i => Value.int .i64 (f i))).toArray
theorem arrF_at (f : Nat → Int) (n i : Nat) (h : i < n) : (arrF f n)[i]? = some (.int .i64 (f i)) := by
  unfold arrF
  simp [h]
theorem arrF_upd (f : Nat → Int) (n i : Nat) (v : Int) : (arrF f n).setIfInBounds i (.int .i64 v) = arrF (upd f i v) n := by
  apply Array.ext_getElem?
  intro j
  rw [Array.getElem?_setIfInBounds]
  unfold arrF
  simp
  by_cases hij : i = j
  · subst hij
    by_cases hi : i < n
    · simp [hi, upd_at]
    · simp [hi]
  · rw [if_neg hij]
    by_cases hj : j < n
    · simp [hj]
      rw [upd_ne (fun h => hij h.symm)]
    · simp [hj]

theorem scan_skip {P B S : Nat → Int} {k : Int} {L E : Nat → Int} {m : Nat} {L' E' : Nat → Int} {f : Int} (h : scanF P B S k L E m = some (L', E', f)) (hs : k < S m) : scanF P B S k L E (m + 1) = some (L', E', f) := by
  rw [scanF, h]
  simp only [if_pos hs]
theorem scan_due {P B S : Nat → Int} {k : Int} {L E : Nat → Int} {m : Nat} {L' E' : Nat → Int} {f : Int} (h : scanF P B S k L E m = some (L', E', f)) (hs : ¬ k < S m) (hd : (k - S m) % P m = 0) (hl : ¬ 0 < L' m) :
    scanF P B S k L E (m + 1) = some (upd L' m (B m), upd E' m (k + P m), pickF (upd L' m (B m)) (upd E' m (k + P m)) f m) := by
  rw [scanF, h]
  simp only [if_neg hs, if_pos hd, if_neg hl]
theorem scan_bad {P B S : Nat → Int} {k : Int} {L E : Nat → Int} {m : Nat} {L' E' : Nat → Int} {f : Int} (h : scanF P B S k L E m = some (L', E', f)) (hs : ¬ k < S m) (hd : (k - S m) % P m = 0) (hl : 0 < L' m) :
    scanF P B S k L E (m + 1) = none := by
  rw [scanF, h]
  simp only [if_neg hs, if_pos hd, if_pos hl]
theorem scan_not {P B S : Nat → Int} {k : Int} {L E : Nat → Int} {m : Nat} {L' E' : Nat → Int} {f : Int} (h : scanF P B S k L E m = some (L', E', f)) (hs : ¬ k < S m) (hd : ¬ (k - S m) % P m = 0) :
    scanF P B S k L E (m + 1) = some (L', E', pickF L' E' f m) := by
  rw [scanF, h]
  simp only [if_neg hs, if_neg hd]
theorem scan_up {P B S : Nat → Int} {k : Int} {L E : Nat → Int} {m : Nat} (h : scanF P B S k L E m = none) : ∀ n, m ≤ n → scanF P B S k L E n = none := by
  intro n hn
  induction n with
  | zero => have : m = 0 := by omega
            subst this; exact h
  | succ n ih =>
    by_cases hm : m = n + 1
    · subst hm; exact h
    · rw [scanF, ih (by omega)]
theorem run_bad {P B S : Nat → Int} {n k K : Nat} {L E : Nat → Int} (h : runF P B S n k = some (L, E)) (hs : scanF P B S k L E n = none) (hk : k < K) : (runF P B S n K).isSome = false := by
  have h1 : runF P B S n (k + 1) = none := by rw [runF, h]; simp only [tickF, hs]
  cases hr : runF P B S n K with
  | none => rfl
  | some x => exact absurd h1 (runF_back (k := K) (by omega) (by rw [hr]; intro h; cases h))
theorem run_idle {P B S : Nat → Int} {n k : Nat} {L E L' E' : Nat → Int} {f : Int} (h : runF P B S n k = some (L, E)) (hs : scanF P B S k L E n = some (L', E', f)) (hf : ¬ 0 ≤ f) : runF P B S n (k + 1) = some (L', E') := by
  rw [runF, h]
  simp only [tickF, hs, if_neg hf]
theorem run_busy {P B S : Nat → Int} {n k : Nat} {L E L' E' : Nat → Int} {f : Int} (h : runF P B S n k = some (L, E)) (hs : scanF P B S k L E n = some (L', E', f)) (hf : 0 ≤ f) : runF P B S n (k + 1) = some (upd L' f.toNat (L' f.toNat - 1), E') := by
  rw [runF, h]
  simp only [tickF, hs, if_pos hf]
theorem pick_a {L E : Nat → Int} {f : Int} {m : Nat} (h : ¬ 0 < L m) : pickF L E f m = f := by unfold pickF; rw [if_neg (fun hc => h hc.1)]
theorem pick_b {L E : Nat → Int} {f : Int} {m : Nat} (h : 0 < L m) (hf : f < 0) : pickF L E f m = m := by unfold pickF; rw [if_pos ⟨h, Or.inl hf⟩]
theorem pick_c {L E : Nat → Int} {f : Int} {m : Nat} (h : 0 < L m) (hf : E m < E f.toNat) : pickF L E f m = m := by unfold pickF; rw [if_pos ⟨h, Or.inr hf⟩]
theorem pick_d {L E : Nat → Int} {f : Int} {m : Nat} (hf : ¬ f < 0) (he : ¬ E m < E f.toNat) : pickF L E f m = f := by unfold pickF; rw [if_neg (fun hc => by rcases hc.2 with h | h; exact hf h; exact he h)]

/-- The two rows, and that nothing old has changed. -/
structure KR (w wr : World) (gL gE n : Nat) (L E : Nat → Int) : Prop where
  l : Blk wr gL 3 (arrF L n)
  e : Blk wr gE 3 (arrF E n)
  b : Below w.heap.size w wr
  ne : gL ≠ gE
  hl : w.heap.size ≤ gL
  he : w.heap.size ≤ gE
  top : ∀ i, i < n → L i ≤ 64
theorem KR.drewN {w wr : World} {gL gE n : Nat} {L E : Nat → Int} (h : KR w wr gL gE n L E) (m : Nat) : KR w (wr.drewN m) gL gE n L E := ⟨h.l.drewN m, h.e.drewN m, belowN h.b m, h.ne, h.hl, h.he, h.top⟩
theorem KR.setL {w wr : World} {gL gE n : Nat} {L E : Nat → Int} (h : KR w wr gL gE n L E) (i : Nat) (v : Int) (hv : v ≤ 64) : KR w (wr.setCell ⟨gL, i, none⟩ (.int .i64 v)) gL gE n (upd L i v) E :=
  ⟨by rw [← arrF_upd]; exact h.l.set_ i _, h.e.far (fun e => h.ne e.symm) _, h.b.setCell h.hl _, h.ne, h.hl, h.he, fun j hj => by unfold upd; split; exact hv; exact h.top j hj⟩
theorem KR.setE {w wr : World} {gL gE n : Nat} {L E : Nat → Int} (h : KR w wr gL gE n L E) (i : Nat) (v : Int) : KR w (wr.setCell ⟨gE, i, none⟩ (.int .i64 v)) gL gE n L (upd E i v) :=
  ⟨h.l.far h.ne _, by rw [← arrF_upd]; exact h.e.set_ i _, h.b.setCell h.he _, h.ne, h.hl, h.he, h.top⟩
theorem KR.cl {w wr : World} {gL gE n : Nat} {L E : Nat → Int} (h : KR w wr gL gE n L E) {i : Nat} (hi : i < n) : wr.cell? ⟨gL, i, none⟩ = some (.int .i64 (L i)) := by rw [h.l.cell i]; exact arrF_at L n i hi
theorem KR.ce {w wr : World} {gL gE n : Nat} {L E : Nat → Int} (h : KR w wr gL gE n L E) {i : Nat} (hi : i < n) : wr.cell? ⟨gE, i, none⟩ = some (.int .i64 (E i)) := by rw [h.e.cell i]; exact arrF_at E n i hi

theorem mk_int (n : Nat) (hn : n ≤ 4) : ∀ w : World, (Instr.makeSlice 29 (.int .i64 n) (.int .i64 n)).run Try.prog w = .ok (.slice (some ⟨w.heap.size, 0, none⟩) n n) (w.alloc (.cells (arrF (fun _ => 0) n) 3)) :=
  match n, hn with
  | 0, _ => fun _ => by kernel_rfl
  | 1, _ => fun _ => by kernel_rfl
  | 2, _ => fun _ => by kernel_rfl
  | 3, _ => fun _ => by kernel_rfl
  | 4, _ => fun _ => by kernel_rfl

set_option maxRecDepth 100000 in
set_option maxHeartbeats 8000000 in
theorem kept_any {w : World} {A A2 : Option Addr} {n : Nat} {P B S : Nat → Int} (h : Pts w A n P B) (c c2 K : Nat) (hn : n ≤ 4) (hK : K ≤ 3000) (hok : ∀ i, i < n → OkP (P i) (B i))
    (hS : ∀ i, i < n → 0 ≤ S i ∧ S i ≤ 1000) (h2 : ∀ i, i < n → ∃ b off, A2 = some ⟨b, off, none⟩ ∧ b < w.heap.size ∧ w.cell? ⟨b, off + i, none⟩ = some (.int .i64 (S i))) :
    Calls Try.prog 23 #[.slice A n c, .slice A2 n c2, .int .i64 K] w fun r w' => r = .returned (.bool (runF P B S n K).isSome) ∧ Below w.heap.size w w' := by
  obtain ⟨Z, hr, hP⟩ := h.rd
  have HR := Lib.hid hr
  have HP := Lib.hid hP
  have H2 := Lib.hid h2
  have HOK := Lib.hid hok
  have HS := Lib.hid hS
  clear hr hP h2 hok hS h
  have hn4 : (n : Int) ≤ 4 := by omega
  have hn0 : (0 : Int) ≤ n := by omega
  have hK3 : (K : Int) ≤ 3000 := by omega
  have hmk := mk_int n hn
  go_enter Try.func23, Try.ntmps23
  go_wp2_with fail
  go_region
  · obtain ⟨gL, hgL⟩ : ∃ x, w.heap.size = x := ⟨_, rfl⟩
    obtain ⟨gE, hgE⟩ : ∃ x, w.heap.size + 1 = x := ⟨_, rfl⟩
    have hk0 : KR w (((w.alloc (.cells (arrF (fun _ => 0) n) 3)).alloc (.cells (arrF (fun _ => 0) n) 3)).drew) gL gE n (fun _ => 0) (fun _ => 0) := by
      subst hgL hgE
      refine ⟨((Blk.new _ _ _).alloc _).drew, ?_, (((Below.refl _ _).alloc (Nat.le_refl _) _).alloc (by simp) _).drew, by omega, Nat.le_refl _, by omega, fun _ _ => by decide⟩
      have := (Blk.new (w.alloc (.cells (arrF (fun _ => 0) n) 3)) 3 (arrF (fun _ => 0) n)).drew
      simpa using this
    rw [hgE, hgL]
    have HGL := Lib.hid (And.intro hgL hgE)
    clear hgL hgE
    generalize ((w.alloc (.cells (arrF (fun _ => 0) n) 3)).alloc (.cells (arrF (fun _ => 0) n) 3)).drew = x0 at hk0 ⊢
    have HK0 := Lib.hid hk0
    clear hk0
    clear hmk
    go_wp2_with fail
    go_loopw [9] (fun i wr => ∃ (k : Nat) (L E : Nat → Int), k ≤ K ∧ i = .int .i64 k ∧ Hid (runF P B S n k = some (L, E) ∧ KR w wr gL gE n L E)) (fun i _ => K - (intOf i).toNat)
    case atStart => exact ⟨0, _, _, by omega, rfl, ⟨rfl, HK0.out⟩⟩
    case round =>
      obtain ⟨k, L, E, hk, rfl, HR1⟩ := hrel
      clear HK0
      have hk0 : (0 : Int) ≤ k := by omega
      by_cases hkK : k < K
      · have hkK2 : (k : Int) < K := by omega
        go_wp2_with fail
        go_loopw [10, 11] (fun f i wr => ∃ (m : Nat) (f0 : Int) (L' E' : Nat → Int), m ≤ n ∧ f = .int .i64 f0 ∧ i = .int .i64 m ∧ Hid (scanF P B S k L E m = some (L', E', f0) ∧ KR w wr gL gE n L' E')) (fun _ i _ => n - (intOf i).toNat)
        case atStart => exact ⟨0, -1, L, E, by omega, rfl, rfl, ⟨rfl, HR1.out.2⟩⟩
        case round =>
          obtain ⟨m, f0, L', E', hm, rfl, rfl, HR2⟩ := hrel
          have hf0 := (scanF_some HR2.out.1).2.2
          by_cases hmn : m < n
          · obtain ⟨b, off, rfl, hlt, hcell⟩ := HR.out m hmn
            obtain ⟨p0, p1⟩ := HP.out m hmn
            obtain ⟨b2, off2, hA2, hlt2, cS⟩ := H2.out m hmn
            subst hA2
            obtain ⟨c0, _⟩ := hcell 0 _ rfl
            obtain ⟨c1, _⟩ := hcell 1 _ rfl
            rw [p0] at c0
            rw [p1] at c1
            rw [← HR2.out.2.b.cell (p := ⟨b, _, none⟩) hlt] at c0 c1
            rw [← HR2.out.2.b.cell (p := ⟨b2, _, none⟩) hlt2] at cS
            obtain ⟨o1, o2, o3, o4⟩ := HOK.out m hmn
            obtain ⟨s1, s2⟩ := HS.out m hmn
            obtain ⟨pm, hpm⟩ : ∃ v, P m = v := ⟨_, rfl⟩
            obtain ⟨bm, hbm⟩ : ∃ v, B m = v := ⟨_, rfl⟩
            obtain ⟨sm, hsm⟩ : ∃ v, S m = v := ⟨_, rfl⟩
            rw [hpm] at c0 o1 o2 o4
            rw [hbm] at c1 o3 o4
            rw [hsm] at cS s1 s2
            simp [← Nat.add_assoc] at c0 c1
            have HM := Lib.hid (And.intro hpm (And.intro hbm hsm))
            have cL := HR2.out.2.cl hmn
            have cE := HR2.out.2.ce hmn
            have tL := HR2.out.2.top m hmn
            have fL := HR2.out.2.l.frozen m
            have fE := HR2.out.2.e.frozen m
            obtain ⟨lm, hlm⟩ : ∃ v, L' m = v := ⟨_, rfl⟩
            obtain ⟨em, hem⟩ : ∃ v, E' m = v := ⟨_, rfl⟩
            rw [hlm] at cL tL
            rw [hem] at cE
            have HLE := Lib.hid (And.intro hlm hem)
            have hx0 : (0 : Int) ≤ m := by omega
            have hx1 : (m : Int) < n := by omega
            have hz1 : b < w.heap.size := hlt
            have hkb : (k : Int) ≤ 3000 := by omega
            have HLT := Lib.hid hlt
            clear hcell p0 p1 hpm hbm hsm hlm hem hlt2 hz1
            by_cases hks : (k : Int) < sm
            · go_wp2_with fail
              exact ⟨⟨m + 1, f0, L', E', by omega, rfl, by go_num, ⟨scan_skip HR2.out.1 (by rw [HM.out.2.2]; exact hks), HR2.out.2⟩⟩, by simp [intOf]; omega⟩
            · have hks1 : ¬ (k : Int) < sm := hks
              have hw1 : IntKind.i64.wrap ((k : Int) - sm) = k - sm := IntWalk.i64_in _ (by omega)
              have hr0 := Int.emod_nonneg ((k : Int) - sm) (b := pm) (by omega)
              have hr1 := Int.emod_lt_of_pos ((k : Int) - sm) (b := pm) (by omega)
              obtain ⟨rr, hrr⟩ : ∃ v, ((k : Int) - sm) % pm = v := ⟨_, rfl⟩
              rw [hrr] at hr0 hr1
              have hw2 : IntKind.i64.wrap (((k : Int) - sm).tmod pm) = rr := by rw [Int.tmod_eq_emod_of_nonneg (by omega), hrr]; exact IntWalk.i64_in _ (by omega)
              have hpz : (pm == 0) = false := by simp; omega
              have HRR := Lib.hid hrr
              clear hrr
              go_wp2_with fail
              go_quiet (fail)
              clear hw1 hw2
              by_cases hrz : rr = 0
              · subst hrz
                have hdue : (k - S m) % P m = 0 := by rw [HM.out.1, HM.out.2.2]; exact HRR.out
                have HDU := Lib.hid hdue
                have HNS := Lib.hid (show ¬ (k : Int) < S m by rw [HM.out.2.2]; omega)
                have dz : (((k : Int) - sm) % pm == 0) = true := by rw [HRR.out]; rfl
                clear hdue
                by_cases hl : 0 < lm
                · have hbad := scan_bad HR2.out.1 HNS.out HDU.out (by rw [HLE.out.1]; omega)
                  have HBAD := Lib.hid (run_bad HR1.out.1 (scan_up hbad n (by omega)) hkK)
                  clear hbad
                  go_wp2_with fail
                  go_ret
                  exact ⟨ret_bool HBAD.out.symm, belowN HR2.out.2.b _⟩
                · have HSC := Lib.hid (scan_due HR2.out.1 HNS.out HDU.out (by rw [HLE.out.1]; omega))
                  have we : IntKind.i64.wrap ((k : Int) + pm) = k + pm := IntWalk.i64_in _ (by omega)
                  have hne : gL ≠ gE := HR2.out.2.ne
                  have hbl : b ≠ gL := by have := HR2.out.2.hl; omega
                  have hbe : b ≠ gE := by have := HR2.out.2.he; omega
                  go_wp2_with fail
                  have hk2 := ((HR2.out.2.drewN nq).setL m bm (by omega)).setE m (k + pm)
                  clear cL cE c0 c1 cS
                  obtain ⟨L2, hL2⟩ : ∃ g, upd L' m (B m) = g := ⟨_, rfl⟩
                  obtain ⟨E2, hE2⟩ : ∃ g, upd E' m (k + P m) = g := ⟨_, rfl⟩
                  rw [hL2, hE2] at HSC
                  rw [HM.out.2.1] at hL2
                  rw [HM.out.1] at hE2
                  rw [hL2, hE2] at hk2
                  have HL2 : Hid (L2 m = bm ∧ E2 m = k + pm) := ⟨by rw [← hL2, upd_at], by rw [← hE2, upd_at]⟩
                  generalize (((wr.drewN nq).setCell ⟨gL, m, none⟩ (.int .i64 bm)).setCell ⟨gE, m, none⟩ (.int .i64 (k + pm))) = y at hk2 ⊢
                  have cL := hk2.cl hmn
                  have cE := hk2.ce hmn
                  rw [HL2.out.1] at cL
                  rw [HL2.out.2] at cE
                  have HK2 := Lib.hid hk2
                  clear hk2 hL2 hE2 we
                  obtain ⟨e2, he2⟩ : ∃ v, (k : Int) + pm = v := ⟨_, rfl⟩
                  rw [he2] at cE HL2
                  have hl2 : 0 < bm := by omega
                  have dl : decide (0 < bm) = true := decide_eq_true hl2
                  try rw [he2]
                  clear he2
                  rcases hf0 with rfl | ⟨g1, g2, g3⟩
                  · clear fL fE
                    go_wp2_with fail
                    go_quiet (fail)
                    go_wp2_with fail
                    exact ⟨⟨m + 1, (m : Int), _, _, by omega, rfl, by go_num, ⟨by rw [HSC.out, pick_b (by rw [HL2.out.1]; omega) (by decide)], HK2.out.drewN _⟩⟩, by simp [intOf]; omega⟩
                  · obtain ⟨x, rfl⟩ : ∃ x : Nat, f0 = x := ⟨f0.toNat, by omega⟩
                    simp only [Int.toNat_natCast] at g2 g3
                    have cF := HK2.out.ce (i := x) (by omega)
                    obtain ⟨fx, hfx⟩ : ∃ v, E2 x = v := ⟨_, rfl⟩
                    rw [hfx] at cF
                    have HFX := Lib.hid hfx
                    have hx4 : (0 : Int) ≤ x := by omega
                    have hx5 : (x : Int) < n := by omega
                    have dF : decide ((x : Int) < 0) = false := decide_eq_false (by omega)
                    clear hfx g3 fL fE
                    by_cases hlt2 : e2 < fx
                    · have dE : decide (e2 < fx) = true := decide_eq_true hlt2
                      go_wp2_with fail
                      go_quiet (fail)
                      go_wp2_with fail
                      exact ⟨⟨m + 1, (m : Int), _, _, by omega, rfl, by go_num, ⟨by rw [HSC.out, pick_c (by rw [HL2.out.1]; omega) (by rw [HL2.out.2, Int.toNat_natCast, HFX.out]; omega)], HK2.out.drewN _⟩⟩, by simp [intOf]; omega⟩
                    · have dE : decide (e2 < fx) = false := decide_eq_false hlt2
                      go_wp2_with fail
                      go_quiet (fail)
                      go_wp2_with fail
                      exact ⟨⟨m + 1, (x : Int), _, _, by omega, rfl, by go_num, ⟨by rw [HSC.out, pick_d (by omega) (by rw [HL2.out.2, Int.toNat_natCast, HFX.out]; omega)], HK2.out.drewN _⟩⟩, by simp [intOf]; omega⟩
              · have HNS := Lib.hid (show ¬ (k : Int) < S m by rw [HM.out.2.2]; omega)
                have HSC := Lib.hid (scan_not HR2.out.1 HNS.out (by rw [HM.out.1, HM.out.2.2, HRR.out]; exact hrz))
                have hk2 := HR2.out.2.drewN nq
                have dz : (((k : Int) - sm) % pm == 0) = false := by rw [HRR.out]; simpa using hrz
                obtain ⟨L2, hL2⟩ : ∃ g, L' = g := ⟨_, rfl⟩
                obtain ⟨E2, hE2⟩ : ∃ g, E' = g := ⟨_, rfl⟩
                rw [hL2, hE2] at HSC hk2 HLE
                obtain ⟨e2, he2⟩ : ∃ v, em = v := ⟨_, rfl⟩
                rw [he2] at cE HLE
                have HL2 := HLE
                go_wp2_with fail
                clear cL cE c0 c1 cS
                generalize wr.drewN nq = y at hk2 ⊢
                have cL := hk2.cl hmn
                have cE := hk2.ce hmn
                rw [HL2.out.1] at cL
                rw [HL2.out.2] at cE
                have HK2 := Lib.hid hk2
                clear hk2
                by_cases hl2 : 0 < lm
                · have dl : decide (0 < lm) = true := decide_eq_true hl2
                  rcases hf0 with rfl | ⟨g1, g2, g3⟩
                  · clear fL fE
                    go_wp2_with fail
                    go_quiet (fail)
                    go_wp2_with fail
                    exact ⟨⟨m + 1, (m : Int), _, _, by omega, rfl, by go_num, ⟨by rw [HSC.out, pick_b (by rw [HL2.out.1]; omega) (by decide)], HK2.out.drewN _⟩⟩, by simp [intOf]; omega⟩
                  · obtain ⟨x, rfl⟩ : ∃ x : Nat, f0 = x := ⟨f0.toNat, by omega⟩
                    simp only [Int.toNat_natCast] at g2 g3
                    have cF := HK2.out.ce (i := x) (by omega)
                    obtain ⟨fx, hfx⟩ : ∃ v, E2 x = v := ⟨_, rfl⟩
                    rw [hfx] at cF
                    have HFX := Lib.hid hfx
                    have hx4 : (0 : Int) ≤ x := by omega
                    have hx5 : (x : Int) < n := by omega
                    have dF : decide ((x : Int) < 0) = false := decide_eq_false (by omega)
                    clear hfx g3 fL fE
                    by_cases hlt2 : e2 < fx
                    · have dE : decide (e2 < fx) = true := decide_eq_true hlt2
                      go_wp2_with fail
                      go_quiet (fail)
                      go_wp2_with fail
                      exact ⟨⟨m + 1, (m : Int), _, _, by omega, rfl, by go_num, ⟨by rw [HSC.out, pick_c (by rw [HL2.out.1]; omega) (by rw [HL2.out.2, Int.toNat_natCast, HFX.out]; omega)], HK2.out.drewN _⟩⟩, by simp [intOf]; omega⟩
                    · have dE : decide (e2 < fx) = false := decide_eq_false hlt2
                      go_wp2_with fail
                      go_quiet (fail)
                      go_wp2_with fail
                      exact ⟨⟨m + 1, (x : Int), _, _, by omega, rfl, by go_num, ⟨by rw [HSC.out, pick_d (by omega) (by rw [HL2.out.2, Int.toNat_natCast, HFX.out]; omega)], HK2.out.drewN _⟩⟩, by simp [intOf]; omega⟩
                · have dl : decide (0 < lm) = false := decide_eq_false hl2
                  go_wp2_with fail
                  go_quiet (fail)
                  go_wp2_with fail
                  exact ⟨⟨m + 1, f0, _, _, by omega, rfl, by go_num, ⟨by rw [HSC.out, pick_a (by rw [HL2.out.1]; omega)], HK2.out.drewN _⟩⟩, by simp [intOf]; omega⟩
          · obtain rfl : m = n := by omega
            rcases hf0 with rfl | ⟨g1, g2, g3⟩
            · go_wp2_with fail
              exact ⟨⟨k + 1, _, _, by omega, by go_num, ⟨run_idle HR1.out.1 HR2.out.1 (by decide), HR2.out.2⟩⟩, by simp [intOf]; omega⟩
            · obtain ⟨x, rfl⟩ : ∃ x : Nat, f0 = x := ⟨f0.toNat, by omega⟩
              simp only [Int.toNat_natCast] at g2 g3
              have cL := HR2.out.2.cl g2
              have fL := HR2.out.2.l.frozen x
              have tL := HR2.out.2.top x g2
              have hx0 : (0 : Int) ≤ x := by omega
              have hx1 : (x : Int) < m := by omega
              obtain ⟨lx, hlx⟩ : ∃ v, L' x = v := ⟨_, rfl⟩
              rw [hlx] at cL tL g3
              have HLX := Lib.hid hlx
              clear hlx
              go_wp2_with fail
              refine ⟨⟨k + 1, _, _, by omega, by go_num, ⟨run_busy HR1.out.1 HR2.out.1 hx0, ?_⟩⟩, by simp [intOf]; omega⟩
              rw [Int.toNat_natCast, HLX.out]
              exact HR2.out.2.setL x (lx - 1) (by omega)
      · obtain rfl : k = K := by omega
        have hkK2 : ¬ (k : Int) < k := by omega
        go_wp2_with fail
        go_ret
        exact ⟨ret_bool (by rw [HR1.out.1]; rfl), HR1.out.2.b⟩
  · obtain ⟨gE, hgE⟩ : ∃ x, w.heap.size = x := ⟨_, rfl⟩
    obtain ⟨gL, hgL⟩ : ∃ x, w.heap.size + 1 = x := ⟨_, rfl⟩
    have hk0 : KR w (((w.alloc (.cells (arrF (fun _ => 0) n) 3)).alloc (.cells (arrF (fun _ => 0) n) 3)).drew) gL gE n (fun _ => 0) (fun _ => 0) := by
      subst hgL hgE
      refine ⟨?_, ((Blk.new _ _ _).alloc _).drew, (((Below.refl _ _).alloc (Nat.le_refl _) _).alloc (by simp) _).drew, by omega, by omega, Nat.le_refl _, fun _ _ => by decide⟩
      have := (Blk.new (w.alloc (.cells (arrF (fun _ => 0) n) 3)) 3 (arrF (fun _ => 0) n)).drew
      simpa using this
    rw [hgL, hgE]
    have HGL := Lib.hid (And.intro hgL hgE)
    clear hgL hgE
    generalize ((w.alloc (.cells (arrF (fun _ => 0) n) 3)).alloc (.cells (arrF (fun _ => 0) n) 3)).drew = x0 at hk0 ⊢
    have HK0 := Lib.hid hk0
    clear hk0
    clear hmk
    go_wp2_with fail
    go_loopw [9] (fun i wr => ∃ (k : Nat) (L E : Nat → Int), k ≤ K ∧ i = .int .i64 k ∧ Hid (runF P B S n k = some (L, E) ∧ KR w wr gL gE n L E)) (fun i _ => K - (intOf i).toNat)
    case atStart => exact ⟨0, _, _, by omega, rfl, ⟨rfl, HK0.out⟩⟩
    case round =>
      obtain ⟨k, L, E, hk, rfl, HR1⟩ := hrel
      clear HK0
      have hk0 : (0 : Int) ≤ k := by omega
      by_cases hkK : k < K
      · have hkK2 : (k : Int) < K := by omega
        go_wp2_with fail
        go_loopw [10, 11] (fun f i wr => ∃ (m : Nat) (f0 : Int) (L' E' : Nat → Int), m ≤ n ∧ f = .int .i64 f0 ∧ i = .int .i64 m ∧ Hid (scanF P B S k L E m = some (L', E', f0) ∧ KR w wr gL gE n L' E')) (fun _ i _ => n - (intOf i).toNat)
        case atStart => exact ⟨0, -1, L, E, by omega, rfl, rfl, ⟨rfl, HR1.out.2⟩⟩
        case round =>
          obtain ⟨m, f0, L', E', hm, rfl, rfl, HR2⟩ := hrel
          have hf0 := (scanF_some HR2.out.1).2.2
          by_cases hmn : m < n
          · obtain ⟨b, off, rfl, hlt, hcell⟩ := HR.out m hmn
            obtain ⟨p0, p1⟩ := HP.out m hmn
            obtain ⟨b2, off2, hA2, hlt2, cS⟩ := H2.out m hmn
            subst hA2
            obtain ⟨c0, _⟩ := hcell 0 _ rfl
            obtain ⟨c1, _⟩ := hcell 1 _ rfl
            rw [p0] at c0
            rw [p1] at c1
            rw [← HR2.out.2.b.cell (p := ⟨b, _, none⟩) hlt] at c0 c1
            rw [← HR2.out.2.b.cell (p := ⟨b2, _, none⟩) hlt2] at cS
            obtain ⟨o1, o2, o3, o4⟩ := HOK.out m hmn
            obtain ⟨s1, s2⟩ := HS.out m hmn
            obtain ⟨pm, hpm⟩ : ∃ v, P m = v := ⟨_, rfl⟩
            obtain ⟨bm, hbm⟩ : ∃ v, B m = v := ⟨_, rfl⟩
            obtain ⟨sm, hsm⟩ : ∃ v, S m = v := ⟨_, rfl⟩
            rw [hpm] at c0 o1 o2 o4
            rw [hbm] at c1 o3 o4
            rw [hsm] at cS s1 s2
            simp [← Nat.add_assoc] at c0 c1
            have HM := Lib.hid (And.intro hpm (And.intro hbm hsm))
            have cL := HR2.out.2.cl hmn
            have cE := HR2.out.2.ce hmn
            have tL := HR2.out.2.top m hmn
            have fL := HR2.out.2.l.frozen m
            have fE := HR2.out.2.e.frozen m
            obtain ⟨lm, hlm⟩ : ∃ v, L' m = v := ⟨_, rfl⟩
            obtain ⟨em, hem⟩ : ∃ v, E' m = v := ⟨_, rfl⟩
            rw [hlm] at cL tL
            rw [hem] at cE
            have HLE := Lib.hid (And.intro hlm hem)
            have hx0 : (0 : Int) ≤ m := by omega
            have hx1 : (m : Int) < n := by omega
            have hz1 : b < w.heap.size := hlt
            have hkb : (k : Int) ≤ 3000 := by omega
            have HLT := Lib.hid hlt
            clear hcell p0 p1 hpm hbm hsm hlm hem hlt2 hz1
            by_cases hks : (k : Int) < sm
            · go_wp2_with fail
              exact ⟨⟨m + 1, f0, L', E', by omega, rfl, by go_num, ⟨scan_skip HR2.out.1 (by rw [HM.out.2.2]; exact hks), HR2.out.2⟩⟩, by simp [intOf]; omega⟩
            · have hks1 : ¬ (k : Int) < sm := hks
              have hw1 : IntKind.i64.wrap ((k : Int) - sm) = k - sm := IntWalk.i64_in _ (by omega)
              have hr0 := Int.emod_nonneg ((k : Int) - sm) (b := pm) (by omega)
              have hr1 := Int.emod_lt_of_pos ((k : Int) - sm) (b := pm) (by omega)
              obtain ⟨rr, hrr⟩ : ∃ v, ((k : Int) - sm) % pm = v := ⟨_, rfl⟩
              rw [hrr] at hr0 hr1
              have hw2 : IntKind.i64.wrap (((k : Int) - sm).tmod pm) = rr := by rw [Int.tmod_eq_emod_of_nonneg (by omega), hrr]; exact IntWalk.i64_in _ (by omega)
              have hpz : (pm == 0) = false := by simp; omega
              have HRR := Lib.hid hrr
              clear hrr
              go_wp2_with fail
              go_quiet (fail)
              clear hw1 hw2
              by_cases hrz : rr = 0
              · subst hrz
                have hdue : (k - S m) % P m = 0 := by rw [HM.out.1, HM.out.2.2]; exact HRR.out
                have HDU := Lib.hid hdue
                have HNS := Lib.hid (show ¬ (k : Int) < S m by rw [HM.out.2.2]; omega)
                have dz : (((k : Int) - sm) % pm == 0) = true := by rw [HRR.out]; rfl
                clear hdue
                by_cases hl : 0 < lm
                · have hbad := scan_bad HR2.out.1 HNS.out HDU.out (by rw [HLE.out.1]; omega)
                  have HBAD := Lib.hid (run_bad HR1.out.1 (scan_up hbad n (by omega)) hkK)
                  clear hbad
                  go_wp2_with fail
                  go_ret
                  exact ⟨ret_bool HBAD.out.symm, belowN HR2.out.2.b _⟩
                · have HSC := Lib.hid (scan_due HR2.out.1 HNS.out HDU.out (by rw [HLE.out.1]; omega))
                  have we : IntKind.i64.wrap ((k : Int) + pm) = k + pm := IntWalk.i64_in _ (by omega)
                  have hne : gL ≠ gE := HR2.out.2.ne
                  have hbl : b ≠ gL := by have := HR2.out.2.hl; omega
                  have hbe : b ≠ gE := by have := HR2.out.2.he; omega
                  go_wp2_with fail
                  have hk2 := ((HR2.out.2.drewN nq).setL m bm (by omega)).setE m (k + pm)
                  clear cL cE c0 c1 cS
                  obtain ⟨L2, hL2⟩ : ∃ g, upd L' m (B m) = g := ⟨_, rfl⟩
                  obtain ⟨E2, hE2⟩ : ∃ g, upd E' m (k + P m) = g := ⟨_, rfl⟩
                  rw [hL2, hE2] at HSC
                  rw [HM.out.2.1] at hL2
                  rw [HM.out.1] at hE2
                  rw [hL2, hE2] at hk2
                  have HL2 : Hid (L2 m = bm ∧ E2 m = k + pm) := ⟨by rw [← hL2, upd_at], by rw [← hE2, upd_at]⟩
                  generalize (((wr.drewN nq).setCell ⟨gL, m, none⟩ (.int .i64 bm)).setCell ⟨gE, m, none⟩ (.int .i64 (k + pm))) = y at hk2 ⊢
                  have cL := hk2.cl hmn
                  have cE := hk2.ce hmn
                  rw [HL2.out.1] at cL
                  rw [HL2.out.2] at cE
                  have HK2 := Lib.hid hk2
                  clear hk2 hL2 hE2 we
                  obtain ⟨e2, he2⟩ : ∃ v, (k : Int) + pm = v := ⟨_, rfl⟩
                  rw [he2] at cE HL2
                  have hl2 : 0 < bm := by omega
                  have dl : decide (0 < bm) = true := decide_eq_true hl2
                  try rw [he2]
                  clear he2
                  rcases hf0 with rfl | ⟨g1, g2, g3⟩
                  · clear fL fE
                    go_wp2_with fail
                    go_quiet (fail)
                    go_wp2_with fail
                    exact ⟨⟨m + 1, (m : Int), _, _, by omega, rfl, by go_num, ⟨by rw [HSC.out, pick_b (by rw [HL2.out.1]; omega) (by decide)], HK2.out.drewN _⟩⟩, by simp [intOf]; omega⟩
                  · obtain ⟨x, rfl⟩ : ∃ x : Nat, f0 = x := ⟨f0.toNat, by omega⟩
                    simp only [Int.toNat_natCast] at g2 g3
                    have cF := HK2.out.ce (i := x) (by omega)
                    obtain ⟨fx, hfx⟩ : ∃ v, E2 x = v := ⟨_, rfl⟩
                    rw [hfx] at cF
                    have HFX := Lib.hid hfx
                    have hx4 : (0 : Int) ≤ x := by omega
                    have hx5 : (x : Int) < n := by omega
                    have dF : decide ((x : Int) < 0) = false := decide_eq_false (by omega)
                    clear hfx g3 fL fE
                    by_cases hlt2 : e2 < fx
                    · have dE : decide (e2 < fx) = true := decide_eq_true hlt2
                      go_wp2_with fail
                      go_quiet (fail)
                      go_wp2_with fail
                      exact ⟨⟨m + 1, (m : Int), _, _, by omega, rfl, by go_num, ⟨by rw [HSC.out, pick_c (by rw [HL2.out.1]; omega) (by rw [HL2.out.2, Int.toNat_natCast, HFX.out]; omega)], HK2.out.drewN _⟩⟩, by simp [intOf]; omega⟩
                    · have dE : decide (e2 < fx) = false := decide_eq_false hlt2
                      go_wp2_with fail
                      go_quiet (fail)
                      go_wp2_with fail
                      exact ⟨⟨m + 1, (x : Int), _, _, by omega, rfl, by go_num, ⟨by rw [HSC.out, pick_d (by omega) (by rw [HL2.out.2, Int.toNat_natCast, HFX.out]; omega)], HK2.out.drewN _⟩⟩, by simp [intOf]; omega⟩
              · have HNS := Lib.hid (show ¬ (k : Int) < S m by rw [HM.out.2.2]; omega)
                have HSC := Lib.hid (scan_not HR2.out.1 HNS.out (by rw [HM.out.1, HM.out.2.2, HRR.out]; exact hrz))
                have hk2 := HR2.out.2.drewN nq
                have dz : (((k : Int) - sm) % pm == 0) = false := by rw [HRR.out]; simpa using hrz
                obtain ⟨L2, hL2⟩ : ∃ g, L' = g := ⟨_, rfl⟩
                obtain ⟨E2, hE2⟩ : ∃ g, E' = g := ⟨_, rfl⟩
                rw [hL2, hE2] at HSC hk2 HLE
                obtain ⟨e2, he2⟩ : ∃ v, em = v := ⟨_, rfl⟩
                rw [he2] at cE HLE
                have HL2 := HLE
                go_wp2_with fail
                clear cL cE c0 c1 cS
                generalize wr.drewN nq = y at hk2 ⊢
                have cL := hk2.cl hmn
                have cE := hk2.ce hmn
                rw [HL2.out.1] at cL
                rw [HL2.out.2] at cE
                have HK2 := Lib.hid hk2
                clear hk2
                by_cases hl2 : 0 < lm
                · have dl : decide (0 < lm) = true := decide_eq_true hl2
                  rcases hf0 with rfl | ⟨g1, g2, g3⟩
                  · clear fL fE
                    go_wp2_with fail
                    go_quiet (fail)
                    go_wp2_with fail
                    exact ⟨⟨m + 1, (m : Int), _, _, by omega, rfl, by go_num, ⟨by rw [HSC.out, pick_b (by rw [HL2.out.1]; omega) (by decide)], HK2.out.drewN _⟩⟩, by simp [intOf]; omega⟩
                  · obtain ⟨x, rfl⟩ : ∃ x : Nat, f0 = x := ⟨f0.toNat, by omega⟩
                    simp only [Int.toNat_natCast] at g2 g3
                    have cF := HK2.out.ce (i := x) (by omega)
                    obtain ⟨fx, hfx⟩ : ∃ v, E2 x = v := ⟨_, rfl⟩
                    rw [hfx] at cF
                    have HFX := Lib.hid hfx
                    have hx4 : (0 : Int) ≤ x := by omega
                    have hx5 : (x : Int) < n := by omega
                    have dF : decide ((x : Int) < 0) = false := decide_eq_false (by omega)
                    clear hfx g3 fL fE
                    by_cases hlt2 : e2 < fx
                    · have dE : decide (e2 < fx) = true := decide_eq_true hlt2
                      go_wp2_with fail
                      go_quiet (fail)
                      go_wp2_with fail
                      exact ⟨⟨m + 1, (m : Int), _, _, by omega, rfl, by go_num, ⟨by rw [HSC.out, pick_c (by rw [HL2.out.1]; omega) (by rw [HL2.out.2, Int.toNat_natCast, HFX.out]; omega)], HK2.out.drewN _⟩⟩, by simp [intOf]; omega⟩
                    · have dE : decide (e2 < fx) = false := decide_eq_false hlt2
                      go_wp2_with fail
                      go_quiet (fail)
                      go_wp2_with fail
                      exact ⟨⟨m + 1, (x : Int), _, _, by omega, rfl, by go_num, ⟨by rw [HSC.out, pick_d (by omega) (by rw [HL2.out.2, Int.toNat_natCast, HFX.out]; omega)], HK2.out.drewN _⟩⟩, by simp [intOf]; omega⟩
                · have dl : decide (0 < lm) = false := decide_eq_false hl2
                  go_wp2_with fail
                  go_quiet (fail)
                  go_wp2_with fail
                  exact ⟨⟨m + 1, f0, _, _, by omega, rfl, by go_num, ⟨by rw [HSC.out, pick_a (by rw [HL2.out.1]; omega)], HK2.out.drewN _⟩⟩, by simp [intOf]; omega⟩
          · obtain rfl : m = n := by omega
            rcases hf0 with rfl | ⟨g1, g2, g3⟩
            · go_wp2_with fail
              exact ⟨⟨k + 1, _, _, by omega, by go_num, ⟨run_idle HR1.out.1 HR2.out.1 (by decide), HR2.out.2⟩⟩, by simp [intOf]; omega⟩
            · obtain ⟨x, rfl⟩ : ∃ x : Nat, f0 = x := ⟨f0.toNat, by omega⟩
              simp only [Int.toNat_natCast] at g2 g3
              have cL := HR2.out.2.cl g2
              have fL := HR2.out.2.l.frozen x
              have tL := HR2.out.2.top x g2
              have hx0 : (0 : Int) ≤ x := by omega
              have hx1 : (x : Int) < m := by omega
              obtain ⟨lx, hlx⟩ : ∃ v, L' x = v := ⟨_, rfl⟩
              rw [hlx] at cL tL g3
              have HLX := Lib.hid hlx
              clear hlx
              go_wp2_with fail
              refine ⟨⟨k + 1, _, _, by omega, by go_num, ⟨run_busy HR1.out.1 HR2.out.1 hx0, ?_⟩⟩, by simp [intOf]; omega⟩
              rw [Int.toNat_natCast, HLX.out]
              exact HR2.out.2.setL x (lx - 1) (by omega)
      · obtain rfl : k = K := by omega
        have hkK2 : ¬ (k : Int) < k := by omega
        go_wp2_with fail
        go_ret
        exact ⟨ret_bool (by rw [HR1.out.1]; rfl), HR1.out.2.b⟩
end Go.Proofs.Ytogdpkeojccpcaa
