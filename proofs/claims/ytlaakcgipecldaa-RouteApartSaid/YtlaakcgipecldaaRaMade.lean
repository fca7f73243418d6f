/- Ports that may be, made out of any. Conditions: the ports in cells, numbers of 64 bits. -/
import Derived.Test.YtlaakcgipecldaaRtPorts3
import Derived.Deep.RegionHeld3
namespace Go.Proofs.Ytlaakcgipecldaa
set_option linter.all false
open Go.RowKit

/-- What the law makes of a port. -/
def mk (p : PV) : PV := ⟨1 + p.k % 2, p.f % 4, (p.f % 4 + 1 + p.t % 3) % 4, 16, if p.k % 2 = 0 then 0 else 2, if p.k % 2 = 0 then 9 else 0⟩
theorem mk_ok (p : PV) : (mk p).ok := by
  have h1 : p.k % 2 = 0 ∨ p.k % 2 = 1 := by omega
  unfold mk PV.ok PortOk
  rcases h1 with h | h <;> rw [h] <;> simp <;> omega
def B64 (x : Int) : Prop := -9223372036854775808 ≤ x ∧ x ≤ 9223372036854775807
def PB (Ps : List PV) : Prop := ∀ i (h : i < Ps.length), B64 Ps[i].k ∧ B64 Ps[i].f ∧ B64 Ps[i].t
theorem prd_of_rd2 {w : World} {A : Option Addr} {n : Nat} {Z : Nat → Nat → Value} (h : Rd w A n pLeaves Z) : ∃ Ps : List PV, Ps.length = n ∧ PRd w A Ps ∧ PB Ps := by
  refine ⟨(List.range n).map fun i => ⟨intOf (Z i 0), intOf (Z i 1), intOf (Z i 2), intOf (Z i 3), intOf (Z i 4), intOf (Z i 5)⟩, by simp, fun i hi => ?_, fun i hi => ?_⟩
  · have hi' : i < n := by simpa using hi
    obtain ⟨b, o, hA, hl, hc⟩ := h i hi'
    refine ⟨b, o, hA, hl, ?_⟩
    have key : ∀ (j : Nat), j < 6 → w.cell? ⟨b, o + i * 6 + j, none⟩ = some (.int .i64 (intOf (Z i j))) := fun j hj => by
      obtain ⟨h1, z, hz, _⟩ := hc j (.int .i64) (by
        have : j = 0 ∨ j = 1 ∨ j = 2 ∨ j = 3 ∨ j = 4 ∨ j = 5 := by omega
        rcases this with rfl | rfl | rfl | rfl | rfl | rfl <;> rfl)
      rw [show o + i * 6 + j = o + (i * pLeaves.length + j) by show o + i * 6 + j = o + (i * 6 + j); omega, h1, hz]
      rfl
    simp only [List.getElem_map, List.getElem_range]
    exact ⟨by simpa using key 0 (by omega), key 1 (by omega), key 2 (by omega), key 3 (by omega), key 4 (by omega), key 5 (by omega)⟩
  · have hi' : i < n := by simpa using hi
    obtain ⟨b, o, hA, hl, hc⟩ := h i hi'
    have key : ∀ (j : Nat), j < 6 → B64 (intOf (Z i j)) := fun j hj => by
      obtain ⟨h1, z, hz, hw⟩ := hc j (.int .i64) (by
        have : j = 0 ∨ j = 1 ∨ j = 2 ∨ j = 3 ∨ j = 4 ∨ j = 5 := by omega
        rcases this with rfl | rfl | rfl | rfl | rfl | rfl <;> rfl)
      rw [hz]
      exact wf_bounds hw
    simp only [List.getElem_map, List.getElem_range]
    exact ⟨key 0 (by omega), key 1 (by omega), key 2 (by omega)⟩

theorem made_cells1 {p : PV} {zk zf zt ek ef et xt : Int} (hz : p.k = zk ∧ p.f = zf ∧ p.t = zt) (h1 : zk % 2 = ek) (h2 : zf % 4 = ef) (h3 : zt % 3 = et) (hx : (ef + 1 + et).tmod 4 = xt) (hk : 1 + ek = 1) :
    pc (mk p) = [.int .i64 1, .int .i64 ef, .int .i64 xt, .int .i64 16, .int .i64 0, .int .i64 9] := by
  obtain ⟨rfl, rfl, rfl⟩ := hz
  have e0 : ek = 0 := by omega
  have hf := Int.emod_nonneg p.f (b := 4) (by decide)
  have ht := Int.emod_nonneg p.t (b := 3) (by decide)
  subst h2 h3
  rw [Int.tmod_eq_emod_of_nonneg (by omega)] at hx
  rw [e0] at h1
  simp [pc, mk, h1, hx]
theorem made_cells2 {p : PV} {zk zf zt ek ef et xt : Int} (hz : p.k = zk ∧ p.f = zf ∧ p.t = zt) (h1 : zk % 2 = ek) (h2 : zf % 4 = ef) (h3 : zt % 3 = et) (hx : (ef + 1 + et).tmod 4 = xt) (hk : 1 + ek = 2) :
    pc (mk p) = [.int .i64 2, .int .i64 ef, .int .i64 xt, .int .i64 16, .int .i64 2, .int .i64 0] := by
  obtain ⟨rfl, rfl, rfl⟩ := hz
  have e0 : ek = 1 := by omega
  have hf := Int.emod_nonneg p.f (b := 4) (by decide)
  have ht := Int.emod_nonneg p.t (b := 3) (by decide)
  subst h2 h3
  rw [Int.tmod_eq_emod_of_nonneg (by omega)] at hx
  rw [e0] at h1
  simp [pc, mk, h1, hx]
theorem pcells_snoc (Ps : List PV) (i : Nat) (hi : i < Ps.length) : pcells ((Ps.take (i + 1)).map mk) = pcells ((Ps.take i).map mk) ++ pc (mk Ps[i]) := by
  rw [List.take_succ_eq_append_getElem hi, List.map_append]
  simp [pcells]

set_option maxRecDepth 100000 in
set_option maxHeartbeats 8000000 in
theorem made_any (w : World) (A : Option Addr) (c : Nat) (Ps : List PV) (hR : PRd w A Ps) (hB : PB Ps) (hl : Ps.length ≤ maxLen) :
    Calls Try.prog 29 #[.slice A Ps.length c] w fun e w' => ∃ A' c', e = .returned (.slice A' ((Ps.take 8).map mk).length c') ∧ w'.ownsRow w.heap.size 30 6 (.slice A' ((Ps.take 8).map mk).length c') ((Ps.take 8).map mk).length (pcells ((Ps.take 8).map mk)) ∧ Below w.heap.size w w' := by
  have hlI : (Ps.length : Int) ≤ 9223372036854775807 := by simp [maxLen] at hl; omega
  have HR := Lib.hid hR
  have HB := Lib.hid hB
  have HX := Lib.hid (show (1010 : Nat) ≤ maxLen by decide)
  obtain ⟨i0, hi0, hz0, hz1, hz2⟩ := info_parts port_info
  have HI := Lib.hid (And.intro hi0 (And.intro hz0 (And.intro hz1 hz2)))
  clear hR hB hl hi0 hz0 hz1 hz2
  go_enter Try.func29, Try.ntmps29
  go_wp2_with fail
  go_loopw [3, 4] (fun v p wr => ∃ i : Nat, i ≤ Ps.length ∧ i ≤ 8 ∧ p = .int .i64 (i : Int) ∧ Hid (wr.ownsRow w.heap.size 30 6 v i (pcells ((Ps.take i).map mk)) ∧ Below w.heap.size w wr)) (fun _ p _ => 8 - (intOf p).toNat)
  case atStart => exact ⟨0, by omega, by omega, rfl, by simp [pcells, World.ownsRow], Below.refl _ _⟩
  case round =>
    obtain ⟨i, hi, hi8, rfl, HN⟩ := hrel
    by_cases hc : i < Ps.length ∧ i < 8
    · have d1 : decide (i < Ps.length) = true := decide_eq_true hc.1
      have d2 : decide (i < 8) = true := decide_eq_true hc.2
      have d2' : decide ((i : Int) < 8) = true := decide_eq_true (by omega)
      have hc1 := hc.1
      have hc2 := hc.2
      obtain ⟨b, o, hA, hb, p0, p1, p2, p3, p4, p5⟩ := HR.out i hc.1
      subst hA
      have q0 := (HN.out.2.cell (p := ⟨b, o + i * 6, none⟩) hb).trans p0
      have q1 := (HN.out.2.cell (p := ⟨b, o + i * 6 + 1, none⟩) hb).trans p1
      have q2 := (HN.out.2.cell (p := ⟨b, o + i * 6 + 2, none⟩) hb).trans p2
      have hbr : b < wr.heap.size := Nat.lt_of_lt_of_le hb HN.out.2.size
      clear p0 p1 p2 p3 p4 p5
      have hne : wr.heap.size ≠ b := by omega
      have hne2 : b ≠ wr.heap.size := by omega
      have hne3 : wr.drew.heap.size ≠ b := by simp; omega
      obtain ⟨zk, hzk⟩ : ∃ x, Ps[i].k = x := ⟨_, rfl⟩
      obtain ⟨zf, hzf⟩ : ∃ x, Ps[i].f = x := ⟨_, rfl⟩
      obtain ⟨zt, hzt⟩ : ∃ x, Ps[i].t = x := ⟨_, rfl⟩
      have HBi := Lib.hid (HB.out i hc.1)
      rw [hzk, hzf, hzt] at HBi
      rw [hzk] at q0
      rw [hzf] at q1
      rw [hzt] at q2
      have HZ := Lib.hid (And.intro hzk (And.intro hzf hzt))
      clear hzk hzf hzt hc
      have y0 := Int.emod_nonneg zk (b := 2) (by decide)
      have y1 := Int.emod_lt_of_pos zk (b := 2) (by decide)
      have y2 := Int.emod_nonneg zf (b := 4) (by decide)
      have y3 := Int.emod_lt_of_pos zf (b := 4) (by decide)
      have y4 := Int.emod_nonneg zt (b := 3) (by decide)
      have y5 := Int.emod_lt_of_pos zt (b := 3) (by decide)
      obtain ⟨ek, hek⟩ : ∃ x, zk % 2 = x := ⟨_, rfl⟩
      obtain ⟨ef, hef⟩ : ∃ x, zf % 4 = x := ⟨_, rfl⟩
      obtain ⟨et, het⟩ : ∃ x, zt % 3 = x := ⟨_, rfl⟩
      rw [hek] at y0 y1
      rw [hef] at y2 y3
      rw [het] at y4 y5
      have HEK := Lib.hid hek
      have HEF := Lib.hid hef
      have HET := Lib.hid het
      clear hek hef het
      have wa : IntKind.i64.wrap (1 + ek) = 1 + ek := IntWalk.i64_in _ (by omega)
      have wb : IntKind.i64.wrap (ef + 1) = ef + 1 := IntWalk.i64_in _ (by omega)
      have wc : IntKind.i64.wrap (ef + 1 + et) = ef + 1 + et := IntWalk.i64_in _ (by omega)
      have K0 := Lib.hid True.intro
      have K1 := Lib.hid True.intro
      go_wp2_with fail
      go_region_held3 (fun w' => w'.cell? ⟨b, o + i * 6, none⟩ = some (.int .i64 zk) ∧ w'.cell? ⟨b, o + i * 6 + 1, none⟩ = some (.int .i64 zf) ∧ w'.cell? ⟨b, o + i * 6 + 2, none⟩ = some (.int .i64 zt)) (go_keep)
        (first
          | (go_at_call 10; have _tk := K0; refine (bring_any zk 2 _ HBi.out.1 (by omega)).mono ?_; rw [HEK.out]; rintro r y9 ⟨rfl, -, rfl⟩; clear K0 _tk)
          | (go_at_call 10; have _tk := K1; refine (bring_any zf 4 _ HBi.out.2.1 (by omega)).mono ?_; rw [HEF.out]; rintro r y9 ⟨rfl, -, rfl⟩; clear K1 _tk))
      all_goals (
        rename_i hHeld
        have B5 := (Blk.new wr 30 #[.int .i64 (1 + ek), .int .i64 ef, .int .i64 0, .int .i64 16, .int .i64 0, .int .i64 0]).drew
        have L5 := ((Below.refl wr.heap.size wr).alloc (Nat.le_refl _) (.cells #[.int .i64 (1 + ek), .int .i64 ef, .int .i64 0, .int .i64 16, .int .i64 0, .int .i64 0] 30)).drew
        have r2 := hHeld.2.2
        clear hHeld
        generalize (wr.alloc (.cells #[.int .i64 (1 + ek), .int .i64 ef, .int .i64 0, .int .i64 16, .int .i64 0, .int .i64 0] 30)).drew = W5 at B5 L5 r2 ⊢
        obtain ⟨tB, htB⟩ : ∃ tB, wr.heap.size = tB := ⟨_, rfl⟩
        rw [htB] at B5 L5 hbr hne hne2 ⊢
        have k1 := B5.cell 1
        have k2 := B5.cell 2
        have f2 := B5.frozen 2
        simp at k1 k2
        have e5 : (W5.setCell ⟨tB, 2, none⟩ (.int .i64 ((ef + 1 + et).tmod 4))).drew.cell? ⟨tB, 1, none⟩ = some (.int .i64 ef) := by
          have := (B5.set_ 2 (.int .i64 ((ef + 1 + et).tmod 4))).drew.cell 1
          simpa using this
        have HB5 := Lib.hid (And.intro B5 L5)
        clear q0 q1 q2 B5 L5 hne3
        have htb : tB ≠ b := by omega
        go_wp2_with fail
        go_region_held3 (fun w' => w'.cell? ⟨tB, 1, none⟩ = some (.int .i64 ef) ∧ w'.cell? ⟨b, o + i * 6 + 2, none⟩ = some (.int .i64 zt)) (go_keep)
          (first | (go_at_call 10; refine (bring_any zt 3 _ HBi.out.2.2 (by omega)).mono ?_; rw [HET.out]; rintro r y9 ⟨rfl, -, rfl⟩)))
      all_goals (
        rename_i hHeld
        have B6 := (HB5.out.1.set_ 2 (.int .i64 ((ef + 1 + et).tmod 4))).drew
        have L6 := (HB5.out.2.setCell (p := ⟨tB, 2, none⟩) (Nat.le_refl _) (.int .i64 ((ef + 1 + et).tmod 4))).drew
        simp at B6
        clear hHeld f2 k1 k2 e5 r2 HB5
        generalize (W5.setCell ⟨tB, 2, none⟩ (.int .i64 ((ef + 1 + et).tmod 4))).drew = W6 at B6 L6 ⊢
        obtain ⟨xt, hxt⟩ : ∃ x, (ef + 1 + et).tmod 4 = x := ⟨_, rfl⟩
        obtain ⟨kk, hkk⟩ : ∃ x, 1 + ek = x := ⟨_, rfl⟩
        rw [hxt, hkk] at B6
        rw [hxt, hkk]
        have HXT := Lib.hid hxt
        have HKK := Lib.hid hkk
        have HTB := Lib.hid htB
        have hkc : kk = 1 ∨ kk = 2 := by omega
        clear hxt hkk wa wb wc htB
        rcases hkc with rfl | rfl
        · have B7 := B6.set_ 5 (.int .i64 9)
          simp at B7
          have g0 := B7.cell 0
          have g1 := B7.cell 1
          have g2 := B7.cell 2
          have g3 := B7.cell 3
          have g4 := B7.cell 4
          have g5 := B7.cell 5
          have m0 := B6.cell 0
          have mf := B6.frozen 5
          have mc := B6.cell 5
          simp at g0 g1 g2 g3 g4 g5 m0 mc
          have HL7 := Lib.hid (L6.setCell (p := ⟨tB, 5, none⟩) (Nat.le_refl _) (.int .i64 9))
          clear B6 L6 B7
          generalize hW7 : W6.setCell ⟨tB, 5, none⟩ (.int .i64 9) = W7 at g0 g1 g2 g3 g4 g5 HL7
          go_wp2_with (first
            | (at_builtin
               refine wpList_append_lies _ (by rfl) _ _ 50 (by rfl) w.heap.size 30 i0 _ 6 48 Try.underlying50 HI.out.1 HI.out.2.1 HI.out.2.2.1 HI.out.2.2.2 (by decide) (by decide) u3 i (pcells ((Ps.take i).map mk)) (by rfl) (kept_alloc (own_below HN.out.1 (show Below wr.heap.size wr W7 from HTB.out ▸ HL7.out))) ⟨W7.heap.size, 0, none⟩ 1 1 [.int .i64 1, .int .i64 ef, .int .i64 xt, .int .i64 16, .int .i64 0, .int .i64 9] (by rfl) (by rfl) (World.news_of_block (cs := #[.int .i64 1, .int .i64 ef, .int .i64 xt, .int .i64 16, .int .i64 0, .int .i64 9]) (t := 30) (fr := (0, 0)) (heap_alloc_new W7 _)) (by simp [Value.oneCell']) (by decide) (by have := HX.out; omega) (by omega) (by have h1 := HN.out.2.size; have h2 := HL7.out.size; have h3 := HTB.out; simp; omega) (W7.heap.size + 1) (by simp) ?_
               intro g9 k9 w9 hown hgrow hat hlt9
               have HP := Lib.hid (And.intro hown ((((HN.out.2.trans ((show Below wr.heap.size wr W7 from HTB.out ▸ HL7.out).mono HN.out.2.size)).alloc (by have h1 := HN.out.2.size; have h2 := HL7.out.size; have h3 := HTB.out; omega) _).grown hgrow (by have h1 := HN.out.2.size; have h2 := HL7.out.size; have h3 := HTB.out; simp; omega) (fun j e => (own_cells HN.out.1 e).1))))
               clear hown hgrow hat hlt9)
            | (rw [hW7]))
          exact ⟨⟨i + 1, by omega, by omega, rfl, by rw [pcells_snoc Ps i hc1, made_cells1 HZ.out HEK.out HEF.out HET.out HXT.out HKK.out]; exact HP.out.1, HP.out.2⟩, by simp [intOf]; omega⟩
        · have B7 := B6.set_ 4 (.int .i64 2)
          simp at B7
          have g0 := B7.cell 0
          have g1 := B7.cell 1
          have g2 := B7.cell 2
          have g3 := B7.cell 3
          have g4 := B7.cell 4
          have g5 := B7.cell 5
          have m0 := B6.cell 0
          have mf := B6.frozen 4
          have mc := B6.cell 4
          simp at g0 g1 g2 g3 g4 g5 m0 mc
          have HL7 := Lib.hid (L6.setCell (p := ⟨tB, 4, none⟩) (Nat.le_refl _) (.int .i64 2))
          clear B6 L6 B7
          generalize hW7 : W6.setCell ⟨tB, 4, none⟩ (.int .i64 2) = W7 at g0 g1 g2 g3 g4 g5 HL7
          go_wp2_with (first
            | (at_builtin
               refine wpList_append_lies _ (by rfl) _ _ 50 (by rfl) w.heap.size 30 i0 _ 6 48 Try.underlying50 HI.out.1 HI.out.2.1 HI.out.2.2.1 HI.out.2.2.2 (by decide) (by decide) u3 i (pcells ((Ps.take i).map mk)) (by rfl) (kept_alloc (own_below HN.out.1 (show Below wr.heap.size wr W7 from HTB.out ▸ HL7.out))) ⟨W7.heap.size, 0, none⟩ 1 1 [.int .i64 2, .int .i64 ef, .int .i64 xt, .int .i64 16, .int .i64 2, .int .i64 0] (by rfl) (by rfl) (World.news_of_block (cs := #[.int .i64 2, .int .i64 ef, .int .i64 xt, .int .i64 16, .int .i64 2, .int .i64 0]) (t := 30) (fr := (0, 0)) (heap_alloc_new W7 _)) (by simp [Value.oneCell']) (by decide) (by have := HX.out; omega) (by omega) (by have h1 := HN.out.2.size; have h2 := HL7.out.size; have h3 := HTB.out; simp; omega) (W7.heap.size + 1) (by simp) ?_
               intro g9 k9 w9 hown hgrow hat hlt9
               have HP := Lib.hid (And.intro hown ((((HN.out.2.trans ((show Below wr.heap.size wr W7 from HTB.out ▸ HL7.out).mono HN.out.2.size)).alloc (by have h1 := HN.out.2.size; have h2 := HL7.out.size; have h3 := HTB.out; omega) _).grown hgrow (by have h1 := HN.out.2.size; have h2 := HL7.out.size; have h3 := HTB.out; simp; omega) (fun j e => (own_cells HN.out.1 e).1))))
               clear hown hgrow hat hlt9)
            | (rw [hW7]))
          exact ⟨⟨i + 1, by omega, by omega, rfl, by rw [pcells_snoc Ps i hc1, made_cells2 HZ.out HEK.out HEF.out HET.out HXT.out HKK.out]; exact HP.out.1, HP.out.2⟩, by simp [intOf]; omega⟩)
    · obtain ⟨A', c', hv⟩ := row_form2 HN.out.1
      subst hv
      have ht : Ps.take i = Ps.take 8 := by
        by_cases h8 : i = 8
        · rw [h8]
        · rw [List.take_of_length_le (by omega), List.take_of_length_le (by omega)]
      have hn : i = ((Ps.take 8).map mk).length := by rw [List.length_map, List.length_take]; omega
      have HT := Lib.hid (And.intro ht hn)
      clear ht hn
      by_cases hk1 : i < Ps.length
      · have d1 : decide (i < Ps.length) = true := decide_eq_true hk1
        have d2 : decide (i < 8) = false := decide_eq_false (by omega)
        have d3 : decide ((i : Int) < 8) = false := decide_eq_false (by omega)
        go_wp2_with fail
        go_ret
        have h1 := HN.out.1
        rw [HT.out.1] at h1
        refine ⟨A', c', by rw [← HT.out.2]; rfl, ?_, HN.out.2⟩
        rw [← HT.out.2]
        exact h1
      · have d1 : decide (i < Ps.length) = false := decide_eq_false hk1
        go_wp2_with fail
        go_ret
        have h1 := HN.out.1
        rw [HT.out.1] at h1
        refine ⟨A', c', by rw [← HT.out.2]; rfl, ?_, HN.out.2⟩
        rw [← HT.out.2]
        exact h1
end Go.Proofs.Ytlaakcgipecldaa
