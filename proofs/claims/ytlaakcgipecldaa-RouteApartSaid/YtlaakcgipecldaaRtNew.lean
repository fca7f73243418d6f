/- New of package route. Conditions: the ports in cells. -/
import Derived.Test.YtlaakcgipecldaaRrNew
import Derived.Deep.RegionLaw
namespace Go.Proofs.Ytlaakcgipecldaa
set_option linter.all false
open Go.RowKit

theorem way_info : (Try.prog.info? 82).map (fun i => (i.zero, i.size, i.bytes)) = some (some (.pointer none), 1, 8) := by kernel_rfl
theorem new_okP (w : World) {p : PV} (h : p.ok) : Calls Try.prog 11 #[.agg #[.int .i64 p.k, .int .i64 p.f, .int .i64 p.t, .int .i64 p.s, .int .i64 p.d, .int .i64 p.a]] w fun r w' => (∃ g, r = .returned (.tuple #[.pointer (some ⟨g, 0, none⟩), .int .i64 0]) ∧ w.heap.size ≤ g ∧ WayP w' (fun k => w.heap.size ≤ k ∧ k < w'.heap.size) g (freshE p).s) ∧ Below w.heap.size w w' := new_ok w h

theorem new_noP (w : World) {p : PV} (h : ¬ p.ok) : Calls Try.prog 11 #[.agg #[.int .i64 p.k, .int .i64 p.f, .int .i64 p.t, .int .i64 p.s, .int .i64 p.d, .int .i64 p.a]] w fun r w' => r = .returned (.tuple #[.pointer none, .int .i64 50]) ∧ Below w.heap.size w w' := new_no w h
theorem rnew_many (w : World) (A : Option Addr) (c : Nat) (n : Nat) (h8 : 8 < n) :
    Calls Try.prog 23 #[.slice A n c] w fun e w' => e = .returned (.tuple #[.pointer none, .int .i64 5]) ∧ w' = w := by
  have d8 : decide (8 < n) = true := decide_eq_true h8
  have d8' : decide ((8 : Int) < n) = true := decide_eq_true (by omega)
  go_enter Try.func23, Try.ntmps23
  go_wp2_with fail
  go_ret2
  simp

set_option maxRecDepth 100000 in
set_option maxHeartbeats 8000000 in
theorem rnew_p (w : World) (A : Option Addr) (c : Nat) (Ps : List PV) (hR : PRd w A Ps) (h8 : Ps.length ≤ 8) :
    Calls Try.prog 23 #[.slice A Ps.length c] w fun e w' => ((∃ rp, e = .returned (.tuple #[.pointer (some ⟨rp, 0, none⟩), .int .i64 0]) ∧ AllOk Ps ∧
      ∃ S F A' hs gs, RtP w' S F rp (Ps.map freshE) A' hs gs ∧ (∀ k, S k → w.heap.size ≤ k) ∧ ∀ j, j < Ps.length → ∀ k, F j k → w.heap.size ≤ k) ∨ (e = .returned (.tuple #[.pointer none, .int .i64 50]) ∧ ¬ AllOk Ps)) ∧ Below w.heap.size w w' := by
  have HR := Lib.hid hR
  have d8 : decide (8 < Ps.length) = false := decide_eq_false (by omega)
  have d8' : decide ((8 : Int) < Ps.length) = false := decide_eq_false (by omega)
  obtain ⟨i0, hi0, hz0, hz1, hz2⟩ := info_parts way_info
  have HI := Lib.hid (And.intro hi0 (And.intro hz0 (And.intro hz1 hz2)))
  have HX := Lib.hid (show (1010 : Nat) ≤ maxLen by decide)
  clear hR hi0 hz0 hz1 hz2
  go_enter Try.func23, Try.ntmps23
  go_wp2_with fail
  go_loopw [16] (fun p wr => ∃ (i : Nat) (v : Value) (hs gs : Nat → Nat) (F : Nat → Nat → Prop), i ≤ Ps.length ∧ p = .int .i64 (i : Int) ∧ Hid (NW w.heap.size wr w.heap.size v hs gs F Ps i ∧ Below w.heap.size w wr ∧ ∀ j (h : j < Ps.length), j < i → Ps[j].ok)) (fun p _ => Ps.length - (intOf p).toNat)
  case atStart =>
    refine ⟨0, .slice none 0 0, fun _ => 0, fun _ => 0, fun _ _ => False, by omega, rfl, ⟨Blk.new w _ _, World.ownsRow_nil _ _ _ _, Nat.le_refl _, by simp [Value.ownBlock], fun j h hj => absurd hj (Nat.not_lt_zero _), fun j hj => absurd hj (Nat.not_lt_zero _), fun a b ha => absurd ha (Nat.not_lt_zero _), fun j hj => absurd hj (Nat.not_lt_zero _), by simp, Nat.zero_le _⟩, (Below.refl _ w).alloc (Nat.le_refl _) _, fun j h hj => absurd hj (Nat.not_lt_zero _)⟩
  case round =>
    obtain ⟨i, v, hs, gs, F, hi, rfl, HN⟩ := hrel
    by_cases hi2 : i < Ps.length
    · have d1 : decide (i < Ps.length) = true := decide_eq_true hi2
      obtain ⟨b, o, hA, hb, p0, p1, p2, p3, p4, p5⟩ := HR.out i hi2
      subst hA
      have q0 := (HN.out.2.1.cell (p := ⟨b, o + i * 6, none⟩) hb).trans p0
      have q1 := (HN.out.2.1.cell (p := ⟨b, o + i * 6 + 1, none⟩) hb).trans p1
      have q2 := (HN.out.2.1.cell (p := ⟨b, o + i * 6 + 2, none⟩) hb).trans p2
      have q3 := (HN.out.2.1.cell (p := ⟨b, o + i * 6 + 3, none⟩) hb).trans p3
      have q4 := (HN.out.2.1.cell (p := ⟨b, o + i * 6 + 4, none⟩) hb).trans p4
      have q5 := (HN.out.2.1.cell (p := ⟨b, o + i * 6 + 5, none⟩) hb).trans p5
      clear p0 p1 p2 p3 p4 p5
      by_cases hpo : ¬ Ps[i].ok
      · have HPO := Lib.hid hpo
        have HALL : Hid (¬ AllOk Ps) := fun h => hpo (h i hi2)
        clear hpo
        go_wp2_with (go_at_call 11; refine (new_noP _ HPO.out).mono ?_; rintro e x1 ⟨rfl, hb1⟩; have HP1 := Lib.hid hb1; clear hb1)
        go_ret2
        have hbw : Below wr.heap.size wr (wr.alloc (.cells #[.int .i64 Ps[i].k, .int .i64 Ps[i].f, .int .i64 Ps[i].t, .int .i64 Ps[i].s, .int .i64 Ps[i].d, .int .i64 Ps[i].a] 30)) := (Below.refl _ wr).alloc (Nat.le_refl _) _
        have hbx : Below wr.heap.size wr x1 := hbw.trans (HP1.out.mono (by simp))
        exact ⟨Or.inr ⟨rfl, HALL.out⟩, HN.out.2.1.trans (hbx.mono HN.out.1.bw)⟩
      have HPO := Lib.hid (Decidable.not_not.1 hpo)
      clear hpo
      go_wp2_with (go_at_call 11; refine (new_okP _ HPO.out).mono ?_; rintro e x1 ⟨⟨g, rfl, hg, hp⟩, hb1⟩; have HP1 := Lib.hid (And.intro hg (And.intro hp hb1)); clear hg hp hb1)
      have hbw : Below wr.heap.size wr (wr.alloc (.cells #[.int .i64 Ps[i].k, .int .i64 Ps[i].f, .int .i64 Ps[i].t, .int .i64 Ps[i].s, .int .i64 Ps[i].d, .int .i64 Ps[i].a] 30)) := (Below.refl _ wr).alloc (Nat.le_refl _) _
      have hsz1 : (wr.alloc (.cells #[.int .i64 Ps[i].k, .int .i64 Ps[i].f, .int .i64 Ps[i].t, .int .i64 Ps[i].s, .int .i64 Ps[i].d, .int .i64 Ps[i].a] 30)).heap.size = wr.heap.size + 1 := by simp
      have hcp := (Blk.new wr 30 #[.int .i64 Ps[i].k, .int .i64 Ps[i].f, .int .i64 Ps[i].t, .int .i64 Ps[i].s, .int .i64 Ps[i].d, .int .i64 Ps[i].a]).below HP1.out.2.2 (by omega)
      have HB1 : Hid (Below wr.heap.size wr x1) := hbw.trans (HP1.out.2.2.mono (by omega))
      have HG : Hid (wr.heap.size + 1 ≤ g ∧ WayP x1 (fun k => wr.heap.size + 1 ≤ k ∧ k < x1.heap.size) g (freshE Ps[i]).s) := by
        have h1 := HP1.out.1
        have h2 := HP1.out.2.1
        rw [hsz1] at h1
        simp only [hsz1] at h2
        exact ⟨h1, h2⟩
      have HS1 : Hid (wr.heap.size + 1 ≤ x1.heap.size) := by have := HP1.out.2.2.size; rw [hsz1] at this; exact this
      clear HP1 q0 q1 q2 q3 q4 q5 hbw hsz1
      have HN1 := Lib.hid (HN.out.1.below HB1.out)
      have k1 := hcp.cell 1
      have k2 := hcp.cell 2
      simp at k1 k2
      have z0 := HN1.out.r.cell 0
      simp at z0
      have k1' : x1.drew.cell? ⟨wr.heap.size, 1, none⟩ = _ := k1
      have k2' : x1.drew.cell? ⟨wr.heap.size, 2, none⟩ = _ := k2
      have z0' : x1.drew.cell? ⟨w.heap.size, 0, none⟩ = _ := z0
      have HB4 : Hid (Below wr.heap.size wr ((x1.alloc (.cells #[.pointer (some ⟨g, 0, none⟩), .int .i64 Ps[i].f, .int .i64 Ps[i].t] 84)).alloc (.cells #[.pointer (some ⟨x1.heap.size, 0, none⟩)] 82)).drew) :=
        ((HB1.out.alloc HB1.out.size _).alloc (by have := HB1.out.size; simp; omega) _).drew
      have HBL : Hid (Blk ((x1.alloc (.cells #[.pointer (some ⟨g, 0, none⟩), .int .i64 Ps[i].f, .int .i64 Ps[i].t] 84)).alloc (.cells #[.pointer (some ⟨x1.heap.size, 0, none⟩)] 82)).drew x1.heap.size 84 #[.pointer (some ⟨g, 0, none⟩), .int .i64 Ps[i].f, .int .i64 Ps[i].t]) :=
        ((Blk.new x1 84 #[.pointer (some ⟨g, 0, none⟩), .int .i64 Ps[i].f, .int .i64 Ps[i].t]).alloc _).drew
      have HNEW : Hid (((x1.alloc (.cells #[.pointer (some ⟨g, 0, none⟩), .int .i64 Ps[i].f, .int .i64 Ps[i].t] 84)).alloc (.cells #[.pointer (some ⟨x1.heap.size, 0, none⟩)] 82)).drew.heap[x1.heap.size + 1]? = some (.cells #[.pointer (some ⟨x1.heap.size, 0, none⟩)] 82 (0, 0))) := by
        have := heap_alloc_new (x1.alloc (.cells #[.pointer (some ⟨g, 0, none⟩), .int .i64 Ps[i].f, .int .i64 Ps[i].t] 84)) (.cells #[.pointer (some ⟨x1.heap.size, 0, none⟩)] 82)
        have h : ((x1.alloc (.cells #[.pointer (some ⟨g, 0, none⟩), .int .i64 Ps[i].f, .int .i64 Ps[i].t] 84)).alloc (.cells #[.pointer (some ⟨x1.heap.size, 0, none⟩)] 82)).heap[x1.heap.size + 1]? = some (.cells #[.pointer (some ⟨x1.heap.size, 0, none⟩)] 82 (0, 0)) := by rw [show x1.heap.size + 1 = (x1.alloc (.cells #[.pointer (some ⟨g, 0, none⟩), .int .i64 Ps[i].f, .int .i64 Ps[i].t] 84)).heap.size by simp]; exact this
        exact h
      have HSZ : Hid (((x1.alloc (.cells #[.pointer (some ⟨g, 0, none⟩), .int .i64 Ps[i].f, .int .i64 Ps[i].t] 84)).alloc (.cells #[.pointer (some ⟨x1.heap.size, 0, none⟩)] 82)).drew.heap.size = x1.heap.size + 2) := by
        have : ((x1.alloc (.cells #[.pointer (some ⟨g, 0, none⟩), .int .i64 Ps[i].f, .int .i64 Ps[i].t] 84)).alloc (.cells #[.pointer (some ⟨x1.heap.size, 0, none⟩)] 82)).drew.heap.size = x1.heap.size + 1 + 1 := by simp
        exact this
      have HW4 : Hid (WayP ((x1.alloc (.cells #[.pointer (some ⟨g, 0, none⟩), .int .i64 Ps[i].f, .int .i64 Ps[i].t] 84)).alloc (.cells #[.pointer (some ⟨x1.heap.size, 0, none⟩)] 82)).drew (fun k => wr.heap.size + 1 ≤ k ∧ k < x1.heap.size) g (freshE Ps[i]).s) :=
        HG.out.2.upd ((((Upd.refl (fun _ => False) x1).alloc _).alloc _).drew) (fun _ _ h => h)
      have z0a : (x1.alloc (.cells #[.pointer (some ⟨g, 0, none⟩), .int .i64 Ps[i].f, .int .i64 Ps[i].t] 84)).drew.cell? ⟨w.heap.size, 0, none⟩ = some v := (HN1.out.r.alloc _).cell 0
      have z0b : ((x1.alloc (.cells #[.pointer (some ⟨g, 0, none⟩), .int .i64 Ps[i].f, .int .i64 Ps[i].t] 84)).alloc (.cells #[.pointer (some ⟨x1.heap.size, 0, none⟩)] 82)).drew.cell? ⟨w.heap.size, 0, none⟩ = some v := ((HN1.out.r.alloc _).alloc _).cell 0
      clear hcp k1 k2 z0
      go_region_law (first
        | (refine step_append_lies _ rfl (.tmp 32) (.tmp 40) 79 rfl w.heap.size 82 i0 (.pointer none) 1 8 Try.underlying79 HI.out.1 HI.out.2.1 HI.out.2.2.1 HI.out.2.2.2 rfl (by decide) v i (ptrs hs i) (by rfl) (own_below (HN.out.1.own) HB4.out) ⟨x1.heap.size + 1, 0, none⟩ 1 1 [.pointer (some ⟨x1.heap.size, 0, none⟩)] (by simp [Act.eval, Act.put]) rfl (World.news_of_block HNEW.out) (by simp [Value.oneCell']) (by decide) (by have := HX.out; omega) (by omega) (Nat.le_trans HN.out.1.bw HB4.out.size) _ rfl ?_
           intro g9 c9 w9 hown hgrow hat hlt9
           have HP9 := Lib.hid (HN.out.1.push hi2 HB4.out (by have := HS1.out; omega) HBL.out HW4.out (fun k hk => ⟨by omega, by rw [HSZ.out]; omega, by omega⟩) hown hgrow hat)
           have hr9 : Blk w9 w.heap.size 81 #[v, .bool true] := (hgrow.block w.heap.size ((HN.out.1.r).below HB4.out HN.out.1.r.lt).lt (fun e => HN.out.1.nr e.symm)).trans ((HN.out.1.r).below HB4.out HN.out.1.r.lt)
           have HBB : Hid (Below w.heap.size w w9) := (HN.out.2.1.trans (HB4.out.mono HN.out.1.bw)).grown hgrow (Nat.le_trans HN.out.1.bw HB4.out.size) (fun j e => (own_cells HN.out.1.own e).1)
           have z9 := hr9.cell 0
           have f9 := hr9.frozen 0
           simp at z9
           clear hown hgrow hat hlt9 hr9))
      all_goals go_wp2_with fail
      all_goals exact ⟨⟨i + 1, _, _, _, _, by omega, rfl, HP9.out, HBB.out.setCell (p := ⟨w.heap.size, 0, none⟩) (Nat.le_refl _) _, all_step HN.out.2.2 HPO.out⟩, by simp [intOf]; omega⟩
    · have d1 : decide (i < Ps.length) = false := decide_eq_false hi2
      go_wp2_with fail
      go_ret2
      have e : i = Ps.length := by omega
      subst e
      obtain ⟨S, A', h1, h2, h3⟩ := HN.out.1.done
      exact ⟨Or.inl ⟨_, rfl, fun j hj => HN.out.2.2 j hj hj, S, F, A', hs, gs, h1, h2, h3⟩, HN.out.2.1⟩
end Go.Proofs.Ytlaakcgipecldaa
