/- PortPlays: the walk of the law: both answer alike, call by call. -/
import Derived.Test.YtlaakcgipecldaaPortJoint
import Derived.Deep.RegionHeld3
namespace Go.Proofs.Ytlaakcgipecldaa
set_option linter.all false
open Go.RowKit
attribute [local go_sem ↓] Go.wp_at_zero Go.wp_at_succ

/-- Both stand alike at the start of a round. -/
structure JP (w x : World) (g g' : Nat) (s : WS) : Prop where
  ex : ∃ FW FR : Nat → Prop, WayP x FW g s ∧ RwP x FR g' s ∧ (∀ k, FW k → ¬ FR k) ∧ (∀ k, FW k → w.heap.size ≤ k ∧ k < x.heap.size) ∧ (∀ k, FR k → w.heap.size ≤ k ∧ k < x.heap.size)
  b : Below w.heap.size w x
  ok : WOk s
  kind : s.kind = 1 ∨ s.kind = 2
theorem JP.alloc {w x : World} {g g' : Nat} {s : WS} (h : JP w x g g' s) (cs : Array Value) (T : TypeId) : JD w (x.alloc (.cells cs T)) g g' s s x.heap.size T cs := by
  obtain ⟨FW, FR, h1, h2, h3, h4, h5⟩ := h.ex
  refine ⟨⟨FW, FR, h1.upd ((Upd.refl (fun _ => False) _).alloc _) (fun _ _ h => h), h2.upd ((Upd.refl (fun _ => False) _).alloc _) (fun _ _ h => h), h3, fun k hk => ?_, fun k hk => ?_⟩, h.b.alloc h.b.size _, Blk.new _ _ _⟩
  · have := h4 k hk; simp; omega
  · have := h5 k hk; simp; omega
theorem JD.jp {w x : World} {g g' D : Nat} {s : WS} {T : TypeId} {cs : Array Value} (h : JD w x g g' s s D T cs) (ho : WOk s) (hk : s.kind = 1 ∨ s.kind = 2) : JP w x g g' s := by
  obtain ⟨FW, FR, h1, h2, h3, h4, h5⟩ := h.ex
  exact ⟨⟨FW, FR, h1, h2, h3, fun k hk => ⟨(h4 k hk).1, (h4 k hk).2.1⟩, fun k hk => ⟨(h5 k hk).1, (h5 k hk).2.1⟩⟩, h.b, ho, hk⟩

theorem six {w : World} {g : Nat} {T : TypeId} {a b c d e f : Value} (h : Blk w g T #[a, b, c, d, e, f]) : w.cell? ⟨g, 0, none⟩ = some a ∧ w.cell? ⟨g, 1, none⟩ = some b ∧ w.cell? ⟨g, 2, none⟩ = some c ∧ w.cell? ⟨g, 3, none⟩ = some d ∧ w.cell? ⟨g, 4, none⟩ = some e ∧ w.cell? ⟨g, 5, none⟩ = some f :=
  ⟨h.cell 0, h.cell 1, h.cell 2, h.cell 3, h.cell 4, h.cell 5⟩
theorem check_q {w : World} {m : Nat} (k f t s d a : Int) : Calls Try.prog 16 #[.agg #[.int .i64 k, .int .i64 f, .int .i64 t, .int .i64 s, .int .i64 d, .int .i64 a]] (w.drewN m) fun r w' => r = .returned (.int .i64 (checkE k f t s d a)) ∧ Below w.heap.size (w.drewN m) w' := check_any k f t s d a _

set_option maxRecDepth 100000 in
set_option maxHeartbeats 8000000 in
theorem portPlays_core (w : World) (a0_0 : Int) (h0_0 : -9223372036854775808 ≤ a0_0 ∧ a0_0 ≤ 9223372036854775807) (a0_1 : Int) (h0_1 : -9223372036854775808 ≤ a0_1 ∧ a0_1 ≤ 9223372036854775807) (a0_2 : Int) (h0_2 : -9223372036854775808 ≤ a0_2 ∧ a0_2 ≤ 9223372036854775807) (a0_3 : Int) (h0_3 : -9223372036854775808 ≤ a0_3 ∧ a0_3 ≤ 9223372036854775807) (a0_4 : Int) (h0_4 : -9223372036854775808 ≤ a0_4 ∧ a0_4 ≤ 9223372036854775807) (a0_5 : Int) (h0_5 : -9223372036854775808 ≤ a0_5 ∧ a0_5 ≤ 9223372036854775807) (A1 : Option Addr) (n1 c1 : Nat) (Z1 : Nat → Nat → Value) (m1 : n1 ≤ maxLen) (r1 : Rd w A1 n1 [.int .i64, .int .i64, .str] Z1) :
    Calls Try.prog 4 #[.agg #[.int .i64 a0_0, .int .i64 a0_1, .int .i64 a0_2, .int .i64 a0_3, .int .i64 a0_4, .int .i64 a0_5], .slice A1 n1 c1] w (Holds w) := by
  have hm : (n1 : Int) ≤ 9223372036854775807 := by simp [maxLen] at m1; omega
  have hn0 : (0 : Int) ≤ n1 := by omega
  have R1 := Lib.hid r1
  clear r1 m1
  have hb0 := Blk.new w 30 #[.int .i64 a0_0, .int .i64 a0_1, .int .i64 a0_2, .int .i64 a0_3, .int .i64 a0_4, .int .i64 a0_5]
  have HB0 := Lib.hid hb0
  clear hb0
  by_cases hok : PortOk a0_0 a0_1 a0_2 a0_3 a0_4 a0_5
  · have hE : checkE a0_0 a0_1 a0_2 a0_3 a0_4 a0_5 = 0 := if_pos hok
    have HE := Lib.hid hE
    have HOKP := Lib.hid hok
    have hkind : a0_0 = 1 ∨ a0_0 = 2 := by have := hok.1; omega
    have HKI := Lib.hid hkind
    clear hE hok hkind
    go_enter Try.func4, Try.ntmps4
    go_wp2_with (first
      | (go_at_call 11; refine (new_ok _ HOKP.out).mono ?_; rintro r x1 ⟨⟨g, rfl, hg, hp⟩, hb⟩
         have HG1 := Lib.hid (And.intro hg (And.intro hp hb))
         have hbb := HB0.out.below hb (by simp)
         have c0 := hbb.cell 0
         have c1' := hbb.cell 1
         have c2 := hbb.cell 2
         have c3 := hbb.cell 3
         have c4 := hbb.cell 4
         have c5 := hbb.cell 5
         simp at c0 c1' c2 c3 c4 c5
         have HB1 := Lib.hid hbb
         clear hg hp hb hbb)
      | (go_at_call 15; refine (rnew_ok _ HOKP.out).mono ?_; rintro r x2 ⟨⟨g', rfl, hg, hp⟩, hb⟩
         have HG2 := Lib.hid (And.intro hg (And.intro hp hb))
         clear c0 c1' c2 c3 c4 c5
         have hbb := HB1.out.below hb HB1.out.lt
         have c0 := hbb.cell 0
         have c1' := hbb.cell 1
         have c2 := hbb.cell 2
         have c3 := hbb.cell 3
         have c4 := hbb.cell 4
         have c5 := hbb.cell 5
         simp at c0 c1' c2 c3 c4 c5
         have HB2 := Lib.hid hbb
         clear hg hp hb hbb))
    go_region_held3 (fun w' => w'.cell? ⟨w.heap.size, 0, none⟩ = some (.int .i64 a0_0) ∧ w'.cell? ⟨w.heap.size, 1, none⟩ = some (.int .i64 a0_1) ∧ w'.cell? ⟨w.heap.size, 2, none⟩ = some (.int .i64 a0_2) ∧ w'.cell? ⟨w.heap.size, 3, none⟩ = some (.int .i64 a0_3) ∧ w'.cell? ⟨w.heap.size, 4, none⟩ = some (.int .i64 a0_4) ∧ w'.cell? ⟨w.heap.size, 5, none⟩ = some (.int .i64 a0_5)) (first | go_keep | (exact E2.out) | (exact E1.out))
      (first
        | (go_at_call 16; refine (check_any _ _ _ _ _ _ _).mono ?_; rintro r y1 ⟨rfl, hb⟩; rw [HE.out]; have HB3 := Lib.hid (HB2.out.drew.below hb HB2.out.lt); have E1 := Lib.hid (six HB3.out); have HC1 := Lib.hid hb; clear hb)
        | (go_at_call 17; refine (rcheck_any _ _ _ _ _ _ _).mono ?_; rintro r y2 ⟨rfl, hb⟩; rw [HE.out]; have E2 := Lib.hid (six (HB3.out.below hb HB3.out.lt)); have HC2 := Lib.hid hb; clear hb))
    have HJ0 : Hid (JP w y2 g g' (newW a0_0 a0_3 a0_4 a0_5)) := by
      have q1 := HG1.out.2.2
      have q2 := HG2.out.2.2
      have q3 : Below x2.heap.size x2 y1 := (Below.refl _ _).drew.trans HC1.out
      have q4 : Below x2.heap.size x2 y2 := q3.trans (HC2.out.mono q3.size)
      have z1 : w.heap.size + 1 ≤ x1.heap.size := by have := q1.size; simpa using this
      have z2 := q2.size
      have z3 := q4.size
      have b1 : Below w.heap.size w x1 := ((Below.refl _ _).alloc (Nat.le_refl _) _).trans (q1.mono (by simp))
      refine ⟨⟨_, _, (HG1.out.2.1.upd (Upd.of_below q2) (fun k hk => by have := hk.2; omega)).upd (Upd.of_below q4) (fun k hk => by have := hk.2; omega), HG2.out.2.1.upd (Upd.of_below q4) (fun k hk => by have := hk.2; omega), fun k h1 h2 => by have := h1.2; have := h2.1; omega, fun k hk => ?_, fun k hk => ?_⟩, (b1.trans (q2.mono (by omega))).trans (q4.mono (by omega)), newW_ok HOKP.out, HKI.out⟩
      · have h1 := hk.1; have h2 := hk.2; simp at h1; omega
      · have h1 := hk.1; have h2 := hk.2; omega
    clear HG1 HG2 HC1 HC2 HB0 HB1 HB2 HB3 E1 E2 HE c0 c1' c2 c3 c4 c5
    go_wp2_with fail
    go_loopw [9] (fun i wr => ∃ (k : Nat) (s : WS), k ≤ n1 ∧ k ≤ 100 ∧ i = .int .i64 k ∧ Hid (JP w wr g g' s)) (fun i _ => 100 - (intOf i).toNat)
    case atStart => exact ⟨0, _, by omega, by omega, rfl, HJ0.out⟩
    case round =>
      obtain ⟨k, s, hk, hk2, rfl, HR⟩ := hrel
      clear HJ0
      by_cases hc : k < n1 ∧ k < 100
      · obtain ⟨b, off, rfl, hlt, hz⟩ := R1.out k hc.1
        obtain ⟨hz0, z0, e0, w0⟩ := hz 0 _ rfl
        obtain ⟨hz1, z1, e1, w1⟩ := hz 1 _ rfl
        obtain ⟨hz2, z2, e2, w2⟩ := hz 2 _ rfl
        rw [e0] at hz0
        rw [e1] at hz1
        rw [e2] at hz2
        rw [← HR.out.b.cell (p := ⟨b, _, none⟩) hlt] at hz0 hz1 hz2
        simp [← Nat.add_assoc] at hz0 hz1 hz2
        have hk1 := hc.1
        have hk3 := hc.2
        have hkk : (k : Int) < 100 := by omega
        have hx0 : (0 : Int) ≤ k := by omega
        have hx1 : (k : Int) < n1 := by omega
        have q5 := Int.emod_nonneg z0 (b := 3) (by decide)
        have q6 := Int.emod_lt_of_pos z0 (b := 3) (by decide)
        have HZ2 := Lib.hid w2
        have HJ1 := Lib.hid (HR.out.alloc #[.int .i64 z0, .int .i64 z1, .string z2] 42)
        have HO := Lib.hid HR.out.ok
        have HK := Lib.hid HR.out.kind
        have HOS := Lib.hid (HR.out.ok.send HR.out.kind z2 z1)
        have HKS : Hid ((sendS s z2 z1).kind = 1 ∨ (sendS s z2 z1).kind = 2) := by rw [kind_send]; exact HR.out.kind
        have HOR := Lib.hid (HR.out.ok.recv z1)
        have HKR : Hid ((recvS s z1).kind = 1 ∨ (recvS s z1).kind = 2) := by rw [kind_recv]; exact HR.out.kind
        have HOC := Lib.hid HR.out.ok.clear
        clear hz e0 e1 e2 w1 w2
        go_wp2_with (first
          | (go_at_call 10; refine (bring_any _ _ _ (wf_bounds w0) (by omega)).mono ?_; rintro r y3 ⟨rfl, -, rfl⟩)
          | (go_at_call 12; refine (jrecv_p HJ1.out HO.out z1).mono ?_; rintro r y3 ⟨rfl, hj⟩; have HJ2 := Lib.hid hj; have d0 := hj.d.cell 0; have d1 := hj.d.cell 1; have d2 := hj.d.cell 2; simp at d0 d1 d2; clear hj)
          | (go_at_call 19; refine (jrecv_r HJ2.out HO.out z1).mono ?_; rintro r y4 ⟨rfl, hj⟩; have HJ3 := Lib.hid hj; have HO3 := HOR; have HK3 := HKR; clear hj d0 d1 d2)
          | (go_at_call 20; refine (jclear_p HJ1.out).mono ?_; rintro r y3 ⟨rfl, hj⟩; have HJ2 := Lib.hid hj; clear hj)
          | (go_at_call 21; refine (jclear_r HJ2.out).mono ?_; rintro r y4 ⟨rfl, hj⟩; have HJ3 := Lib.hid hj; have HO3 := HOC; have HK3 := HK; clear hj)
          | (go_at_call 14; refine (jlen_p HJ3.out HO3.out).mono ?_; rintro r y5 ⟨rfl, rfl⟩)
          | (go_at_call 22; refine (jlen_r HJ3.out (HO3.out.l4 HK3.out)).mono ?_; rintro r y5 ⟨rfl, rfl⟩))
        all_goals try (exact ⟨⟨k + 1, _, by omega, by omega, by go_num, HJ3.out.jp HO3.out HK3.out⟩, by simp [intOf]; omega⟩)
        go_region_held3 (fun w' => w'.cell? ⟨wr.heap.size, 1, none⟩ = some (.int .i64 z1) ∧ w'.cell? ⟨wr.heap.size, 2, none⟩ = some (.string z2)) (first | go_keep | (exact E2.out) | (exact E1.out))
          (first
            | (go_at_call 13; refine (jsend_p (HJ1.out.drewN 1) HO.out z2 z1 HZ2.out).mono ?_; rintro r y3 ⟨rfl, hj⟩; have HJ2 := Lib.hid hj; have E1 := Lib.hid (And.intro (show y3.cell? ⟨wr.heap.size, 1, none⟩ = some (.int .i64 z1) from hj.d.cell 1) (show y3.cell? ⟨wr.heap.size, 2, none⟩ = some (.string z2) from hj.d.cell 2)); clear hj)
            | (go_at_call 18; refine (jsend_r HJ2.out HO.out z2 z1 HZ2.out).mono ?_; rintro r y4 ⟨rfl, hj⟩; have HJ3 := Lib.hid hj; have E2 := Lib.hid (And.intro (show y4.cell? ⟨wr.heap.size, 1, none⟩ = some (.int .i64 z1) from hj.d.cell 1) (show y4.cell? ⟨wr.heap.size, 2, none⟩ = some (.string z2) from hj.d.cell 2)); clear hj))
        all_goals
          have HO3 := HOS
          have HK3 := HKS
          go_wp2_with (first
            | (go_at_call 14; refine (jlen_p HJ3.out HO3.out).mono ?_; rintro r y5 ⟨rfl, rfl⟩)
            | (go_at_call 22; refine (jlen_r HJ3.out (HO3.out.l4 HK3.out)).mono ?_; rintro r y5 ⟨rfl, rfl⟩))
          exact ⟨⟨k + 1, _, by omega, by omega, by go_num, HJ3.out.jp HO3.out HK3.out⟩, by simp [intOf]; omega⟩
      · have HB := Lib.hid HR.out.b
        by_cases hk1 : k < n1
        · have hk3 : ¬ (k : Int) < 100 := by omega
          have hx1 : (k : Int) < n1 := by omega
          go_wp2_with (go_at_call 9; refine (port_works _).mono ?_; rintro r y1 ⟨rfl, hx⟩)
          go_ret
          exact ⟨rfl, HB.out.trans (hx.mono HB.out.size)⟩
        · have hx1 : ¬ (k : Int) < n1 := by omega
          go_wp2_with (go_at_call 9; refine (port_works _).mono ?_; rintro r y1 ⟨rfl, hx⟩)
          go_ret
          exact ⟨rfl, HB.out.trans (hx.mono HB.out.size)⟩
  · have hE : checkE a0_0 a0_1 a0_2 a0_3 a0_4 a0_5 = 50 := if_neg hok
    have HE := Lib.hid hE
    have HOKP := Lib.hid hok
    clear hE hok
    go_enter Try.func4, Try.ntmps4
    go_wp2_with (first
      | (go_at_call 11; refine (new_no _ HOKP.out).mono ?_; rintro r x1 ⟨rfl, hb⟩
         have HG1 := Lib.hid hb
         have hbb := HB0.out.below hb (by simp)
         have c0 := hbb.cell 0
         have c1' := hbb.cell 1
         have c2 := hbb.cell 2
         have c3 := hbb.cell 3
         have c4 := hbb.cell 4
         have c5 := hbb.cell 5
         simp at c0 c1' c2 c3 c4 c5
         have HB1 := Lib.hid hbb
         clear hb hbb)
      | (go_at_call 15; refine (rnew_no _ HOKP.out).mono ?_; rintro r x2 ⟨rfl, hb⟩
         have HG2 := Lib.hid hb
         clear c0 c1' c2 c3 c4 c5
         have hbb := HB1.out.below hb HB1.out.lt
         have c0 := hbb.cell 0
         have c1' := hbb.cell 1
         have c2 := hbb.cell 2
         have c3 := hbb.cell 3
         have c4 := hbb.cell 4
         have c5 := hbb.cell 5
         simp at c0 c1' c2 c3 c4 c5
         have HB2 := Lib.hid hbb
         clear hb hbb))
    go_region_held3 (fun w' => w'.cell? ⟨w.heap.size, 0, none⟩ = some (.int .i64 a0_0) ∧ w'.cell? ⟨w.heap.size, 1, none⟩ = some (.int .i64 a0_1) ∧ w'.cell? ⟨w.heap.size, 2, none⟩ = some (.int .i64 a0_2) ∧ w'.cell? ⟨w.heap.size, 3, none⟩ = some (.int .i64 a0_3) ∧ w'.cell? ⟨w.heap.size, 4, none⟩ = some (.int .i64 a0_4) ∧ w'.cell? ⟨w.heap.size, 5, none⟩ = some (.int .i64 a0_5)) (first | go_keep | (exact E2.out) | (exact E1.out))
      (first
        | (go_at_call 16; refine (check_any _ _ _ _ _ _ _).mono ?_; rintro r y1 ⟨rfl, hb⟩; rw [HE.out]; have HB3 := Lib.hid (HB2.out.drew.below hb HB2.out.lt); have E1 := Lib.hid (six HB3.out); have HC1 := Lib.hid hb; clear hb)
        | (go_at_call 17; refine (rcheck_any _ _ _ _ _ _ _).mono ?_; rintro r y2 ⟨rfl, hb⟩; rw [HE.out]; have E2 := Lib.hid (six (HB3.out.below hb HB3.out.lt)); have HC2 := Lib.hid hb; clear hb))
    have HBY : Hid (Below w.heap.size w y2) := by
      have q1 := HG1.out
      have q3 : Below x2.heap.size x2 y1 := (Below.refl _ _).drew.trans HC1.out
      have q4 : Below x2.heap.size x2 y2 := q3.trans (HC2.out.mono q3.size)
      have z1 : w.heap.size + 1 ≤ x1.heap.size := by have := q1.size; simpa using this
      have b1 : Below w.heap.size w x1 := ((Below.refl _ _).alloc (Nat.le_refl _) _).trans (q1.mono (by simp))
      have z2 := HG2.out.size
      exact (b1.trans (HG2.out.mono (by omega))).trans (q4.mono (by omega))
    clear HG1 HG2 HC1 HC2 HB0 HB1 HB2 HB3 E1 E2 HE c0 c1' c2 c3 c4 c5
    go_wp2_with fail
    go_loopw [9] (fun i wr => ∃ (k : Nat), k = 0 ∧ i = .int .i64 k ∧ Hid (Below w.heap.size w wr)) (fun i _ => 100 - (intOf i).toNat)
    case atStart => exact ⟨0, rfl, rfl, HBY.out⟩
    case round =>
      obtain ⟨k, hk, rfl, HB⟩ := hrel
      clear HBY
      subst hk
      by_cases hk1 : 0 < n1
      · have hx1 : (0 : Int) < n1 := by omega
        go_wp2_with (go_at_call 9; refine (port_works _).mono ?_; rintro r y3 ⟨rfl, hx⟩)
        go_ret
        exact ⟨rfl, HB.out.trans (hx.mono HB.out.size)⟩
      · have hx1 : ¬ (0 : Int) < n1 := by omega
        go_wp2_with (go_at_call 9; refine (port_works _).mono ?_; rintro r y3 ⟨rfl, hx⟩)
        go_ret
        exact ⟨rfl, HB.out.trans (hx.mono HB.out.size)⟩
end Go.Proofs.Ytlaakcgipecldaa
