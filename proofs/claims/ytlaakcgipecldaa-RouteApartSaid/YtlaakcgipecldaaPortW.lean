/- The examples of the chapter on ports. -/
import Derived.Test.YtlaakcgipecldaaPortNew
import Derived.Test.YtlaakcgipecldaaBring
namespace Go.Proofs.Ytlaakcgipecldaa
set_option linter.all false
open Go.RowKit

theorem below_upd {F : Nat → Prop} {a w w' : World} (hb : Below a.heap.size a w) (h : Upd F w w') (hF : ∀ k, F k → a.heap.size ≤ k) : Below a.heap.size a w' := Upd.after hb h hb.size hF
theorem wsend_to {w : World} {F : Nat → Prop} {g : Nat} {s : WS} {m : ByteArray} {t : Int} (e : Int) (s' : WS) (h : WayP w F g s) (ho : WOk s) (hm : m.size ≤ maxLen) (hup : ∀ k, w.heap.size ≤ k → F k) (hx : sendE s m.size t = e ∧ sendS s m t = s') :
    Calls Try.prog 13 #[.pointer (some ⟨g, 0, none⟩), .string m, .int .i64 t] w fun r w' => r = .returned (.int .i64 e) ∧ WayP w' F g s' ∧ Upd F w w' := by
  obtain ⟨rfl, rfl⟩ := hx
  refine (wsend_any h ho m t hm).mono ?_
  rintro r w' ⟨rfl, h1, h2⟩
  exact ⟨rfl, h1.mono fun k hk => by rcases hk with hk | hk; exact hk; exact hup k hk.1, h2⟩
theorem wrecv_to {w : World} {F : Nat → Prop} {g : Nat} {s : WS} {t : Int} (m : ByteArray) (b : Bool) (e : Int) (s' : WS) (h : WayP w F g s) (ho : WOk s) (hx : recvM s t = m ∧ recvB s t = b ∧ recvE s t = e ∧ recvS s t = s') :
    Calls Try.prog 12 #[.pointer (some ⟨g, 0, none⟩), .int .i64 t] w fun r w' => r = .returned (.tuple #[.string m, .bool b, .int .i64 e]) ∧ WayP w' F g s' ∧ Upd F w w' := by
  obtain ⟨rfl, rfl, rfl, rfl⟩ := hx
  exact wrecv_any h ho t

theorem wok1 {s l t : Int} {L : List ByteArray} (h : 1 ≤ s ∧ s ≤ 16) (h2 : 1 ≤ l ∧ l ≤ 64) (h3 : L.length ≤ 1) : WOk ⟨1, s, l, L, t⟩ := ⟨h, fun _ => ⟨h2.1, h2.2, h3⟩, fun hk => absurd (show (1 : Int) = 2 from hk) (by decide)⟩
theorem wok2 {s l t : Int} {L : List ByteArray} (h : 1 ≤ s ∧ s ≤ 16) (h2 : 1 ≤ l ∧ l ≤ 4) (h3 : (L.length : Int) ≤ l) : WOk ⟨2, s, l, L, t⟩ := ⟨h, (fun hk => absurd (show (2 : Int) = 1 from hk) (by decide)), fun _ => ⟨h2.1, h2.2, h3⟩⟩

set_option maxRecDepth 100000 in
set_option maxHeartbeats 4000000 in
theorem port_works (w : World) : Calls Try.prog 9 #[] w fun r w' => r = .returned (.bool true) ∧ Below w.heap.size w w' := by
  have NA := Lib.hid True.intro
  have R0 := Lib.hid True.intro
  have R1 := Lib.hid True.intro
  have R2 := Lib.hid True.intro
  have R3 := Lib.hid True.intro
  have S0 := Lib.hid True.intro
  have S1 := Lib.hid True.intro
  have S2 := Lib.hid True.intro
  have S3 := Lib.hid True.intro
  have S4 := Lib.hid True.intro
  have PA := Lib.hid (show PortOk 1 0 1 4 0 3 by decide)
  have PB := Lib.hid (show PortOk 2 0 1 2 2 0 by decide)
  go_enter Try.func9, Try.ntmps9
  go_wp2_with (first
    | (go_at_call 11; first
        | (have _tk := NA; refine (new_ok _ PA.out).mono ?_; rintro r x1 ⟨⟨ga, rfl, hg, hp⟩, hb⟩; have HW := Lib.hid hb; have HA := Lib.hid hp; obtain ⟨n1, hn1⟩ : ∃ n, x1.heap.size = n := ⟨_, rfl⟩; have H1 := Lib.hid hn1; clear hg hp hb hn1 NA _tk)
        | (refine (new_ok _ PB.out).mono ?_; rintro r x2 ⟨⟨gb, rfl, hg, hp⟩, hb⟩
           obtain ⟨n2, hn2⟩ : ∃ n, x2.heap.size = n := ⟨_, rfl⟩
           have H2 := Lib.hid (show n1 ≤ n2 ∧ n2 ≤ x2.heap.size by have := hb.size; have := H1.out; omega)
           have HA := Lib.hid (show WayP x2 (fun k => (w.heap.size ≤ k ∧ k < n1) ∨ n2 ≤ k) ga ⟨1, 4, 3, [], 0⟩ from ((HA.out.upd (Upd.of_below hb) (fun k hk => by have := hk.2; omega)).mono fun k hk => Or.inl (by rw [← H1.out]; exact hk)))
           have HB := Lib.hid (show WayP x2 (fun k => n1 ≤ k ∧ k < n2) gb ⟨2, 2, 2, [], 0⟩ from hp.mono fun k hk => by have := H1.out; rw [← hn2]; omega)
           have H0 := Lib.hid (show w.heap.size ≤ n1 by rw [← H1.out]; exact HW.out.size)
           have HW := Lib.hid (HW.out.trans (hb.mono HW.out.size))
           clear hg hp hb hn2))
    | (go_at_call 14; refine (wlen_any HA.out (wok1 (by decide) (by decide) (by decide))).mono ?_; rintro r y1 ⟨rfl, rfl⟩)
    | (go_at_call 12; first
        | (have _tk := R0; refine (wrecv_to ⟨#[]⟩ false 8 ⟨1, 4, 3, [], 0⟩ HA.out (wok1 (by decide) (by decide) (by decide)) ⟨by kernel_rfl, by kernel_rfl, by kernel_rfl, by kernel_rfl⟩).mono ?_; rintro r y1 ⟨rfl, hp, hu⟩; have HW := Lib.hid (below_upd HW.out hu (fun k hk => by have := H0.out; have := H2.out.1; omega)); have HB := Lib.hid (HB.out.upd hu (fun k hk hk2 => by omega)); have H2 := Lib.hid (show n1 ≤ n2 ∧ n2 ≤ y1.heap.size by have := H2.out; have := hu.size; omega); have HA := Lib.hid hp; clear hp hu R0 _tk)
        | (have _tk := R1; refine (wrecv_to ⟨#[97, 98]⟩ true 0 ⟨1, 4, 3, [⟨#[97, 98]⟩], 5⟩ HA.out (wok1 (by decide) (by decide) (by decide)) ⟨by kernel_rfl, by kernel_rfl, by kernel_rfl, by kernel_rfl⟩).mono ?_; rintro r y1 ⟨rfl, hp, hu⟩; have HW := Lib.hid (below_upd HW.out hu (fun k hk => by have := H0.out; have := H2.out.1; omega)); have HB := Lib.hid (HB.out.upd hu (fun k hk hk2 => by omega)); have H2 := Lib.hid (show n1 ≤ n2 ∧ n2 ≤ y1.heap.size by have := H2.out; have := hu.size; omega); have HA := Lib.hid hp; clear hp hu R1 _tk)
        | (have _tk := R2; refine (wrecv_to ⟨#[97, 98]⟩ false 0 ⟨1, 4, 3, [⟨#[97, 98]⟩], 5⟩ HA.out (wok1 (by decide) (by decide) (by decide)) ⟨by kernel_rfl, by kernel_rfl, by kernel_rfl, by kernel_rfl⟩).mono ?_; rintro r y1 ⟨rfl, hp, hu⟩; have HW := Lib.hid (below_upd HW.out hu (fun k hk => by have := H0.out; have := H2.out.1; omega)); have HB := Lib.hid (HB.out.upd hu (fun k hk hk2 => by omega)); have H2 := Lib.hid (show n1 ≤ n2 ∧ n2 ≤ y1.heap.size by have := H2.out; have := hu.size; omega); have HA := Lib.hid hp; clear hp hu R2 _tk)
        | (have _tk := R3; refine (wrecv_to ⟨#[97]⟩ true 0 ⟨2, 2, 2, [⟨#[98]⟩], 0⟩ HB.out (wok2 (by decide) (by decide) (by decide)) ⟨by kernel_rfl, by kernel_rfl, by kernel_rfl, by kernel_rfl⟩).mono ?_; rintro r y1 ⟨rfl, hp, hu⟩; have HW := Lib.hid (below_upd HW.out hu (fun k hk => Nat.le_trans H0.out hk)); have H2 := Lib.hid (show n1 ≤ n2 ∧ n2 ≤ y1.heap.size by have := H2.out; have := hu.size; omega); have HB := Lib.hid hp; clear hp hu R3 _tk))
    | (go_at_call 13; first
        | (have _tk := S0; refine (wsend_to 0 ⟨1, 4, 3, [⟨#[97, 98]⟩], 5⟩ HA.out (wok1 (by decide) (by decide) (by decide)) (by decide) (fun k hk => Or.inr (by have := H2.out.2; omega)) ⟨by kernel_rfl, by kernel_rfl⟩).mono ?_; rintro r y1 ⟨rfl, hp, hu⟩; have HW := Lib.hid (below_upd HW.out hu (fun k hk => by have := H0.out; have := H2.out.1; omega)); have HB := Lib.hid (HB.out.upd hu (fun k hk hk2 => by omega)); have H2 := Lib.hid (show n1 ≤ n2 ∧ n2 ≤ y1.heap.size by have := H2.out; have := hu.size; omega); have HA := Lib.hid hp; clear hp hu S0 _tk)
        | (have _tk := S1; refine (wsend_to 0 ⟨2, 2, 2, [⟨#[97]⟩], 0⟩ (HB.out.mono (F' := fun k => n1 ≤ k) (fun k hk => hk.1)) (wok2 (by decide) (by decide) (by decide)) (by decide) (fun k hk => by have := H2.out; omega) ⟨by kernel_rfl, by kernel_rfl⟩).mono ?_; rintro r y1 ⟨rfl, hp, hu⟩; have HW := Lib.hid (below_upd HW.out hu (fun k hk => Nat.le_trans H0.out hk)); have H2 := Lib.hid (show n1 ≤ n2 ∧ n2 ≤ y1.heap.size by have := H2.out; have := hu.size; omega); have HB := Lib.hid hp; clear hp hu S1 _tk)
        | (have _tk := S2; refine (wsend_to 0 ⟨2, 2, 2, [⟨#[97]⟩, ⟨#[98]⟩], 0⟩ HB.out (wok2 (by decide) (by decide) (by decide)) (by decide) (fun k hk => by have := H2.out; omega) ⟨by kernel_rfl, by kernel_rfl⟩).mono ?_; rintro r y1 ⟨rfl, hp, hu⟩; have HW := Lib.hid (below_upd HW.out hu (fun k hk => Nat.le_trans H0.out hk)); have H2 := Lib.hid (show n1 ≤ n2 ∧ n2 ≤ y1.heap.size by have := H2.out; have := hu.size; omega); have HB := Lib.hid hp; clear hp hu S2 _tk)
        | (have _tk := S3; refine (wsend_to 7 ⟨2, 2, 2, [⟨#[97]⟩, ⟨#[98]⟩], 0⟩ HB.out (wok2 (by decide) (by decide) (by decide)) (by decide) (fun k hk => by have := H2.out; omega) ⟨by kernel_rfl, by kernel_rfl⟩).mono ?_; rintro r y1 ⟨rfl, hp, hu⟩; have HW := Lib.hid (below_upd HW.out hu (fun k hk => Nat.le_trans H0.out hk)); have H2 := Lib.hid (show n1 ≤ n2 ∧ n2 ≤ y1.heap.size by have := H2.out; have := hu.size; omega); have HB := Lib.hid hp; clear hp hu S3 _tk)
        | (have _tk := S4; refine (wsend_to 2 ⟨2, 2, 2, [⟨#[98]⟩], 0⟩ HB.out (wok2 (by decide) (by decide) (by decide)) (by decide) (fun k hk => by have := H2.out; omega) ⟨by kernel_rfl, by kernel_rfl⟩).mono ?_; rintro r y1 ⟨rfl, hp, hu⟩; have HW := Lib.hid (below_upd HW.out hu (fun k hk => Nat.le_trans H0.out hk)); have H2 := Lib.hid (show n1 ≤ n2 ∧ n2 ≤ y1.heap.size by have := H2.out; have := hu.size; omega); have HB := Lib.hid hp; clear hp hu S4 _tk)))
  go_ret
  exact ⟨rfl, HW.out⟩
end Go.Proofs.Ytlaakcgipecldaa
