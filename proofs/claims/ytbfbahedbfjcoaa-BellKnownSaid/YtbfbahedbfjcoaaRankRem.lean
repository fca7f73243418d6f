/- Package rank: the walks of Remove, Pop, Key, Len. -/
import Derived.Test.YtbfbahedbfjcoaaRankCut
namespace Go.Proofs.Ytbfbahedbfjcoaa
set_option linter.all false
open Go.RowKit

/-- A rank with its ids. -/
structure RkJ (w : World) (F : Nat → Prop) (g h n : Nat) (M : Nat → Option Int) (s : HS) : Prop where
  hp : HpO w F g h n s
  rep : RepP n s M
  heap : HeapP n s
theorem RkJ.below {w w' : World} {F : Nat → Prop} {g h n : Nat} {M : Nat → Option Int} {s : HS} (h1 : RkJ w F g h n M s) (hb : Below w.heap.size w w') : RkJ w' F g h n M s := ⟨h1.hp.below hb, h1.rep, h1.heap⟩
theorem RkJ.upd {w w' : World} {F S : Nat → Prop} {g h n : Nat} {M : Nat → Option Int} {s : HS} (hp : RkJ w F g h n M s) (hu : Upd S w w') (hd : ∀ k, S k → ¬ F k) (hg : ¬ S g) : RkJ w' F g h n M s := ⟨hp.hp.upd hu hd hg, hp.rep, hp.heap⟩
theorem RkJ.pl {w : World} {F : Nat → Prop} {g h n : Nat} {M : Nat → Option Int} {s : HS} (h1 : RkJ w F g h n M s) (hn : n ≤ 64) {id : Nat} (hid : id < 64) : 0 ≤ s.Pl id ∧ s.Pl id ≤ 64 ∧ (M id = none → s.Pl id = 0) ∧ (∀ k, M id = some k → ∃ a, a < n ∧ s.Pl id = a + 1 ∧ s.I a = id ∧ s.K a = k) := by
  cases hM : M id with
  | none => have := h1.rep.no_ id hid hM; exact ⟨by omega, by omega, fun _ => this, (fun k hk => by cases hk)⟩
  | some k =>
    obtain ⟨_, a, ha, hI⟩ := h1.rep.of_ id k hM
    obtain ⟨x, _, hx, hx2, hx3⟩ := h1.rep.at_ a ha
    obtain rfl : id = x := by omega
    refine ⟨by omega, by omega, (fun hh => by cases hh), fun k' hk' => ⟨a, ha, hx3, hI, ?_⟩⟩
    rw [hM] at hx2
    injection hk' with hk'
    injection hx2 with hx2
    omega
/-- An id is taken out. -/
def outM (M : Nat → Option Int) (id : Nat) : Nat → Option Int := fun z => if z = id then none else M z
theorem cut_rk {w : World} {F : Nat → Prop} {g h n : Nat} {M : Nat → Option Int} {s : HS} (h1 : RkJ w F g h (n + 1) M s) (a id : Nat) (ha : a < n + 1) (hn : n < 64) (hI : s.I a = id) :
    Calls Try.prog 38 #[.pointer (some ⟨h, 0, none⟩), .int .i64 a] w fun r w' => r = .returned (.tuple #[]) ∧ (∃ s', RkJ w' F g h n (outM M id) s') ∧ Upd F w w' := by
  obtain ⟨gl, cap, hF, hS⟩ := h1.hp.toS (by omega)
  refine (cut_any hS a ha hn h1.rep h1.heap).mono ?_
  rintro r w' ⟨rfl, s', hp, hrep, hheap, hu⟩
  rw [hI, Int.toNat_natCast] at hrep
  have hrk : RkAt w' g h := h1.hp.rk.upd hu (by
    rintro (e | e)
    · exact h1.hp.rk.ne_ hS.p.hb (by decide) e
    · obtain ⟨cur, hc, _⟩ := hS.p.row
      exact h1.hp.rk.ne_ hc (by decide) e)
  refine ⟨rfl, ⟨s', hp.toO hrk h1.hp.fh hF, hrep, hheap⟩, hu.mono fun k hk => ?_⟩
  rcases hk with rfl | rfl
  · exact h1.hp.fh
  · exact hF
theorem HpO.slice {w : World} {F : Nat → Prop} {g h n : Nat} {s : HS} (hp : HpO w F g h n s) : ∃ A c, Blk w h 63 (hpA (.slice A n c) s.Pl) := by
  obtain ⟨v, xs, hb, ho, _⟩ := hp.row
  rcases ho.2 with ⟨h1, h2⟩ | ⟨gl, cap, cur, rfl, _⟩
  · rw [h1] at hb; rw [h2]; exact ⟨_, _, hb⟩
  · exact ⟨_, _, hb⟩

set_option maxRecDepth 100000 in
set_option maxHeartbeats 4000000 in
theorem remove_no {w : World} {F : Nat → Prop} {g h n : Nat} {M : Nat → Option Int} {s : HS} (h1 : RkJ w F g h n M s) (id : Nat) (hid : id < 64) (hn : n ≤ 64) (hM : M id = none) :
    Calls Try.prog 27 #[.pointer (some ⟨g, 0, none⟩), .int .i64 id] w fun r w' => r = .returned (.bool false) ∧ Below w.heap.size w w' := by
  obtain ⟨A, c, hb⟩ := h1.hp.slice
  obtain ⟨p1, p2, p3, _⟩ := h1.pl hn hid
  have HB := Lib.hid hb
  have HP := Lib.hid (And.intro h1.hp.rk (And.intro p1 (And.intro p2 (p3 hM))))
  clear h1 hb p1 p2 p3
  go_enter Try.func27, Try.ntmps27
  go_wp2_with (go_at_call 37; refine (at_any id HP.out.1 HB.out hid ⟨HP.out.2.1, HP.out.2.2.1⟩).mono ?_; rintro r w1 ⟨rfl, hb⟩; rw [HP.out.2.2.2]; have HB1 := Lib.hid hb; clear hb)
  go_ret
  exact ⟨rfl, HB1.out⟩
set_option maxRecDepth 100000 in
set_option maxHeartbeats 4000000 in
theorem remove_yes {w : World} {F : Nat → Prop} {g h n : Nat} {M : Nat → Option Int} {s : HS} {k : Int} (h1 : RkJ w F g h (n + 1) M s) (id : Nat) (hid : id < 64) (hn : n < 64) (hM : M id = some k) :
    Calls Try.prog 27 #[.pointer (some ⟨g, 0, none⟩), .int .i64 id] w fun r w' => r = .returned (.bool true) ∧ (∃ s', RkJ w' F g h n (outM M id) s') ∧ Upd F w w' := by
  obtain ⟨A, c, hb⟩ := h1.hp.slice
  obtain ⟨p1, p2, _, p4⟩ := h1.pl (by omega) hid
  obtain ⟨a, ha, hPl, hI, hK⟩ := p4 k hM
  have HB := Lib.hid hb
  have e1 : s.Pl id - 1 = (a : Int) := by omega
  have e2 : decide (0 < s.Pl id) = true := decide_eq_true (by omega)
  have H1 := Lib.hid h1
  have HP := Lib.hid (And.intro p1 (And.intro p2 (And.intro e1 (And.intro e2 (And.intro ha hI)))))
  clear h1 hb p1 p2 p4 hPl hI hK e1 e2 ha
  go_enter Try.func27, Try.ntmps27
  go_wp2_with (first
    | (go_at_call 37; refine (at_any id H1.out.hp.rk HB.out hid ⟨HP.out.1, HP.out.2.1⟩).mono ?_; rintro r w1 ⟨rfl, hb⟩; rw [HP.out.2.2.1, HP.out.2.2.2.1]; have HB1 := Lib.hid hb; have H2 := Lib.hid (H1.out.below hb); have hge : w1.cell? ⟨g, 0, none⟩ = some (.pointer (some ⟨h, 0, none⟩)) := H2.out.hp.rk.cell 0; clear hb)
    | (go_at_call 38; refine (cut_rk H2.out a id HP.out.2.2.2.2.1 hn HP.out.2.2.2.2.2).mono ?_; rintro r w2 ⟨rfl, hs, hu⟩; have H3 := Lib.hid (And.intro hs hu); clear hs hu))
  go_ret
  exact ⟨rfl, H3.out.1, ((Upd.of_below HB1.out).mono_ge (Nat.le_refl _)).trans H3.out.2⟩
set_option maxRecDepth 100000 in
set_option maxHeartbeats 4000000 in
theorem key_no {w : World} {F : Nat → Prop} {g h n : Nat} {M : Nat → Option Int} {s : HS} (h1 : RkJ w F g h n M s) (id : Nat) (hid : id < 64) (hn : n ≤ 64) (hM : M id = none) :
    Calls Try.prog 36 #[.pointer (some ⟨g, 0, none⟩), .int .i64 id] w fun r w' => r = .returned (.tuple #[.int .i64 0, .bool false]) ∧ Below w.heap.size w w' := by
  obtain ⟨A, c, hb⟩ := h1.hp.slice
  obtain ⟨p1, p2, p3, _⟩ := h1.pl hn hid
  have HB := Lib.hid hb
  have HP := Lib.hid (And.intro h1.hp.rk (And.intro p1 (And.intro p2 (p3 hM))))
  clear h1 hb p1 p2 p3
  go_enter Try.func36, Try.ntmps36
  go_wp2_with (go_at_call 37; refine (at_any id HP.out.1 HB.out hid ⟨HP.out.2.1, HP.out.2.2.1⟩).mono ?_; rintro r w1 ⟨rfl, hb⟩; rw [HP.out.2.2.2]; have HB1 := Lib.hid hb; clear hb)
  go_ret2
  exact ⟨rfl, HB1.out⟩
set_option maxRecDepth 100000 in
set_option maxHeartbeats 4000000 in
theorem key_yes {w : World} {F : Nat → Prop} {g h n : Nat} {M : Nat → Option Int} {s : HS} {k : Int} (h1 : RkJ w F g h n M s) (id : Nat) (hid : id < 64) (hn : n ≤ 64) (hM : M id = some k) :
    Calls Try.prog 36 #[.pointer (some ⟨g, 0, none⟩), .int .i64 id] w fun r w' => r = .returned (.tuple #[.int .i64 k, .bool true]) ∧ Below w.heap.size w w' := by
  obtain ⟨A, c, hb⟩ := h1.hp.slice
  obtain ⟨p1, p2, _, p4⟩ := h1.pl hn hid
  obtain ⟨a, ha, hPl, hI, hK⟩ := p4 k hM
  have HB := Lib.hid hb
  have e1 : s.Pl id - 1 = (a : Int) := by omega
  have e2 : decide (0 < s.Pl id) = true := decide_eq_true (by omega)
  have H1 := Lib.hid h1
  have hx0 : (0 : Int) ≤ a := by omega
  have hx1 : (a : Int) < n := by omega
  have HP := Lib.hid (And.intro p1 (And.intro p2 (And.intro e1 (And.intro e2 (And.intro ha (And.intro hI hK))))))
  clear h1 hb p1 p2 p4 hPl hI hK e1 e2
  go_enter Try.func36, Try.ntmps36
  go_wp2_with (go_at_call 37; refine (at_any id H1.out.hp.rk HB.out hid ⟨HP.out.1, HP.out.2.1⟩).mono ?_; rintro r w1 ⟨rfl, hb⟩; rw [HP.out.2.2.1, HP.out.2.2.2.1]
               have H2 := Lib.hid (H1.out.below hb)
               have HB1 := Lib.hid hb
               have hge : w1.cell? ⟨g, 0, none⟩ = some (.pointer (some ⟨h, 0, none⟩)) := H2.out.hp.rk.cell 0
               obtain ⟨gl, cap, hF, hS⟩ := H2.out.hp.toS (by omega)
               have hce : w1.cell? ⟨h, 0, none⟩ = some (.slice (some ⟨gl, 0, none⟩) n cap) := (hS.p.hb.cell 0).trans (hpA_0 _ _)
               have c1 := (hS.p.cells ha).2
               rw [HP.out.2.2.2.2.2.2] at c1
               clear hb hF hS)
  go_ret2
  exact ⟨rfl, HB1.out⟩
set_option maxRecDepth 100000 in
set_option maxHeartbeats 4000000 in
theorem pop_no {w : World} {F : Nat → Prop} {g h : Nat} {M : Nat → Option Int} {s : HS} (h1 : RkJ w F g h 0 M s) :
    Calls Try.prog 30 #[.pointer (some ⟨g, 0, none⟩)] w fun r w' => r = .returned (.tuple #[.int .i64 0, .int .i64 0, .bool false]) ∧ Below w.heap.size w w' := by
  have H1 := Lib.hid h1
  clear h1
  go_enter Try.func30, Try.ntmps30
  go_wp2_with (go_at_call 32; refine (first_any H1.out.hp).mono ?_; rintro r w1 ⟨rfl, hb⟩; have HB1 := Lib.hid hb; clear hb)
  go_ret3
  exact ⟨by simp, HB1.out⟩
set_option maxRecDepth 100000 in
set_option maxHeartbeats 4000000 in
theorem pop_yes {w : World} {F : Nat → Prop} {g h n : Nat} {M : Nat → Option Int} {s : HS} (h1 : RkJ w F g h (n + 1) M s) (id : Nat) (k : Int) (hI : s.I 0 = id) (hK : s.K 0 = k) (hn : n < 64) :
    Calls Try.prog 30 #[.pointer (some ⟨g, 0, none⟩)] w fun r w' => r = .returned (.tuple #[.int .i64 id, .int .i64 k, .bool true]) ∧ (∃ s', RkJ w' F g h n (outM M id) s') ∧ Upd F w w' := by
  have hf := first_any h1.hp
  rw [if_neg (by omega), if_neg (by omega), hI, hK, decide_eq_true (show n + 1 ≠ 0 by omega)] at hf
  have H1 := Lib.hid h1
  have HF := Lib.hid hf
  have HI := Lib.hid hI
  have hpos := Lib.hid (show 0 < n + 1 by omega)
  clear h1 hf hI hK
  go_enter Try.func30, Try.ntmps30
  go_wp2_with (first
    | (go_at_call 32; refine HF.out.mono ?_; rintro r w1 ⟨rfl, hb⟩; have HB1 := Lib.hid hb; have H2 := Lib.hid (H1.out.below hb); have hge : w1.cell? ⟨g, 0, none⟩ = some (.pointer (some ⟨h, 0, none⟩)) := H2.out.hp.rk.cell 0; clear hb)
    | (go_at_call 38; refine (cut_rk H2.out 0 id hpos.out hn HI.out).mono ?_; rintro r w2 ⟨rfl, hs, hu⟩; have H3 := Lib.hid (And.intro hs hu); clear hs hu))
  go_ret3
  exact ⟨rfl, H3.out.1, ((Upd.of_below HB1.out).mono_ge (Nat.le_refl _)).trans H3.out.2⟩
theorem hlen_any {w : World} {h : Nat} {A : Option Addr} {n c : Nat} {Pl : Nat → Int} (hb : Blk w h 63 (hpA (.slice A n c) Pl)) :
    Calls Try.prog 42 #[.pointer (some ⟨h, 0, none⟩)] w fun r w' => r = .returned (.int .i64 n) ∧ w = w' := by
  have hce : w.cell? ⟨h, 0, none⟩ = some (.slice A n c) := (hb.cell 0).trans (hpA_0 _ _)
  clear hb
  go_enter Try.func42, Try.ntmps42
  go_wp2_with fail
  go_ret
  exact ⟨rfl, rfl⟩
theorem len_any {w : World} {F : Nat → Prop} {g h n : Nat} {M : Nat → Option Int} {s : HS} (h1 : RkJ w F g h n M s) :
    Calls Try.prog 31 #[.pointer (some ⟨g, 0, none⟩)] w fun r w' => r = .returned (.int .i64 n) ∧ w = w' := by
  obtain ⟨A, c, hb⟩ := h1.hp.slice
  have HB := Lib.hid hb
  have HR := Lib.hid h1.hp.rk
  have hge : w.cell? ⟨g, 0, none⟩ = some (.pointer (some ⟨h, 0, none⟩)) := h1.hp.rk.cell 0
  clear h1 hb
  go_enter Try.func31, Try.ntmps31
  go_wp2_with (first
    | (go_at_call 41; refine (rknone_any HR.out).mono ?_; rintro r w1 ⟨rfl, rfl⟩)
    | (go_at_call 42; refine (hlen_any HB.out).mono ?_; rintro r w1 ⟨rfl, rfl⟩))
  go_ret
  exact ⟨rfl, rfl⟩
end Go.Proofs.Ytbfbahedbfjcoaa
