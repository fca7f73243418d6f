/- The walks of package bell. -/
import Derived.Test.YtbfbahedbfjcoaaBellLaw
namespace Go.Proofs.Ytbfbahedbfjcoaa
set_option linter.all false
open Go.RowKit
attribute [local go_sem ↓] Go.wp_at_zero Go.wp_at_succ

structure BlJ (w : World) (F : Nat → Prop) (gb : Nat) (L : BL) : Prop where
  ex : ∃ Fi g h s, Blk w gb 49 #[.pointer (some ⟨g, 0, none⟩)] ∧ RkJ w Fi g h L.length (lk L) s ∧ (∀ k, Fi k → F k) ∧ ¬ Fi gb ∧ F g
  ok : OkL L
  lt : ∀ k, F k → k < w.heap.size
  fb : F gb
theorem BlJ.keep {w w' : World} {F : Nat → Prop} {gb : Nat} {L : BL} (hj : BlJ w F gb L) (hb : Below w.heap.size w w') : BlJ w' F gb L := by
  obtain ⟨Fi, g, h, s, h1, h2, h3, h4, h5⟩ := hj.ex
  exact ⟨⟨Fi, g, h, s, h1.below hb h1.lt, h2.below hb, h3, h4, h5⟩, hj.ok, fun k hk => Nat.lt_of_lt_of_le (hj.lt k hk) hb.size, hj.fb⟩
theorem BlJ.upd {w w' : World} {F S : Nat → Prop} {gb : Nat} {L : BL} (hj : BlJ w F gb L) (hu : Upd S w w') (hd : ∀ k, S k → ¬ F k) : BlJ w' F gb L := by
  obtain ⟨Fi, g, h, s, h1, h2, h3, h4, h5⟩ := hj.ex
  exact ⟨⟨Fi, g, h, s, h1.upd hu (fun e => hd _ e hj.fb), h2.upd hu (fun k hk hf => hd k hk (h3 k hf)) (fun e => hd _ e h5), h3, h4, h5⟩, hj.ok, fun k hk => Nat.lt_of_lt_of_le (hj.lt k hk) hu.size, hj.fb⟩
theorem RkJ.mono {w : World} {F F' : Nat → Prop} {g h n : Nat} {M : Nat → Option Int} {s : HS} (h1 : RkJ w F g h n M s) (hF : ∀ k, F k → F' k) : RkJ w F' g h n M s := ⟨h1.hp.mono hF, h1.rep, h1.heap⟩
theorem bl_step {w w' : World} {F Fi : Nat → Prop} {gb g h n' : Nat} {L' : BL} {M' : Nat → Option Int} {s' : HS} (hb : Blk w gb 49 #[.pointer (some ⟨g, 0, none⟩)]) (h1 : ∀ k, Fi k → F k) (h2 : ¬ Fi gb) (h3 : F g) (hlt : ∀ k, F k → k < w.heap.size) (hfb : F gb)
    (hu : Upd Fi w w') (hr : RkJ w' (growR Fi w w') g h n' M' s') (hn : n' = L'.length) (hM : M' = lk L') (hok : OkL L') : BlJ w' (growR F w w') gb L' ∧ Upd F w w' := by
  subst hn hM
  refine ⟨⟨⟨growR Fi w w', g, h, s', hb.upd hu h2, hr, fun k hk => ?_, fun hk => ?_, Or.inl h3⟩, hok, fun k hk => ?_, Or.inl hfb⟩, hu.mono h1⟩
  · rcases hk with hk | hk
    · exact Or.inl (h1 k hk)
    · exact Or.inr hk
  · rcases hk with hk | hk
    · exact h2 hk
    · have := hb.lt; omega
  · rcases hk with hk | hk
    · exact Nat.lt_of_lt_of_le (hlt k hk) hu.size
    · exact hk.2
theorem put_rk {w : World} {F : Nat → Prop} {g h n : Nat} {M : Nat → Option Int} {s : HS} (h1 : RkJ w F g h n M s) (id : Nat) (key : Int) (hid : id < 64) (hn : n < 64) (hM : M id = none) :
    Calls Try.prog 29 #[.pointer (some ⟨g, 0, none⟩), .int .i64 id, .int .i64 key] w fun r w' => r = .returned (.int .i64 0) ∧ (∃ s', RkJ w' (growR F w w') g h (n + 1) (fun z => if z = id then some key else M z) s') ∧ Upd F w w' := by
  refine (put_any h1.hp id key hid hn h1.rep h1.heap hM).mono ?_
  rintro r w' ⟨rfl, s', hp⟩
  exact ⟨rfl, ⟨s', hp.hp, hp.rep, hp.heap⟩, hp.u⟩

set_option maxHeartbeats 2000000 in
theorem bnew_any (w : World) : Calls Try.prog 8 #[] w fun r w' => (∃ gb, r = .returned (.pointer (some ⟨gb, 0, none⟩)) ∧ BlJ w' (fun k => w.heap.size ≤ k ∧ k < w'.heap.size) gb []) ∧ Below w.heap.size w w' := by
  go_enter Try.func8, Try.ntmps8
  go_wp2_with (go_at_call 23; refine (rknew_any w).mono ?_; rintro r w1 ⟨rfl, hr, hb, hbel⟩; have HN := Lib.hid (And.intro hr (And.intro hb hbel)); clear hr hb hbel)
  go_ret
  have hs := HN.out.1.lt
  have hB := Blk.new w1 49 #[.pointer (some ⟨w.heap.size + 1, 0, none⟩)]
  have hsz : (w1.alloc (.cells #[.pointer (some ⟨w.heap.size + 1, 0, none⟩)] 49)).heap.size = w1.heap.size + 1 := by simp
  refine ⟨⟨w1.heap.size, rfl, ⟨⟨fun k => k = w.heap.size, w.heap.size + 1, w.heap.size, ⟨fun _ => 0, fun _ => 0, fun _ => 0⟩, hB, ⟨?_, ?_, fun j _ hj => absurd hj (Nat.not_lt_zero _)⟩, fun k hk => ?_, fun e => ?_, ?_⟩, ⟨fun p hp => (by cases hp), List.Pairwise.nil, List.Pairwise.nil⟩, fun k hk => hk.2, ?_⟩⟩, (HN.out.2.2.alloc HN.out.2.2.size _)⟩
  · exact ⟨HN.out.1.alloc _, rfl, _, [], HN.out.2.1.alloc _, World.ownsRow_nil _ _ _ _, fun b hb => by simp [Value.ownBlock] at hb, fun i hi => absurd hi (Nat.not_lt_zero _)⟩
  · exact ⟨fun j hj => absurd hj (Nat.not_lt_zero _), (fun x k hk => by cases hk), fun x _ _ => rfl⟩
  · subst hk; rw [hsz]; omega
  · have : w1.heap.size = w.heap.size := e; omega
  · show w.heap.size ≤ w.heap.size + 1 ∧ w.heap.size + 1 < _
    rw [hsz]; omega
  · show w.heap.size ≤ w1.heap.size ∧ w1.heap.size < _
    rw [hsz]; omega

theorem bnone_any {w : World} {F : Nat → Prop} {gb : Nat} {L : BL} (hj : BlJ w F gb L) : Calls Try.prog 24 #[.pointer (some ⟨gb, 0, none⟩)] w fun r w' => r = .returned (.bool false) ∧ w = w' := by
  obtain ⟨Fi, g, h, s, h1, _⟩ := hj.ex
  have c0 : w.cell? ⟨gb, 0, none⟩ = some (.pointer (some ⟨g, 0, none⟩)) := h1.cell 0
  clear hj h1
  go_enter Try.func24, Try.ntmps24
  go_wp2_with fail
  go_ret
  exact ⟨rfl, rfl⟩
theorem place_any (kind id : Int) (w : World) (h1 : 0 ≤ kind ∧ kind ≤ 3) (h2 : 0 ≤ id ∧ id ≤ 15) : Calls Try.prog 28 #[.int .i64 kind, .int .i64 id] w fun r w' => r = .returned (.int .i64 ((kind * 16 + id).toNat : Nat)) ∧ w = w' := by
  obtain ⟨a, ha⟩ : ∃ a, kind * 16 = a := ⟨_, rfl⟩
  obtain ⟨p, hp⟩ : ∃ p : Nat, (kind * 16 + id).toNat = p := ⟨_, rfl⟩
  have w1 : IntKind.i64.wrap (kind * 16) = a := by rw [ha]; exact IntWalk.i64_in _ (by omega)
  have w2 : IntKind.i64.wrap (a + id) = (p : Int) := by rw [show a + id = (p : Int) from by omega]; exact IntWalk.i64_in _ (by omega)
  rw [hp]
  clear ha hp h1 h2
  go_enter Try.func28, Try.ntmps28
  go_wp2_with fail
  go_ret
  exact ⟨rfl, rfl⟩
set_option maxHeartbeats 2000000 in
theorem within_any (most z : Int) {g : Nat} {w : World} (hc : w.cell? ⟨g, 0, none⟩ = some (.int .i64 z)) : Calls Try.prog 26 #[.int .i64 most, .slice (some ⟨g, 0, none⟩) 1 1] w fun r w' => r = .returned (.bool (decide (0 ≤ z ∧ z ≤ most))) ∧ w = w' := by
  obtain ⟨R, hR⟩ : ∃ R, decide (0 ≤ z ∧ z ≤ most) = R := ⟨_, rfl⟩
  rw [hR]
  have HR := Lib.hid hR
  clear hR
  go_enter Try.func26, Try.ntmps26
  go_wp2_with fail
  go_loopw [9] (fun vi wr => (vi = .int .i64 0 ∨ (vi = .int .i64 1 ∧ 0 ≤ z ∧ z ≤ most)) ∧ Hid (w = wr)) (fun vi _ => 1 - (intOf vi).toNat)
  case atStart => exact ⟨Or.inl rfl, rfl⟩
  case round =>
    obtain ⟨hv, hw⟩ := hrel
    have hwe := hw.out
    subst hwe
    rcases hv with rfl | ⟨rfl, h0, h1⟩
    · by_cases h0 : z < 0
      · have hd : decide (z < 0) = true := decide_eq_true h0
        go_wp2_with fail
        go_ret
        exact ⟨ret_bool (by rw [← HR.out]; exact (decide_eq_false (by omega)).symm), rfl⟩
      · have hd : decide (z < 0) = false := decide_eq_false h0
        by_cases h1 : z > most
        · have hd2 : decide (z > most) = true := decide_eq_true h1
          go_wp2_with fail
          go_ret
          exact ⟨ret_bool (by rw [← HR.out]; exact (decide_eq_false (by omega)).symm), rfl⟩
        · have hd2 : decide (z > most) = false := decide_eq_false h1
          have HZ : Hid (0 ≤ z ∧ z ≤ most) := ⟨by omega, by omega⟩
          go_wp2_with fail
          exact ⟨⟨Or.inr ⟨rfl, HZ.out⟩, (by first | exact Lib.hid rfl | exact Lib.hid True.intro)⟩, by simp [intOf]⟩
    · have HZ : Hid (0 ≤ z ∧ z ≤ most) := ⟨h0, h1⟩
      go_wp2_with fail
      go_ret
      exact ⟨ret_bool (by rw [← HR.out]; exact (decide_eq_true HZ.out).symm), rfl⟩
def MayB (kind id : Int) : Prop := (0 ≤ kind ∧ kind ≤ 3) ∧ 0 ≤ id ∧ id ≤ 15
instance (kind id : Int) : Decidable (MayB kind id) := by unfold MayB; infer_instance
set_option maxHeartbeats 2000000 in
theorem may_any (kind id : Int) (w : World) : Calls Try.prog 25 #[.int .i64 kind, .int .i64 id] w fun r w' => r = .returned (.bool (decide (MayB kind id))) ∧ Below w.heap.size w w' := by
  by_cases h1 : 0 ≤ kind ∧ kind ≤ 3
  · obtain ⟨b, hb⟩ : ∃ b, decide (0 ≤ id ∧ id ≤ 15) = b := ⟨_, rfl⟩
    have HB : Hid (decide (MayB kind id) = b ∧ decide (0 ≤ id ∧ id ≤ 15) = b) := by
      refine ⟨?_, hb⟩
      rw [← hb]
      by_cases h2 : 0 ≤ id ∧ id ≤ 15
      · rw [decide_eq_true h2, decide_eq_true (show MayB kind id from ⟨h1, h2⟩)]
      · rw [decide_eq_false h2, decide_eq_false (fun h : MayB kind id => h2 h.2)]
    rw [HB.out.1]
    have HD := Lib.hid (decide_eq_true h1)
    have T1 := Lib.hid True.intro
    clear hb h1
    go_enter Try.func25, Try.ntmps25
    go_wp2_with (go_at_call 26; first
      | (have _tk := T1; refine (within_any 3 kind (by simp)).mono ?_; rintro r w1 ⟨rfl, rfl⟩; rw [HD.out]; clear T1 _tk)
      | (refine (within_any 15 id (by simp)).mono ?_; rintro r w1 ⟨rfl, rfl⟩; rw [HB.out.2]))
    go_ret
    exact ⟨rfl, ((Below.refl _ _).alloc (Nat.le_refl _) _).alloc (by simp) _⟩
  · rw [decide_eq_false (fun h : MayB kind id => h1 h.1)]
    have HD := Lib.hid (decide_eq_false h1)
    clear h1
    go_enter Try.func25, Try.ntmps25
    go_wp2_with (go_at_call 26; refine (within_any 3 kind (by simp)).mono ?_; rintro r w1 ⟨rfl, rfl⟩; rw [HD.out])
    go_ret
    exact ⟨rfl, (Below.refl _ _).alloc (Nat.le_refl _) _⟩
end Go.Proofs.Ytbfbahedbfjcoaa
