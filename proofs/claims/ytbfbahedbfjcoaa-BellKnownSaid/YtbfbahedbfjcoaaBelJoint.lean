/- Bells of both, side by side. -/
import Derived.Test.YtbfbahedbfjcoaaBelRef6
namespace Go.Proofs.Ytbfbahedbfjcoaa
set_option linter.all false
open Go.RowKit

theorem rbarm_any {w : World} {F : Nat → Prop} {gm : Nat} {L : BL} (h : RbJ w F gm L) (kind id at_ : Int) :
    Calls Try.prog 33 #[.pointer (some ⟨gm, 0, none⟩), .int .i64 kind, .int .i64 id, .int .i64 at_] w fun r w' => r = .returned (.int .i64 (armE kind id at_)) ∧ RbJ w' (growR F w w') gm (armL L kind id at_) ∧ Upd F w w' := by
  by_cases hc : MayB kind id ∧ TkB at_
  · have e1 : armE kind id at_ = 0 := by unfold armE; rw [if_pos hc.1, if_pos hc.2]
    have e2 : armL L kind id at_ = insL (plB kind id, at_) (rmL (plB kind id) L) := by unfold armL; rw [if_pos hc]
    rw [e1, e2]
    exact rbarm_yes h kind id at_ hc.1 hc.2
  · have e2 : armL L kind id at_ = L := by unfold armL; rw [if_neg hc]
    rw [e2]
    refine (rbarm_no kind id at_ gm w hc).mono ?_
    rintro r w' ⟨rfl, rfl⟩
    obtain ⟨v, h1, h2⟩ := h.ex
    exact ⟨rfl, ⟨Or.inl h.fm, ⟨v, h1, h2.mono fun k hk => Or.inl hk⟩, fun k hk => by
      rcases hk with hk | hk
      · exact h.lt k hk
      · exact hk.2, h.ok⟩, Upd.refl _ _⟩

/-- Both, and blocks that neither of them touches. -/
structure PD (w x : World) (gb gm : Nat) (L M : BL) (D : Nat → Prop) : Prop where
  ex : ∃ X : Nat → Prop, BJ w x (fun k => X k ∨ D k) gb L ∧ RbJ x X gm M ∧ ∀ k, X k → w.heap.size ≤ k ∧ ¬ D k
  dl : ∀ k, D k → k < x.heap.size
section
variable {w x x' : World} {gb gm : Nat} {L M : BL} {D S : Nat → Prop}
theorem PD.b (h : PD w x gb gm L M D) : Below w.heap.size w x := by
  obtain ⟨X, h1, _⟩ := h.ex
  exact h1.b
theorem PD.okL (h : PD w x gb gm L M D) : OkL L := by
  obtain ⟨X, h1, _⟩ := h.ex
  exact h1.ok
theorem BJ.less {X Y : Nat → Prop} (h : BJ w x X gb L) (hY : ∀ k, Y k → X k) : BJ w x Y gb L := by
  obtain ⟨F, h1, h2⟩ := h.j
  exact ⟨⟨F, h1, fun k hk => ⟨(h2 k hk).1, fun hy => (h2 k hk).2 (hY k hy)⟩⟩, h.b⟩
theorem PD.less {E : Nat → Prop} (h : PD w x gb gm L M D) (hE : ∀ k, E k → D k) : PD w x gb gm L M E := by
  obtain ⟨X, h1, h2, h3⟩ := h.ex
  exact ⟨⟨X, h1.less fun k hk => hk.imp id (hE k), h2, fun k hk => ⟨(h3 k hk).1, fun he => (h3 k hk).2 (hE k he)⟩⟩, fun k hk => h.dl k (hE k hk)⟩
/-- Memory that is new belongs to neither. -/
theorem PD.grow (h : PD w x gb gm L M D) (hb : Below x.heap.size x x') : PD w x' gb gm L M (growR D x x') := by
  obtain ⟨X, h1, h2, h3⟩ := h.ex
  obtain ⟨F, k1, k2⟩ := h1.j
  have hu := Upd.of_below hb
  refine ⟨⟨X, ⟨⟨F, k1.keep hb, fun k hk => ⟨(k2 k hk).1, ?_⟩⟩, h1.b.trans (hb.mono h1.b.size)⟩, h2.upd hu (fun k hk hx => by have := h2.lt k hx; omega), fun k hk => ⟨(h3 k hk).1, ?_⟩⟩, fun k hk => ?_⟩
  · rintro (hx | hd | hn)
    · exact (k2 k hk).2 (Or.inl hx)
    · exact (k2 k hk).2 (Or.inr hd)
    · have := k1.lt k hk; omega
  · rintro (hd | hn)
    · exact (h3 k hk).2 hd
    · have := h2.lt k hk; omega
  · rcases hk with hk | hk
    · exact Nat.lt_of_lt_of_le (h.dl k hk) hb.size
    · exact hk.2
theorem PD.keep (h : PD w x gb gm L M D) (hb : Below x.heap.size x x') : PD w x' gb gm L M D := (h.grow hb).less fun _ hk => Or.inl hk
/-- The blocks in D may be written. -/
theorem PD.write (h : PD w x gb gm L M D) (hu : Upd S x x') (hS : ∀ k, S k → D k ∧ w.heap.size ≤ k) : PD w x' gb gm L M D := by
  obtain ⟨X, h1, h2, h3⟩ := h.ex
  exact ⟨⟨X, h1.upd hu fun k hk => ⟨Or.inr (hS k hk).1, (hS k hk).2⟩, h2.upd hu (fun k hk hx => (h3 k hx).2 (hS k hk).1), h3⟩, fun k hk => Nat.lt_of_lt_of_le (h.dl k hk) hu.size⟩
theorem Kp.of_below (hb : Below x.heap.size x x') : Kp x x' D := ⟨hb.size, fun k hk _ => hb.block k hk⟩
theorem PD.xlt {X : Nat → Prop} (h : PD w x gb gm L M D) (h2 : RbJ x X gm M) : ∀ k, X k ∨ D k → k < x.heap.size := fun k hk => hk.elim (h2.lt k) (h.dl k)
theorem RbJ.kp {X Y : Nat → Prop} (h : RbJ x X gm M) (hk : Kp x x' Y) (hY : ∀ k, X k → Y k) : RbJ x' X gm M := by
  obtain ⟨v, h1, h2⟩ := h.ex
  refine ⟨h.fm, ⟨v, hk.blk h1 (hY _ h.fm), ?_⟩, fun k hx => Nat.lt_of_lt_of_le (h.lt k hx) hk.size, h.ok⟩
  rcases h2 with h2 | ⟨g, off, cap, cur, e1, e2, e3, e4⟩
  · exact Or.inl h2
  · exact Or.inr ⟨g, off, cap, cur, e1, e2, hk.blk e3 (hY _ e2), e4⟩
theorem Kp.less {X Y : Nat → Prop} (hk : Kp x x' X) (hY : ∀ k, Y k → X k) : Kp x x' Y := ⟨hk.size, fun k h1 h2 => hk.k k h1 (hY k h2)⟩
/-- A call of the program's bells. -/
theorem PD.prog {L' : BL} {X : Nat → Prop} (h : PD w x gb gm L M D) (h2 : RbJ x X gm M) (h3 : ∀ k, X k → w.heap.size ≤ k ∧ ¬ D k) (hj : BJ w x' (fun k => X k ∨ D k) gb L') (hk : Kp x x' (fun k => X k ∨ D k)) : PD w x' gb gm L' M D ∧ Kp x x' D :=
  ⟨⟨⟨X, hj, h2.kp hk fun k hx => Or.inl hx, h3⟩, fun k hd => Nat.lt_of_lt_of_le (h.dl k hd) hk.size⟩, hk.less fun k hd => Or.inr hd⟩
/-- A call of the document's bells. -/
theorem PD.ref_ {M' : BL} {X : Nat → Prop} (h : PD w x gb gm L M D) (h1 : BJ w x (fun k => X k ∨ D k) gb L) (h2 : RbJ x X gm M) (h3 : ∀ k, X k → w.heap.size ≤ k ∧ ¬ D k) (hj : RbJ x' (growR X x x') gm M') (hu : Upd X x x') : PD w x' gb gm L M' D ∧ Kp x x' D := by
  have hb := h1.upd hu (fun k hk => ⟨Or.inl hk, (h3 k hk).1⟩)
  obtain ⟨F, k1, k2⟩ := h1.j
  have hs := h1.b.size
  refine ⟨⟨⟨growR X x x', ⟨⟨F, k1.upd hu (fun k hk hf => (k2 k hf).2 (Or.inl hk)), fun k hk => ⟨(k2 k hk).1, ?_⟩⟩, hb.b⟩, hj, fun k hk => ?_⟩, fun k hk => Nat.lt_of_lt_of_le (h.dl k hk) hu.size⟩, upd_kp hu fun k hk => (h3 k hk).2⟩
  · rintro ((hx | hn) | hd)
    · exact (k2 k hk).2 (Or.inl hx)
    · have := k1.lt k hk; omega
    · exact (k2 k hk).2 (Or.inr hd)
  · rcases hk with hk | hk
    · exact h3 k hk
    · exact ⟨by omega, fun hd => by have := h.dl k hd; omega⟩
theorem RbJ.growG {X : Nat → Prop} (h : RbJ x X gm M) (hu : x.heap.size ≤ x'.heap.size) (h' : RbJ x' X gm L) : RbJ x' (growR X x x') gm L := by
  obtain ⟨v, h1, h2⟩ := h'.ex
  exact ⟨Or.inl h'.fm, ⟨v, h1, h2.mono fun k hk => Or.inl hk⟩, fun k hk => by
    rcases hk with hk | hk
    · exact Nat.lt_of_lt_of_le (h.lt k hk) hu
    · exact hk.2, h'.ok⟩

theorem pd_arm_p (h : PD w x gb gm L M D) (kind id at_ : Int) :
    Calls Try.prog 10 #[.pointer (some ⟨gb, 0, none⟩), .int .i64 kind, .int .i64 id, .int .i64 at_] x fun r x' => r = .returned (.int .i64 (armE kind id at_)) ∧ PD w x' gb gm (armL L kind id at_) M D ∧ Kp x x' D := by
  obtain ⟨X, h1, h2, h3⟩ := h.ex
  refine (barm h1 (h.xlt h2) kind id at_).mono ?_
  rintro r x' ⟨rfl, hj, hk⟩
  exact ⟨rfl, h.prog h2 h3 hj hk⟩
theorem pd_arm_r (h : PD w x gb gm L M D) (kind id at_ : Int) :
    Calls Try.prog 33 #[.pointer (some ⟨gm, 0, none⟩), .int .i64 kind, .int .i64 id, .int .i64 at_] x fun r x' => r = .returned (.int .i64 (armE kind id at_)) ∧ PD w x' gb gm L (armL M kind id at_) D ∧ Kp x x' D := by
  obtain ⟨X, h1, h2, h3⟩ := h.ex
  refine (rbarm_any h2 kind id at_).mono ?_
  rintro r x' ⟨rfl, hj, hu⟩
  exact ⟨rfl, h.ref_ h1 h2 h3 hj hu⟩
theorem pd_can_p (h : PD w x gb gm L M D) (kind id : Int) :
    Calls Try.prog 11 #[.pointer (some ⟨gb, 0, none⟩), .int .i64 kind, .int .i64 id] x fun r x' => r = .returned (.bool (canE L kind id)) ∧ PD w x' gb gm (canL L kind id) M D ∧ Kp x x' D := by
  obtain ⟨X, h1, h2, h3⟩ := h.ex
  refine (bcancel2 h1 kind id).mono ?_
  rintro r x' ⟨rfl, hj, hk⟩
  exact ⟨rfl, h.prog h2 h3 hj hk⟩
theorem pd_can_r (h : PD w x gb gm L M D) (kind id : Int) :
    Calls Try.prog 34 #[.pointer (some ⟨gm, 0, none⟩), .int .i64 kind, .int .i64 id] x fun r x' => r = .returned (.bool (canE M kind id)) ∧ PD w x' gb gm L (canL M kind id) D ∧ Kp x x' D := by
  obtain ⟨X, h1, h2, h3⟩ := h.ex
  refine (rbcancel h2 kind id).mono ?_
  rintro r x' ⟨rfl, hj, hu⟩
  exact ⟨rfl, h.ref_ h1 h2 h3 hj hu⟩
theorem pd_next_p (h : PD w x gb gm L M D) :
    Calls Try.prog 15 #[.pointer (some ⟨gb, 0, none⟩)] x fun r x' => r = .returned (.tuple #[.int .i64 (nxK L), .bool (nxB L)]) ∧ PD w x' gb gm L M D ∧ Kp x x' D := by
  obtain ⟨X, h1, h2, h3⟩ := h.ex
  refine (bnext h1).mono ?_
  rintro r x' ⟨rfl, hj, hb⟩
  exact ⟨rfl, h.keep hb, Kp.of_below hb⟩
theorem pd_next_r (h : PD w x gb gm L M D) :
    Calls Try.prog 35 #[.pointer (some ⟨gm, 0, none⟩)] x fun r x' => r = .returned (.tuple #[.int .i64 (nxK M), .bool (nxB M)]) ∧ x = x' := by
  obtain ⟨X, h1, h2, h3⟩ := h.ex
  exact rbnext h2
theorem pd_at_p (h : PD w x gb gm L M D) (kind id : Int) :
    Calls Try.prog 19 #[.pointer (some ⟨gb, 0, none⟩), .int .i64 kind, .int .i64 id] x fun r x' => r = .returned (.tuple #[.int .i64 (atK L kind id), .bool (canE L kind id)]) ∧ PD w x' gb gm L M D ∧ Kp x x' D := by
  obtain ⟨X, h1, h2, h3⟩ := h.ex
  refine (bat h1 kind id).mono ?_
  rintro r x' ⟨rfl, hj, hb⟩
  exact ⟨rfl, h.keep hb, Kp.of_below hb⟩
theorem pd_at_r (h : PD w x gb gm L M D) (kind id : Int) :
    Calls Try.prog 20 #[.pointer (some ⟨gm, 0, none⟩), .int .i64 kind, .int .i64 id] x fun r x' => r = .returned (.tuple #[.int .i64 (atK M kind id), .bool (canE M kind id)]) ∧ x = x' := by
  obtain ⟨X, h1, h2, h3⟩ := h.ex
  exact rbat h2 kind id
theorem pd_count_p (h : PD w x gb gm L M D) : Calls Try.prog 14 #[.pointer (some ⟨gb, 0, none⟩)] x fun r x' => r = .returned (.int .i64 (L.length : Nat)) ∧ x = x' := by
  obtain ⟨X, h1, h2, h3⟩ := h.ex
  exact bcount h1
theorem pd_count_r (h : PD w x gb gm L M D) : Calls Try.prog 18 #[.pointer (some ⟨gm, 0, none⟩)] x fun r x' => r = .returned (.int .i64 (M.length : Nat)) ∧ x = x' := by
  obtain ⟨X, h1, h2, h3⟩ := h.ex
  exact rbcount h2
theorem pd_due_p (h : PD w x gb gm L M D) (now : Int) :
    Calls Try.prog 12 #[.pointer (some ⟨gb, 0, none⟩), .int .i64 now] x fun r x' => (∃ A c, r = .returned (.slice A (dueL now L).length c) ∧ x'.ownsRow x.heap.size 36 3 (.slice A (dueL now L).length c) (dueL now L).length (bellC (dueL now L))) ∧ PD w x' gb gm (restL now L) M (growR D x x') ∧ Kp x x' D := by
  obtain ⟨X, h1, h2, h3⟩ := h.ex
  obtain ⟨F, k1, k2⟩ := h1.j
  refine (due_any k1 now).mono ?_
  rintro r x' ⟨⟨v, rfl, ho⟩, hj, hu⟩
  have hv : ∃ A c, v = .slice A (dueL now L).length c := by
    rcases ho.2 with ⟨h3, h4⟩ | ⟨g, cap, cur, h3, _⟩
    · exact ⟨none, 0, by rw [h3, h4]⟩
    · exact ⟨_, _, h3⟩
  obtain ⟨A, c, rfl⟩ := hv
  have hs := h1.b.size
  refine ⟨⟨A, c, rfl, ho⟩, ⟨⟨X, ⟨⟨F, hj, fun k hk => ⟨(k2 k hk).1, ?_⟩⟩, h1.b.trans (hu.below h1.b.size fun k hk => (k2 k hk).1)⟩, h2.upd hu (fun k hk hx => (k2 k hk).2 (Or.inl hx)), fun k hk => ⟨(h3 k hk).1, ?_⟩⟩, fun k hk => ?_⟩, upd_kp hu fun k hk hd => (k2 k hk).2 (Or.inr hd)⟩
  · rintro (hx | hd | hn)
    · exact (k2 k hk).2 (Or.inl hx)
    · exact (k2 k hk).2 (Or.inr hd)
    · have := k1.lt k hk; omega
  · rintro (hd | hn)
    · exact (h3 k hk).2 hd
    · have := h2.lt k hk; omega
  · rcases hk with hk | hk
    · exact Nat.lt_of_lt_of_le (h.dl k hk) hu.size
    · exact hk.2
theorem pd_due_r (h : PD w x gb gm L M D) (now : Int) :
    Calls Try.prog 22 #[.pointer (some ⟨gm, 0, none⟩), .int .i64 now] x fun r x' => (∃ A c, r = .returned (.slice A (dueL now M).length c) ∧ x'.ownsRow x.heap.size 36 3 (.slice A (dueL now M).length c) (dueL now M).length (bellC (dueL now M))) ∧ PD w x' gb gm L (restL now M) D ∧ Kp x x' D := by
  obtain ⟨X, h1, h2, h3⟩ := h.ex
  refine (rbdue h2 now).mono ?_
  rintro r x' ⟨⟨v, rfl, ho⟩, hj, hu⟩
  have hv : ∃ A c, v = .slice A (dueL now M).length c := by
    rcases ho.2 with ⟨h3, h4⟩ | ⟨g, cap, cur, h3, _⟩
    · exact ⟨none, 0, by rw [h3, h4]⟩
    · exact ⟨_, _, h3⟩
  obtain ⟨A, c, rfl⟩ := hv
  exact ⟨⟨A, c, rfl, ho⟩, h.ref_ h1 h2 h3 (h2.growG hu.size hj) hu⟩
/-- A row that is apart. -/
theorem own_kp {B : Nat} {e : TypeId} {v : Value} {n sz : Nat} {xs : List Value} (h : x.ownsRow B e sz v n xs) (hk : Kp x x' D) (hD : ∀ k, B ≤ k → k < x.heap.size → D k) : x'.ownsRow B e sz v n xs := by
  refine ⟨h.1, ?_⟩
  rcases h.2 with h0 | ⟨g, cap, cur, h1, h2, h3, h4⟩
  · exact Or.inl h0
  · exact Or.inr ⟨g, cap, cur, h1, h2, hk.blk h3 (hD g h2 (Blk.lt h3)), h4⟩
theorem Kp.trans {x'' : World} (h : Kp x x' D) (k : Kp x' x'' D) : Kp x x'' D := ⟨Nat.le_trans h.size k.size, fun i hi hd => (k.k i (Nat.lt_of_lt_of_le hi h.size) hd).trans (h.k i hi hd)⟩
end
end Go.Proofs.Ytbfbahedbfjcoaa
