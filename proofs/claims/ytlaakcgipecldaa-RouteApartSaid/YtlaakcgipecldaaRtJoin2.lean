/- The program's ports and the document's, side by side, and a block that neither touches. No condition. -/
import Derived.Test.YtlaakcgipecldaaRtWorks
namespace Go.Proofs.Ytlaakcgipecldaa
set_option linter.all false
open Go.RowKit

/-- The document's ports, and block D. -/
def OD (rp' : Nat) (M : List RE) (D : Nat) (T : TypeId) (cs : Array Value) : World → (Nat → Prop) → Prop := fun x Y =>
  Blk x D T cs ∧ Y D ∧ ∃ S F A gs, RlP x S F rp' M A gs ∧ ∀ k, PX S F M.length k → Y k ∧ k ≠ D
theorem OD.of (rp' : Nat) (M : List RE) (D : Nat) (T : TypeId) (cs : Array Value) : OF (OD rp' M D T cs) := fun x x' Y X h hu hl hX => by
  obtain ⟨h1, h2, S, F, A, gs, h3, h4⟩ := h
  exact ⟨h1.upd hu (hX _ h2), h2, S, F, A, gs, h3.far hu (fun k hk => hX k (h4 k (Or.inl hk)).1) (fun i hi k hk => hX k (h4 k (Or.inr ⟨i, hi, hk⟩)).1), h4⟩

/-- Both stand, and nothing beside. -/
def OP (rp' : Nat) (M : List RE) : World → (Nat → Prop) → Prop := fun x Y => ∃ S F A gs, RlP x S F rp' M A gs ∧ ∀ k, PX S F M.length k → Y k
theorem OP.of (rp' : Nat) (M : List RE) : OF (OP rp' M) := fun x x' Y X h hu hl hX => by
  obtain ⟨S, F, A, gs, h3, h4⟩ := h
  exact ⟨S, F, A, gs, h3.far hu (fun k hk => hX k (h4 k (Or.inl hk))) (fun i hi k hk => hX k (h4 k (Or.inr ⟨i, hi, hk⟩))), h4⟩

section
variable {w x x' : World} {rp rp' D : Nat} {L M : List RE} {T : TypeId} {cs : Array Value}

theorem JX.blk (h : JX w x rp L (OD rp' M D T cs)) : Blk x D T cs := by
  obtain ⟨_, _, _, _, _, _, _, h2, _⟩ := h.ex
  exact h2.1
/-- A new block beside both. -/
theorem JX.take (h : JX w x rp L (OP rp' M)) (cs : Array Value) (T : TypeId) : JX w (x.alloc (.cells cs T)) rp L (OD rp' M x.heap.size T cs) := by
  obtain ⟨S, F, A, hs, gs, Y, h1, ⟨S', F', A', gs', h2, h2'⟩, h3, h4⟩ := h.ex
  have hu : Upd (fun _ => False) x (x.alloc (.cells cs T)) := (Upd.refl _ x).alloc _
  refine ⟨⟨S, F, A, hs, gs, fun k => Y k ∨ k = x.heap.size, h1.far hu (fun _ _ h => h) (fun _ _ _ _ h => h), ⟨Blk.new _ _ _, Or.inr rfl, S', F', A', gs', h2.far hu (fun _ _ h => h) (fun _ _ _ _ h => h), fun k hk => ⟨Or.inl (h2' k hk), ?_⟩⟩, fun k hk => ⟨(h3 k hk).1, ?_⟩, fun k hk => ?_⟩, h.b.alloc h.b.size _, OD.of _ _ _ _ _⟩
  · have := (h4 k (h2' k hk)).2
    omega
  · rintro (hy | hy)
    · exact (h3 k hk).2 hy
    · have := PX.lt h1 hk; omega
  · have hb := h.b.size
    rcases hk with hk | rfl
    · have := h4 k hk; simp; omega
    · simp; omega
/-- The block is let go. -/
theorem JX.drop (h : JX w x rp L (OD rp' M D T cs)) : JX w x rp L (OP rp' M) := by
  obtain ⟨S, F, A, hs, gs, Y, h1, ⟨_, _, S', F', A', gs', h2, h2'⟩, h3, h4⟩ := h.ex
  exact ⟨⟨S, F, A, hs, gs, Y, h1, ⟨S', F', A', gs', h2, fun k hk => (h2' k hk).1⟩, h3, h4⟩, h.b, OP.of _ _⟩

/-- The document's ways have moved. -/
theorem movR {S' : Nat → Prop} {F' F2 : Nat → Nat → Prop} {A' : Option Addr} {gs' : Nat → Nat} {S : Nat → Prop} {F : Nat → Nat → Prop} {A : Option Addr} {hs gs : Nat → Nat} {Y : Nat → Prop} {M' : List RE} (h : JX w x rp L (OD rp' M D T cs))
    (h1 : RtP x S F rp L A hs gs) (hd : Blk x D T cs) (hyd : Y D) (h2 : RlP x S' F' rp' M A' gs') (h2' : ∀ k, PX S' F' M.length k → Y k ∧ k ≠ D) (h3 : ∀ k, PX S F L.length k → w.heap.size ≤ k ∧ ¬ Y k) (h4 : ∀ k, Y k → w.heap.size ≤ k ∧ k < x.heap.size)
    (hl : M'.length = M.length) (hp : RlP x' S' F2 rp' M' A' gs') (hm : Mv x x' F' F2 M.length) : JX w x' rp L (OD rp' M' D T cs) := by
  have hu : Upd (PX S' F' M.length) x x' := hm.upd.mono fun k hk => Or.inr hk
  have hne : ∀ k, PX S F L.length k → ¬ PX S' F' M.length k := fun k hk hk2 => (h3 k hk).2 (h2' k hk2).1
  have hbs := h.b.size
  refine ⟨⟨S, F, A, hs, gs, fun k => Y k ∨ (x.heap.size ≤ k ∧ k < x'.heap.size), h1.far hu (fun k hk => hne k (Or.inl hk)) (fun i hi k hk => hne k (Or.inr ⟨i, hi, hk⟩)), ⟨hd.upd hu (fun hk => (h2' D hk).2 rfl), Or.inl hyd, S', F2, A', gs', hp, fun k hk => ?_⟩, fun k hk => ⟨(h3 k hk).1, ?_⟩, fun k hk => ?_⟩, below_upd h.b hu (fun k hk => (h4 k (h2' k hk).1).1), OD.of _ _ _ _ _⟩
  · rcases hk with hk | ⟨j, hj, hk⟩
    · have := h2' k (Or.inl hk); exact ⟨Or.inl this.1, this.2⟩
    · rw [hl] at hj
      rcases hm.sub j hj k hk with h5 | h5
      · have := h2' k (Or.inr ⟨j, hj, h5⟩); exact ⟨Or.inl this.1, this.2⟩
      · refine ⟨Or.inr h5, fun e => ?_⟩
        have := (h4 D hyd).2
        have := h5.1
        omega
  · rintro (hy | hy)
    · exact (h3 k hk).2 hy
    · have := PX.lt h1 hk; omega
  · have := hu.size
    rcases hk with hk | hk
    · have := h4 k hk; omega
    · omega

theorem jr_send_no (h : JX w x rp L (OD rp' M D T cs)) (part p t : Int) (m : ByteArray) (hp : ∀ i (hi : i < M.length), p = i → M[i].f ≠ part) :
    Calls Try.prog 36 #[.pointer (some ⟨rp', 0, none⟩), .int .i64 part, .int .i64 p, .string m, .int .i64 t] x fun e x' => e = .returned (.int .i64 220) ∧ JX w x' rp L (OD rp' M D T cs) := by
  obtain ⟨_, _, _, _, _, _, _, ⟨_, _, S', F', A', gs', h2, _⟩, _⟩ := h.ex
  refine (rsend_no h2 part p t m hp).mono ?_
  rintro e w' ⟨rfl, rfl⟩
  exact ⟨rfl, h⟩
theorem jr_send_ok (h : JX w x rp L (OD rp' M D T cs)) (ho : Sound M) (k : Nat) (hk : k < M.length) (t : Int) (m : ByteArray) (hm : m.size ≤ maxLen) :
    Calls Try.prog 36 #[.pointer (some ⟨rp', 0, none⟩), .int .i64 M[k].f, .int .i64 (k : Int), .string m, .int .i64 t] x fun e x' => e = .returned (.int .i64 (sendE M[k].s m.size t)) ∧ JX w x' rp L (OD rp' (onE M k (sendS M[k].s m t)) D T cs) := by
  obtain ⟨S, F, A, hs, gs, Y, h1, ⟨hd, hyd, S', F', A', gs', h2, h2'⟩, h3, h4⟩ := h.ex
  refine (rsend_ok h2 ho k hk t m hm).mono ?_
  rintro e x' ⟨rfl, F2, hp, hm⟩
  exact ⟨rfl, movR h h1 hd hyd h2 h2' h3 h4 (onE_length _ _ _) hp hm⟩
theorem jr_recv_no (h : JX w x rp L (OD rp' M D T cs)) (part p t : Int) (hp : ∀ i (hi : i < M.length), p = i → M[i].t ≠ part) :
    Calls Try.prog 37 #[.pointer (some ⟨rp', 0, none⟩), .int .i64 part, .int .i64 p, .int .i64 t] x fun e x' => e = .returned (.tuple #[.string emptyS, .bool false, .int .i64 220]) ∧ JX w x' rp L (OD rp' M D T cs) := by
  obtain ⟨_, _, _, _, _, _, _, ⟨_, _, S', F', A', gs', h2, _⟩, _⟩ := h.ex
  refine (rrecv_no h2 part p t hp).mono ?_
  rintro e w' ⟨rfl, rfl⟩
  exact ⟨rfl, h⟩
theorem jr_recv_ok (h : JX w x rp L (OD rp' M D T cs)) (ho : Sound M) (k : Nat) (hk : k < M.length) (t : Int) :
    Calls Try.prog 37 #[.pointer (some ⟨rp', 0, none⟩), .int .i64 M[k].t, .int .i64 (k : Int), .int .i64 t] x fun e x' => e = .returned (.tuple #[.string (recvM M[k].s t), .bool (recvB M[k].s t), .int .i64 (recvE M[k].s t)]) ∧ JX w x' rp L (OD rp' (onE M k (recvS M[k].s t)) D T cs) := by
  obtain ⟨S, F, A, hs, gs, Y, h1, ⟨hd, hyd, S', F', A', gs', h2, h2'⟩, h3, h4⟩ := h.ex
  refine (rrecv_ok h2 ho k hk t).mono ?_
  rintro e x' ⟨rfl, F2, hp, hm⟩
  exact ⟨rfl, movR h h1 hd hyd h2 h2' h3 h4 (onE_length _ _ _) hp hm⟩
theorem jr_clear (h : JX w x rp L (OD rp' M D T cs)) (ho : Sound M) (hl : M.length ≤ 1000) (part : Int) :
    Calls Try.prog 38 #[.pointer (some ⟨rp', 0, none⟩), .int .i64 part] x fun e x' => e = .returned (.int .i64 (clrN part M)) ∧ JX w x' rp L (OD rp' (clrL part M M.length) D T cs) := by
  obtain ⟨S, F, A, hs, gs, Y, h1, ⟨hd, hyd, S', F', A', gs', h2, h2'⟩, h3, h4⟩ := h.ex
  refine (rclear_p h2 ho hl part).mono ?_
  rintro e x' ⟨rfl, hp, hu⟩
  exact ⟨rfl, movR h h1 hd hyd h2 h2' h3 h4 (clrL_length _ _ _) hp ⟨fun _ _ _ h => Or.inl h, hu⟩⟩
theorem jr_reach (h : JX w x rp L (OD rp' M D T cs)) (ho : Sound M) (hl : M.length ≤ 1000) (v : Int) :
    Calls Try.prog 41 #[.pointer (some ⟨rp', 0, none⟩), .int .i64 v] x fun e x' => ∃ A c, e = .returned (.slice A (rchL v M).length c) ∧ x'.ownsRow x.heap.size 3 1 (.slice A (rchL v M).length c) (rchL v M).length ((rchL v M).map (Value.int .i64)) ∧ Below x.heap.size x x' := by
  obtain ⟨_, _, _, _, _, _, _, ⟨_, _, S', F', A', gs', h2, _⟩, _⟩ := h.ex
  refine (rreach_p h2 ho hl v).mono ?_
  rintro e x' ⟨u, rfl, hr, hb⟩
  obtain ⟨A2, c2, rfl⟩ := row_form2 hr
  exact ⟨A2, c2, rfl, hr, hb⟩
theorem jr_len_out (h : JX w x rp L (OP rp' M)) (p : Int) (hp : ¬ (0 ≤ p ∧ p < M.length)) :
    Calls Try.prog 27 #[.pointer (some ⟨rp', 0, none⟩), .int .i64 p] x fun e x' => e = .returned (.int .i64 0) ∧ x = x' := by
  obtain ⟨_, _, _, _, _, _, _, ⟨S', F', A', gs', h2, _⟩, _⟩ := h.ex
  refine (rlen_out h2 p hp).mono ?_
  rintro e w' ⟨rfl, rfl⟩
  exact ⟨rfl, rfl⟩
theorem jr_len_in (h : JX w x rp L (OP rp' M)) (ho : Sound M) (k : Nat) (hk : k < M.length) :
    Calls Try.prog 27 #[.pointer (some ⟨rp', 0, none⟩), .int .i64 (k : Int)] x fun e x' => e = .returned (.int .i64 M[k].s.L.length) ∧ x = x' := by
  obtain ⟨_, _, _, _, _, _, _, ⟨S', F', A', gs', h2, _⟩, _⟩ := h.ex
  refine (rlen_in h2 ho k hk).mono ?_
  rintro e w' ⟨rfl, rfl⟩
  exact ⟨rfl, rfl⟩
end
end Go.Proofs.Ytlaakcgipecldaa
