/- A port and the document's answer, side by side. -/
import Derived.Test.YtlaakcgipecldaaPortRef2
namespace Go.Proofs.Ytlaakcgipecldaa
set_option linter.all false
open Go.RowKit

/-- Both, and a block that neither of them touches. -/
structure JD (w x : World) (g g' : Nat) (s r : WS) (D : Nat) (T : TypeId) (cs : Array Value) : Prop where
  ex : ∃ FW FR : Nat → Prop, WayP x FW g s ∧ RwP x FR g' r ∧ (∀ k, FW k → ¬ FR k) ∧ (∀ k, FW k → w.heap.size ≤ k ∧ k < x.heap.size ∧ k ≠ D) ∧ (∀ k, FR k → w.heap.size ≤ k ∧ k < x.heap.size ∧ k ≠ D)
  b : Below w.heap.size w x
  d : Blk x D T cs

section
variable {w x : World} {g g' D : Nat} {s r : WS} {T : TypeId} {cs : Array Value}

theorem JD.drewN (h : JD w x g g' s r D T cs) (n : Nat) : JD w (x.drewN n) g g' s r D T cs := by
  obtain ⟨FW, FR, h1, h2, h3, h4, h5⟩ := h.ex
  exact ⟨⟨FW, FR, h1.upd ((Upd.refl (fun _ => False) _).drewN n) (fun _ _ h => h), h2.upd ((Upd.refl (fun _ => False) _).drewN n) (fun _ _ h => h), h3, h4, h5⟩, belowN h.b n, h.d.drewN n⟩

theorem JD.movP {x' : World} {s' : WS} (h : JD w x g g' s r D T cs) (FW FR FW' : Nat → Prop) (h2 : RwP x FR g' r) (h3 : ∀ k, FW k → ¬ FR k) (h4 : ∀ k, FW k → w.heap.size ≤ k ∧ k < x.heap.size ∧ k ≠ D) (h5 : ∀ k, FR k → w.heap.size ≤ k ∧ k < x.heap.size ∧ k ≠ D)
    (hp : WayP x' FW' g s') (hF : ∀ k, FW' k → growF FW x x' k) (hu : Upd FW x x') : JD w x' g g' s' r D T cs := by
  have hD := h.d.lt
  have hs := hu.size
  refine ⟨⟨FW', FR, hp, h2.upd hu (fun k h1 h2 => h3 k h2 h1), fun k h1 h2 => ?_, fun k h1 => ?_, fun k h1 => ?_⟩, below_upd h.b hu (fun k hk => (h4 k hk).1), h.d.upd hu (fun hk => (h4 _ hk).2.2 rfl)⟩
  · rcases hF k h1 with h1 | h1
    · exact h3 k h1 h2
    · have := (h5 k h2).2.1; have := h1.1; omega
  · rcases hF k h1 with h1 | h1
    · have := h4 k h1; omega
    · have := h1.1; have := h1.2; have := h.b.size; omega
  · have := h5 k h1; omega
theorem JD.movR {x' : World} {r' : WS} (h : JD w x g g' s r D T cs) (FW FR FR' : Nat → Prop) (h2 : WayP x FW g s) (h3 : ∀ k, FW k → ¬ FR k) (h4 : ∀ k, FW k → w.heap.size ≤ k ∧ k < x.heap.size ∧ k ≠ D) (h5 : ∀ k, FR k → w.heap.size ≤ k ∧ k < x.heap.size ∧ k ≠ D)
    (hp : RwP x' FR' g' r') (hF : ∀ k, FR' k → growF FR x x' k) (hu : Upd FR x x') : JD w x' g g' s r' D T cs := by
  have hD := h.d.lt
  have hs := hu.size
  refine ⟨⟨FW, FR', h2.upd hu (fun k h1 h2 => h3 k h1 h2), hp, fun k h1 h2 => ?_, fun k h1 => ?_, fun k h1 => ?_⟩, below_upd h.b hu (fun k hk => (h5 k hk).1), h.d.upd hu (fun hk => (h5 _ hk).2.2 rfl)⟩
  · rcases hF k h2 with h2 | h2
    · exact h3 k h1 h2
    · have := (h4 k h1).2.1; have := h2.1; omega
  · have := h4 k h1; omega
  · rcases hF k h1 with h1 | h1
    · have := h5 k h1; omega
    · have := h1.1; have := h1.2; have := h.b.size; omega

theorem jsend_p (h : JD w x g g' s r D T cs) (ho : WOk s) (m : ByteArray) (t : Int) (hm : m.size ≤ maxLen) :
    Calls Try.prog 13 #[.pointer (some ⟨g, 0, none⟩), .string m, .int .i64 t] x fun e x' => e = .returned (.int .i64 (sendE s m.size t)) ∧ JD w x' g g' (sendS s m t) r D T cs := by
  obtain ⟨FW, FR, h1, h2, h3, h4, h5⟩ := h.ex
  refine (wsend_any h1 ho m t hm).mono ?_
  rintro e x' ⟨rfl, hp, hu⟩
  exact ⟨rfl, h.movP FW FR _ h2 h3 h4 h5 hp (fun _ h => h) hu⟩
theorem jsend_r (h : JD w x g g' s r D T cs) (ho : WOk r) (m : ByteArray) (t : Int) (hm : m.size ≤ maxLen) :
    Calls Try.prog 18 #[.pointer (some ⟨g', 0, none⟩), .string m, .int .i64 t] x fun e x' => e = .returned (.int .i64 (sendE r m.size t)) ∧ JD w x' g g' s (sendS r m t) D T cs := by
  obtain ⟨FW, FR, h1, h2, h3, h4, h5⟩ := h.ex
  refine (rsend_any h2 ho m t hm).mono ?_
  rintro e x' ⟨rfl, hp, hu⟩
  exact ⟨rfl, h.movR FW FR _ h1 h3 h4 h5 hp (fun _ h => h) hu⟩
theorem jrecv_p (h : JD w x g g' s r D T cs) (ho : WOk s) (t : Int) :
    Calls Try.prog 12 #[.pointer (some ⟨g, 0, none⟩), .int .i64 t] x fun e x' => e = .returned (.tuple #[.string (recvM s t), .bool (recvB s t), .int .i64 (recvE s t)]) ∧ JD w x' g g' (recvS s t) r D T cs := by
  obtain ⟨FW, FR, h1, h2, h3, h4, h5⟩ := h.ex
  refine (wrecv_any h1 ho t).mono ?_
  rintro e x' ⟨rfl, hp, hu⟩
  exact ⟨rfl, h.movP FW FR _ h2 h3 h4 h5 hp (fun _ h => Or.inl h) hu⟩
theorem jrecv_r (h : JD w x g g' s r D T cs) (ho : WOk r) (t : Int) :
    Calls Try.prog 19 #[.pointer (some ⟨g', 0, none⟩), .int .i64 t] x fun e x' => e = .returned (.tuple #[.string (recvM r t), .bool (recvB r t), .int .i64 (recvE r t)]) ∧ JD w x' g g' s (recvS r t) D T cs := by
  obtain ⟨FW, FR, h1, h2, h3, h4, h5⟩ := h.ex
  refine (rrecv_any h2 ho t).mono ?_
  rintro e x' ⟨rfl, hp, hu⟩
  exact ⟨rfl, h.movR FW FR _ h1 h3 h4 h5 hp (fun _ h => Or.inl h) hu⟩
theorem jclear_p (h : JD w x g g' s r D T cs) :
    Calls Try.prog 20 #[.pointer (some ⟨g, 0, none⟩)] x fun e x' => e = .returned (.tuple #[]) ∧ JD w x' g g' (clearS s) r D T cs := by
  obtain ⟨FW, FR, h1, h2, h3, h4, h5⟩ := h.ex
  refine (wclear_any h1).mono ?_
  rintro e x' ⟨rfl, hp, hu⟩
  exact ⟨rfl, h.movP FW FR _ h2 h3 h4 h5 hp (fun _ h => Or.inl h) hu⟩
theorem jclear_r (h : JD w x g g' s r D T cs) :
    Calls Try.prog 21 #[.pointer (some ⟨g', 0, none⟩)] x fun e x' => e = .returned (.tuple #[]) ∧ JD w x' g g' s (clearS r) D T cs := by
  obtain ⟨FW, FR, h1, h2, h3, h4, h5⟩ := h.ex
  refine (rclear_any h2).mono ?_
  rintro e x' ⟨rfl, hp, hu⟩
  exact ⟨rfl, h.movR FW FR _ h1 h3 h4 h5 hp (fun _ h => Or.inl h) hu⟩
theorem jlen_p (h : JD w x g g' s r D T cs) (ho : WOk s) : Calls Try.prog 14 #[.pointer (some ⟨g, 0, none⟩)] x fun e x' => e = .returned (.int .i64 s.L.length) ∧ x = x' := by
  obtain ⟨FW, FR, h1, _⟩ := h.ex
  exact wlen_any h1 ho
theorem jlen_r (h : JD w x g g' s r D T cs) (hl : r.L.length ≤ 4) : Calls Try.prog 22 #[.pointer (some ⟨g', 0, none⟩)] x fun e x' => e = .returned (.int .i64 r.L.length) ∧ x = x' := by
  obtain ⟨FW, FR, _, h2, _⟩ := h.ex
  exact rlen_any h2 hl
end

theorem WOk.send {s : WS} (h : WOk s) (hk : s.kind = 1 ∨ s.kind = 2) (m : ByteArray) (t : Int) : WOk (sendS s m t) := by
  unfold sendS
  split
  · rename_i he
    split
    · rename_i h1
      obtain ⟨a, b, c⟩ := h.smp h1
      exact ⟨h.size, fun _ => ⟨a, b, Nat.le_refl 1⟩, fun h2 => absurd (show s.kind = 2 from h2) (by omega)⟩
    · rename_i h1
      have h2 : s.kind = 2 := by omega
      obtain ⟨a, b, c⟩ := h.que h2
      refine ⟨h.size, fun h3 => absurd (show s.kind = 1 from h3) h1, fun _ => ⟨a, b, ?_⟩⟩
      have hn : ¬ (s.L.length : Int) = s.lim := by
        intro hf
        unfold sendE at he
        split at he
        · cases he
        · first | exact absurd he (by decide) | (rw [if_neg h1, if_pos hf] at he; cases he)
      show ((s.L ++ [m]).length : Int) ≤ s.lim
      rw [List.length_append]
      simp
      omega
  · exact h
theorem WOk.recv {s : WS} (h : WOk s) (t : Int) : WOk (recvS s t) := by
  unfold recvS
  split
  · rename_i h1
    refine ⟨h.size, fun h3 => absurd (show s.kind = 1 from h3) h1.2, fun h2 => ?_⟩
    obtain ⟨a, b, c⟩ := h.que h2
    refine ⟨a, b, ?_⟩
    show ((s.L.tail).length : Int) ≤ s.lim
    rw [List.length_tail]
    omega
  · exact h
theorem WOk.clear {s : WS} (h : WOk s) : WOk (clearS s) := by
  refine ⟨h.size, fun h1 => ?_, fun h2 => ?_⟩
  · obtain ⟨a, b, c⟩ := h.smp h1
    exact ⟨a, b, Nat.zero_le 1⟩
  · obtain ⟨a, b, c⟩ := h.que h2
    exact ⟨a, b, by show (0 : Int) ≤ s.lim; omega⟩
theorem kind_send (s : WS) (m : ByteArray) (t : Int) : (sendS s m t).kind = s.kind := by unfold sendS; split <;> (try split) <;> rfl
theorem kind_recv (s : WS) (t : Int) : (recvS s t).kind = s.kind := by unfold recvS; split <;> rfl
theorem WOk.l4 {s : WS} (h : WOk s) (hk : s.kind = 1 ∨ s.kind = 2) : s.L.length ≤ 4 := by
  rcases hk with hk | hk
  · have := h.smp hk; omega
  · have := h.que hk; omega
end Go.Proofs.Ytlaakcgipecldaa
