/- The program's ports beside something else in memory that they never touch. No condition. -/
import Derived.Test.YtlaakcgipecldaaRtNew
namespace Go.Proofs.Ytlaakcgipecldaa
set_option linter.all false
open Go.RowKit

/-- All blocks of the ports. -/
def PX (S : Nat → Prop) (F : Nat → Nat → Prop) (n : Nat) : Nat → Prop := fun k => S k ∨ ∃ j, j < n ∧ F j k

/-- What stands beside: it abides whatever does not touch its blocks. -/
def OF (O : World → (Nat → Prop) → Prop) : Prop := ∀ x x' Y X, O x Y → Upd X x x' → (∀ k, Y k → k < x.heap.size) → (∀ k, Y k → ¬ X k) → O x' Y

structure JX (w x : World) (rp : Nat) (L : List RE) (O : World → (Nat → Prop) → Prop) : Prop where
  ex : ∃ S F A hs gs Y, RtP x S F rp L A hs gs ∧ O x Y ∧ (∀ k, PX S F L.length k → w.heap.size ≤ k ∧ ¬ Y k) ∧ (∀ k, Y k → w.heap.size ≤ k ∧ k < x.heap.size)
  b : Below w.heap.size w x
  of : OF O

section
variable {w x x' : World} {rp : Nat} {L : List RE} {O : World → (Nat → Prop) → Prop}

theorem PX.lt {S : Nat → Prop} {F : Nat → Nat → Prop} {A : Option Addr} {hs gs : Nat → Nat} (h : RtP x S F rp L A hs gs) {k : Nat} (hk : PX S F L.length k) : k < x.heap.size := by
  rcases hk with hk | ⟨j, hj, hk⟩
  · exact h.ft.sl k hk
  · exact h.ft.fl j hj k hk

/-- A step that touches neither. -/
theorem JX.below (h : JX w x rp L O) (hb : Below x.heap.size x x') : JX w x' rp L O := by
  obtain ⟨S, F, A, hs, gs, Y, h1, h2, h3, h4⟩ := h.ex
  refine ⟨⟨S, F, A, hs, gs, Y, h1.far (Upd.of_below hb) (fun k hk => by have := h1.ft.sl k hk; omega) (fun i hi k hk => by have := h1.ft.fl i hi k hk; omega), h.of x x' Y _ h2 (Upd.of_below hb) (fun k hk => (h4 k hk).2) (fun k hk => by have := (h4 k hk).2; omega), h3, fun k hk => ⟨(h4 k hk).1, Nat.lt_of_lt_of_le (h4 k hk).2 hb.size⟩⟩, h.b.trans (hb.mono h.b.size), h.of⟩
theorem JX.drewN (h : JX w x rp L O) (n : Nat) : JX w (x.drewN n) rp L O := h.below (belowN (Below.refl _ _) n)
theorem JX.drew (h : JX w x rp L O) : JX w x.drew rp L O := h.below (Below.refl _ _).drew
theorem JX.alloc (h : JX w x rp L O) (o : Obj) : JX w (x.alloc o) rp L O := h.below ((Below.refl _ _).alloc (Nat.le_refl _) o)

/-- The ways have moved. -/
theorem JX.mov {S : Nat → Prop} {F F' : Nat → Nat → Prop} {A : Option Addr} {hs gs : Nat → Nat} {Y : Nat → Prop} {L' : List RE} (h : JX w x rp L O) (h1 : RtP x S F rp L A hs gs) (h2 : O x Y) (h3 : ∀ k, PX S F L.length k → w.heap.size ≤ k ∧ ¬ Y k) (h4 : ∀ k, Y k → w.heap.size ≤ k ∧ k < x.heap.size)
    (hl : L'.length = L.length) (hp : RtP x' S F' rp L' A hs gs) (hm : Mv x x' F F' L.length) : JX w x' rp L' O := by
  have hu : Upd (PX S F L.length) x x' := hm.upd.mono fun k hk => Or.inr hk
  refine ⟨⟨S, F', A, hs, gs, Y, hp, h.of x x' Y _ h2 hu (fun k hk => (h4 k hk).2) (fun k hk hx => (h3 k hx).2 hk), fun k hk => ?_, fun k hk => ⟨(h4 k hk).1, Nat.lt_of_lt_of_le (h4 k hk).2 hu.size⟩⟩, below_upd h.b hu (fun k hk => (h3 k hk).1), h.of⟩
  rcases hk with hk | ⟨j, hj, hk⟩
  · exact h3 k (Or.inl hk)
  · rw [hl] at hj
    rcases hm.sub j hj k hk with h5 | h5
    · exact h3 k (Or.inr ⟨j, hj, h5⟩)
    · exact ⟨Nat.le_trans h.b.size h5.1, fun hy => by have := (h4 k hy).2; have := h5.1; omega⟩

theorem jx_send_no (h : JX w x rp L O) (part p t : Int) (m : ByteArray) (hp : ∀ i (hi : i < L.length), p = i → L[i].f ≠ part) :
    Calls Try.prog 30 #[.pointer (some ⟨rp, 0, none⟩), .int .i64 part, .int .i64 p, .string m, .int .i64 t] x fun e x' => e = .returned (.int .i64 220) ∧ JX w x' rp L O := by
  obtain ⟨S, F, A, hs, gs, Y, h1, _⟩ := h.ex
  refine (send_no h1 part p t m hp).mono ?_
  rintro e w' ⟨rfl, rfl⟩
  exact ⟨rfl, h⟩
theorem jx_send_ok (h : JX w x rp L O) (ho : Sound L) (k : Nat) (hk : k < L.length) (t : Int) (m : ByteArray) (hm : m.size ≤ maxLen) :
    Calls Try.prog 30 #[.pointer (some ⟨rp, 0, none⟩), .int .i64 L[k].f, .int .i64 (k : Int), .string m, .int .i64 t] x fun e x' => e = .returned (.int .i64 (sendE L[k].s m.size t)) ∧ JX w x' rp (onE L k (sendS L[k].s m t)) O := by
  obtain ⟨S, F, A, hs, gs, Y, h1, h2, h3, h4⟩ := h.ex
  refine (send_ok h1 ho k hk t m hm).mono ?_
  rintro e x' ⟨rfl, F', hp, hm⟩
  exact ⟨rfl, h.mov h1 h2 h3 h4 (onE_length _ _ _) hp hm⟩
theorem jx_recv_no (h : JX w x rp L O) (part p t : Int) (hp : ∀ i (hi : i < L.length), p = i → L[i].t ≠ part) :
    Calls Try.prog 31 #[.pointer (some ⟨rp, 0, none⟩), .int .i64 part, .int .i64 p, .int .i64 t] x fun e x' => e = .returned (.tuple #[.string emptyS, .bool false, .int .i64 220]) ∧ JX w x' rp L O := by
  obtain ⟨S, F, A, hs, gs, Y, h1, _⟩ := h.ex
  refine (recv_no h1 part p t hp).mono ?_
  rintro e w' ⟨rfl, rfl⟩
  exact ⟨rfl, h⟩
theorem jx_recv_ok (h : JX w x rp L O) (ho : Sound L) (k : Nat) (hk : k < L.length) (t : Int) :
    Calls Try.prog 31 #[.pointer (some ⟨rp, 0, none⟩), .int .i64 L[k].t, .int .i64 (k : Int), .int .i64 t] x fun e x' => e = .returned (.tuple #[.string (recvM L[k].s t), .bool (recvB L[k].s t), .int .i64 (recvE L[k].s t)]) ∧ JX w x' rp (onE L k (recvS L[k].s t)) O := by
  obtain ⟨S, F, A, hs, gs, Y, h1, h2, h3, h4⟩ := h.ex
  refine (recv_ok h1 ho k hk t).mono ?_
  rintro e x' ⟨rfl, F', hp, hm⟩
  exact ⟨rfl, h.mov h1 h2 h3 h4 (onE_length _ _ _) hp hm⟩
theorem jx_len_out (h : JX w x rp L O) (p : Int) (hp : ¬ (0 ≤ p ∧ p < L.length)) :
    Calls Try.prog 26 #[.pointer (some ⟨rp, 0, none⟩), .int .i64 p] x fun e x' => e = .returned (.int .i64 0) ∧ x = x' := by
  obtain ⟨S, F, A, hs, gs, Y, h1, _⟩ := h.ex
  refine (len_out h1 p hp).mono ?_
  rintro e w' ⟨rfl, rfl⟩
  exact ⟨rfl, rfl⟩
theorem jx_len_in (h : JX w x rp L O) (ho : Sound L) (k : Nat) (hk : k < L.length) :
    Calls Try.prog 26 #[.pointer (some ⟨rp, 0, none⟩), .int .i64 (k : Int)] x fun e x' => e = .returned (.int .i64 L[k].s.L.length) ∧ x = x' := by
  obtain ⟨S, F, A, hs, gs, Y, h1, _⟩ := h.ex
  refine (len_in h1 ho k hk).mono ?_
  rintro e w' ⟨rfl, rfl⟩
  exact ⟨rfl, rfl⟩
theorem jx_clear (h : JX w x rp L O) (ho : Sound L) (hl : L.length ≤ 1000) (part : Int) :
    Calls Try.prog 32 #[.pointer (some ⟨rp, 0, none⟩), .int .i64 part] x fun e x' => e = .returned (.int .i64 (clrN part L)) ∧ JX w x' rp (clrL part L L.length) O := by
  obtain ⟨S, F, A, hs, gs, Y, h1, h2, h3, h4⟩ := h.ex
  refine (clear_p h1 ho hl part).mono ?_
  rintro e x' ⟨rfl, hp, hu⟩
  exact ⟨rfl, h.mov h1 h2 h3 h4 (clrL_length _ _ _) hp ⟨fun _ _ _ h => Or.inl h, hu⟩⟩
theorem Sound.ends {L : List RE} (ho : Sound L) : Ends (ends L) := fun p hp => by
  obtain ⟨e, he, rfl⟩ := List.mem_map.1 hp
  obtain ⟨i, hi, rfl⟩ := List.getElem_of_mem he
  have := (ho i hi).2.2
  exact ⟨⟨this.1, this.2.1⟩, this.2.2⟩
/-- What Reach answers. -/
def rchL (v : Int) (L : List RE) : List Int := picked (rounds v (ends L) 4) 4
theorem jx_reach (h : JX w x rp L O) (ho : Sound L) (hl : L.length ≤ 1000) (v : Int) :
    Calls Try.prog 39 #[.pointer (some ⟨rp, 0, none⟩), .int .i64 v] x fun e x' => ∃ A c, e = .returned (.slice A (rchL v L).length c) ∧ x'.ownsRow x.heap.size 3 1 (.slice A (rchL v L).length c) (rchL v L).length ((rchL v L).map (Value.int .i64)) ∧ Below x.heap.size x x' := by
  obtain ⟨S, F, A, hs, gs, Y, h1, _⟩ := h.ex
  refine (reach_any rp v (ends L) x h1.rd (by simpa [Go.Proofs.Ytlaakcgipecldaa.ends] using hl) (fun p hp => by have := ho.ends p hp; omega)).mono ?_
  rintro e x' ⟨u, k, rfl, hk, hr, hb⟩
  have hs2 := reach_same (Go.Proofs.Ytlaakcgipecldaa.ends L) v ho.ends k hk
  have hlen : (bfs (Go.Proofs.Ytlaakcgipecldaa.ends L) v k).length = (rchL v L).length := by
    have := congrArg List.length hs2
    rw [risen_length] at this
    exact this
  rw [hs2, hlen] at hr
  obtain ⟨A2, c2, rfl⟩ := row_form2 hr
  exact ⟨A2, c2, rfl, hr, hb⟩
end
end Go.Proofs.Ytlaakcgipecldaa
