/- Bells beside other memory. -/
import Derived.Test.YtbfbahedbfjcoaaBellOps2
namespace Go.Proofs.Ytbfbahedbfjcoaa
set_option linter.all false
open Go.RowKit
attribute [local go_sem ↓] Go.wp_at_zero Go.wp_at_succ

/-- Bells since a world; the blocks in X are none of theirs. -/
structure BJ (w0 w : World) (X : Nat → Prop) (gb : Nat) (L : BL) : Prop where
  j : ∃ F, BlJ w F gb L ∧ ∀ k, F k → w0.heap.size ≤ k ∧ ¬ X k
  b : Below w0.heap.size w0 w
/-- What a call has left as it was. -/
structure Kp (w w' : World) (X : Nat → Prop) : Prop where
  size : w.heap.size ≤ w'.heap.size
  k : ∀ k, k < w.heap.size → X k → w'.heap[k]? = w.heap[k]?
theorem Kp.blk {w w' : World} {X : Nat → Prop} (h : Kp w w' X) {g : Nat} {t : TypeId} {cs : Array Value} (hb : Blk w g t cs) (hx : X g) : Blk w' g t cs := (h.k g hb.lt hx).trans hb
theorem BJ.keep {w0 w w' : World} {X : Nat → Prop} {gb : Nat} {L : BL} (h : BJ w0 w X gb L) (hb : Below w.heap.size w w') : BJ w0 w' X gb L := by
  obtain ⟨F, h1, h2⟩ := h.j
  exact ⟨⟨F, h1.keep hb, h2⟩, h.b.trans (hb.mono h.b.size)⟩
theorem BJ.ok {w0 w : World} {X : Nat → Prop} {gb : Nat} {L : BL} (h : BJ w0 w X gb L) : OkL L := by
  obtain ⟨F, h1, _⟩ := h.j
  exact h1.ok
/-- Other memory has changed. -/
theorem BJ.upd {w0 w w' : World} {X S : Nat → Prop} {gb : Nat} {L : BL} (h : BJ w0 w X gb L) (hu : Upd S w w') (hS : ∀ k, S k → X k ∧ w0.heap.size ≤ k) : BJ w0 w' X gb L := by
  obtain ⟨F, h1, h2⟩ := h.j
  exact ⟨⟨F, h1.upd hu (fun k hk hf => (h2 k hf).2 (hS k hk).1), h2⟩, h.b.trans (hu.below h.b.size fun k hk => (hS k hk).2)⟩
theorem upd_kp {w w' : World} {F X : Nat → Prop} (hu : Upd F w w') (h : ∀ k, F k → ¬ X k) : Kp w w' X := ⟨hu.size, fun k hk hx => hu.block k hk fun hf => h k hf hx⟩
theorem barm {w0 w : World} {X : Nat → Prop} {gb : Nat} {L : BL} (h : BJ w0 w X gb L) (hX : ∀ k, X k → k < w.heap.size) (kind id at_ : Int) :
    Calls Try.prog 10 #[.pointer (some ⟨gb, 0, none⟩), .int .i64 kind, .int .i64 id, .int .i64 at_] w fun r w' => r = .returned (.int .i64 (armE kind id at_)) ∧ BJ w0 w' X gb (armL L kind id at_) ∧ Kp w w' X := by
  obtain ⟨F, h1, h2⟩ := h.j
  refine (arm_any h1 kind id at_).mono ?_
  rintro r w' ⟨rfl, hj, hu⟩
  refine ⟨rfl, ⟨⟨_, hj, fun k hk => ?_⟩, h.b.trans (hu.below h.b.size fun k hk => (h2 k hk).1)⟩, upd_kp hu fun k hk => (h2 k hk).2⟩
  rcases hk with hk | hk
  · exact h2 k hk
  · exact ⟨Nat.le_trans h.b.size hk.1, fun hx => by have := hX k hx; omega⟩
theorem bcancel {w0 w : World} {X : Nat → Prop} {gb : Nat} {L : BL} (h : BJ w0 w X gb L) (kind id : Int) (hm : MayB kind id) :
    Calls Try.prog 11 #[.pointer (some ⟨gb, 0, none⟩), .int .i64 kind, .int .i64 id] w fun r w' => r = .returned (.bool (canE L kind id)) ∧ BJ w0 w' X gb (canL L kind id) ∧ Kp w w' X := by
  obtain ⟨F, h1, h2⟩ := h.j
  refine (cancel_may h1 kind id hm).mono ?_
  rintro r w' ⟨rfl, hj, hu⟩
  exact ⟨rfl, ⟨⟨F, hj, h2⟩, h.b.trans (hu.below h.b.size fun k hk => (h2 k hk).1)⟩, upd_kp hu fun k hk => (h2 k hk).2⟩
theorem bnext {w0 w : World} {X : Nat → Prop} {gb : Nat} {L : BL} (h : BJ w0 w X gb L) :
    Calls Try.prog 15 #[.pointer (some ⟨gb, 0, none⟩)] w fun r w' => r = .returned (.tuple #[.int .i64 (nxK L), .bool (nxB L)]) ∧ BJ w0 w' X gb L ∧ Below w.heap.size w w' := by
  obtain ⟨F, h1, h2⟩ := h.j
  refine (next_any h1).mono ?_
  rintro r w' ⟨rfl, hb⟩
  exact ⟨rfl, h.keep hb, hb⟩
theorem bcount {w0 w : World} {X : Nat → Prop} {gb : Nat} {L : BL} (h : BJ w0 w X gb L) :
    Calls Try.prog 14 #[.pointer (some ⟨gb, 0, none⟩)] w fun r w' => r = .returned (.int .i64 (L.length : Nat)) ∧ w = w' := by
  obtain ⟨F, h1, h2⟩ := h.j
  exact count_any h1
theorem bdue {w0 w : World} {X : Nat → Prop} {gb : Nat} {L : BL} (h : BJ w0 w X gb L) (now : Int) :
    Calls Try.prog 12 #[.pointer (some ⟨gb, 0, none⟩), .int .i64 now] w fun r w' => (∃ A c, r = .returned (.slice A (dueL now L).length c) ∧ w'.ownsRow w.heap.size 36 3 (.slice A (dueL now L).length c) (dueL now L).length (bellC (dueL now L))) ∧ BJ w0 w' X gb (restL now L) ∧ Kp w w' X := by
  obtain ⟨F, h1, h2⟩ := h.j
  refine (due_any h1 now).mono ?_
  rintro r w' ⟨⟨v, rfl, ho⟩, hj, hu⟩
  have hv : ∃ A c, v = .slice A (dueL now L).length c := by
    rcases ho.2 with ⟨h3, h4⟩ | ⟨g, cap, cur, h3, _⟩
    · exact ⟨none, 0, by rw [h3, h4]⟩
    · exact ⟨_, _, h3⟩
  obtain ⟨A, c, rfl⟩ := hv
  exact ⟨⟨A, c, rfl, ho⟩, ⟨⟨F, hj, h2⟩, h.b.trans (hu.below h.b.size fun k hk => (h2 k hk).1)⟩, upd_kp hu fun k hk => (h2 k hk).2⟩
theorem bnew (w0 w : World) (hb0 : Below w0.heap.size w0 w) : Calls Try.prog 8 #[] w fun r w' => (∃ gb, r = .returned (.pointer (some ⟨gb, 0, none⟩)) ∧ BJ w0 w' (fun _ => False) gb [] ∧ ∀ X : Nat → Prop, (∀ k, X k → w'.heap.size ≤ k) → BJ w0 w' X gb []) ∧ Below w.heap.size w w' := by
  refine (bnew_any w).mono ?_
  rintro r w' ⟨⟨gb, rfl, hj⟩, hb⟩
  exact ⟨⟨gb, rfl, ⟨⟨_, hj, fun k hk => ⟨Nat.le_trans hb0.size hk.1, fun h => h⟩⟩, hb0.trans (hb.mono hb0.size)⟩, fun X hX => ⟨⟨_, hj, fun k hk => ⟨Nat.le_trans hb0.size hk.1, fun h => by have := hX k h; omega⟩⟩, hb0.trans (hb.mono hb0.size)⟩⟩, hb⟩
/-- A row of bells that the call has built. -/
theorem bell_row {w : World} {B n c : Nat} {A : Option Addr} {D : BL} (h : w.ownsRow B 36 3 (.slice A n c) n (bellC D)) (i : Nat) (hi : i < n) : ∃ g p, A = some ⟨g, 0, none⟩ ∧ B ≤ g ∧ g < w.heap.size ∧ D[i]? = some p ∧ w.cell? ⟨g, i * 3, none⟩ = some (.int .i64 p.2) ∧ w.cell? ⟨g, i * 3 + 1, none⟩ = some (.int .i64 (p.1 / 16 : Nat)) ∧ w.cell? ⟨g, i * 3 + 2, none⟩ = some (.int .i64 (p.1 % 16 : Nat)) := by
  rcases h.2 with ⟨_, h0⟩ | ⟨g, cap, cur, hv, hB, hb, h1, h2, h3, h4⟩
  · omega
  · injection hv with hA
    have hl := h.1
    rw [bellC_len] at hl
    have hiD : i < D.length := by omega
    have key : ∀ (D : BL) (i : Nat) (p : Nat × Int), D[i]? = some p → (bellC D)[i * 3]? = some (.int .i64 p.2) ∧ (bellC D)[i * 3 + 1]? = some (.int .i64 (p.1 / 16 : Nat)) ∧ (bellC D)[i * 3 + 2]? = some (.int .i64 (p.1 % 16 : Nat)) := by
      intro D
      induction D with
      | nil => intro i p hp; simp at hp
      | cons q t ih =>
        intro i p hp
        cases i with
        | zero => simp at hp; subst hp; exact ⟨rfl, rfl, rfl⟩
        | succ i =>
          have := ih i p (by simpa using hp)
          rw [show (i + 1) * 3 = i * 3 + 3 from by omega, show i * 3 + 3 + 1 = (i * 3 + 1) + 3 from by omega, show i * 3 + 3 + 2 = (i * 3 + 2) + 3 from by omega]
          exact this
    obtain ⟨k1, k2, k3⟩ := key D i _ (List.getElem?_eq_getElem hiD)
    have hc : ∀ j, j < n * 3 → w.cell? ⟨g, j, none⟩ = (bellC D)[j]? := fun j hj => by
      rw [Blk.cell hb, ← h4, List.getElem?_take, if_pos hj, Array.getElem?_toList]
    exact ⟨g, _, hA, hB, Blk.lt hb, List.getElem?_eq_getElem hiD, (hc _ (by omega)).trans k1, (hc _ (by omega)).trans k2, (hc _ (by omega)).trans k3⟩

def NoX : Nat → Prop := fun _ => False
theorem noX {w : World} : ∀ k, NoX k → k < w.heap.size := fun k h => h.elim
def wl1 : BL := armL [] 1 3 7
def wl2 : BL := armL wl1 0 9 7
def wl3 : BL := armL wl2 2 0 5
def wl4 : BL := armL wl3 2 0 8
def wl5 : BL := restL 7 wl4
def wl6 : BL := canL wl5 2 0
theorem barm_to {w0 w : World} {X : Nat → Prop} {gb : Nat} {L : BL} (L' : BL) (E : Int) (h : BJ w0 w X gb L) (hX : ∀ k, X k → k < w.heap.size) (kind id at_ : Int) (hL : armL L kind id at_ = L') (hE : armE kind id at_ = E) :
    Calls Try.prog 10 #[.pointer (some ⟨gb, 0, none⟩), .int .i64 kind, .int .i64 id, .int .i64 at_] w fun r w' => r = .returned (.int .i64 E) ∧ BJ w0 w' X gb L' ∧ Kp w w' X := by
  subst hL hE
  exact barm h hX kind id at_
theorem bcan_to {w0 w : World} {X : Nat → Prop} {gb : Nat} {L : BL} (L' : BL) (E : Bool) (h : BJ w0 w X gb L) (kind id : Int) (hm : MayB kind id) (hL : canL L kind id = L') (hE : canE L kind id = E) :
    Calls Try.prog 11 #[.pointer (some ⟨gb, 0, none⟩), .int .i64 kind, .int .i64 id] w fun r w' => r = .returned (.bool E) ∧ BJ w0 w' X gb L' ∧ Kp w w' X := by
  subst hL hE
  exact bcancel h kind id hm
end Go.Proofs.Ytbfbahedbfjcoaa
