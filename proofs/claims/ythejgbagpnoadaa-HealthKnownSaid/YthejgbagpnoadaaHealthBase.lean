/- What a monitor's block holds: how it is healed, how often it was told, patience; of the program's monitor and of the document's. -/
import Derived.Test.YthejgbagpnoadaaProg
import Derived.Test.YthejgbagpnoadaaBase
import Derived.Test.YthejgbagpnoadaaBring
import Derived.RegionTactic
import Derived.BigRegion
import Derived.StillTailTactics
namespace Go.Proofs.Ythejgbagpnoadaa
set_option linter.all false
open Go.RowKit

def updF (H : Nat → Int) (k : Nat) (v : Int) : Nat → Int := fun i => if i = k then v else H i

/-- The program's monitor: made; 20 heals, 20 counts, 4 patiences. -/
def MonP (w : World) (g : Nat) (H T Q : Nat → Int) : Prop :=
  ∃ cs : Array Value, Blk w g 48 cs ∧ cs.size = 45 ∧ cs[0]? = some (.bool true) ∧ (∀ i, i < 20 → cs[1 + i]? = some (.int .i64 (H i))) ∧
    (∀ i, i < 20 → cs[21 + i]? = some (.int .i64 (T i))) ∧ (∀ i, i < 4 → cs[41 + i]? = some (.int .i64 (Q i)))

/-- The document's monitor. -/
def MonR (w : World) (g : Nat) (H T Q : Nat → Int) : Prop :=
  ∃ cs : Array Value, Blk w g 50 cs ∧ cs.size = 44 ∧ (∀ i, i < 20 → cs[i]? = some (.int .i64 (H i))) ∧
    (∀ i, i < 20 → cs[20 + i]? = some (.int .i64 (T i))) ∧ (∀ i, i < 4 → cs[40 + i]? = some (.int .i64 (Q i)))

section
variable {w w' : World} {g : Nat} {H T Q : Nat → Int} {S : Nat → Prop}

theorem get_set (cs : Array Value) (i j : Nat) (v : Value) (hi : i < cs.size) : (cs.setIfInBounds i v)[j]? = if j = i then some v else cs[j]? := by
  rw [Array.getElem?_setIfInBounds]
  by_cases h : i = j
  · subst h; simp [hi]
  · simp [h, Ne.symm h]

theorem MonP.lt (h : MonP w g H T Q) : g < w.heap.size := by obtain ⟨cs, hb, _⟩ := h; exact hb.lt
theorem MonP.upd (h : MonP w g H T Q) (hu : Upd S w w') (hg : ¬ S g) : MonP w' g H T Q := by
  obtain ⟨cs, hb, hr⟩ := h; exact ⟨cs, hb.upd hu hg, hr⟩
theorem MonP.drew (h : MonP w g H T Q) : MonP w.drew g H T Q := h
theorem MonP.drewN (h : MonP w g H T Q) (n : Nat) : MonP (w.drewN n) g H T Q := h
theorem MonP.alloc (h : MonP w g H T Q) (o : Obj) : MonP (w.alloc o) g H T Q := by obtain ⟨cs, hb, hr⟩ := h; exact ⟨cs, hb.alloc o, hr⟩
theorem MonP.far (h : MonP w g H T Q) {p : Addr} (hp : g ≠ p.block) (u : Value) : MonP (w.setCell p u) g H T Q := by obtain ⟨cs, hb, hr⟩ := h; exact ⟨cs, hb.far hp u, hr⟩
theorem MonP.made (h : MonP w g H T Q) : w.cell? ⟨g, 0, none⟩ = some (.bool true) := by obtain ⟨cs, hb, _, h0, _⟩ := h; rw [hb.cell]; exact h0
theorem MonP.cH (h : MonP w g H T Q) {i : Nat} (hi : i < 20) : w.cell? ⟨g, 1 + i, none⟩ = some (.int .i64 (H i)) := by obtain ⟨cs, hb, _, _, h0, _⟩ := h; rw [hb.cell]; exact h0 i hi
theorem MonP.cT (h : MonP w g H T Q) {i : Nat} (hi : i < 20) : w.cell? ⟨g, 21 + i, none⟩ = some (.int .i64 (T i)) := by obtain ⟨cs, hb, _, _, _, h0, _⟩ := h; rw [hb.cell]; exact h0 i hi
theorem MonP.cQ (h : MonP w g H T Q) {i : Nat} (hi : i < 4) : w.cell? ⟨g, 41 + i, none⟩ = some (.int .i64 (Q i)) := by obtain ⟨cs, hb, _, _, _, _, h0⟩ := h; rw [hb.cell]; exact h0 i hi
theorem MonP.free (h : MonP w g H T Q) (i : Nat) : w.frozen? ⟨g, i, none⟩ = false := by obtain ⟨cs, hb, _⟩ := h; exact hb.frozen i
theorem MonP.setH (h : MonP w g H T Q) {k : Nat} (hk : k < 20) (v : Int) : MonP (w.setCell ⟨g, 1 + k, none⟩ (.int .i64 v)) g (updF H k v) T Q := by
  obtain ⟨cs, hb, hs, h0, h1, h2, h3⟩ := h
  refine ⟨_, hb.set_ _ _, by simpa using hs, ?_, fun i hi => ?_, fun i hi => ?_, fun i hi => ?_⟩ <;> rw [get_set _ _ _ _ (by omega)]
  · rw [if_neg (by omega)]; exact h0
  · unfold updF
    by_cases e : i = k
    · subst e; simp
    · rw [if_neg (by omega), if_neg e]; exact h1 i hi
  · rw [if_neg (by omega)]; exact h2 i hi
  · rw [if_neg (by omega)]; exact h3 i hi
theorem MonP.setT (h : MonP w g H T Q) {k : Nat} (hk : k < 20) (v : Int) : MonP (w.setCell ⟨g, 21 + k, none⟩ (.int .i64 v)) g H (updF T k v) Q := by
  obtain ⟨cs, hb, hs, h0, h1, h2, h3⟩ := h
  refine ⟨_, hb.set_ _ _, by simpa using hs, ?_, fun i hi => ?_, fun i hi => ?_, fun i hi => ?_⟩ <;> rw [get_set _ _ _ _ (by omega)]
  · rw [if_neg (by omega)]; exact h0
  · rw [if_neg (by omega)]; exact h1 i hi
  · unfold updF
    by_cases e : i = k
    · subst e; simp
    · rw [if_neg (by omega), if_neg e]; exact h2 i hi
  · rw [if_neg (by omega)]; exact h3 i hi
theorem MonP.setQ (h : MonP w g H T Q) {k : Nat} (hk : k < 4) (v : Int) : MonP (w.setCell ⟨g, 41 + k, none⟩ (.int .i64 v)) g H T (updF Q k v) := by
  obtain ⟨cs, hb, hs, h0, h1, h2, h3⟩ := h
  refine ⟨_, hb.set_ _ _, by simpa using hs, ?_, fun i hi => ?_, fun i hi => ?_, fun i hi => ?_⟩ <;> rw [get_set _ _ _ _ (by omega)]
  · rw [if_neg (by omega)]; exact h0
  · rw [if_neg (by omega)]; exact h1 i hi
  · rw [if_neg (by omega)]; exact h2 i hi
  · unfold updF
    by_cases e : i = k
    · subst e; simp
    · rw [if_neg (by omega), if_neg e]; exact h3 i hi

theorem MonR.lt (h : MonR w g H T Q) : g < w.heap.size := by obtain ⟨cs, hb, _⟩ := h; exact hb.lt
theorem MonR.upd (h : MonR w g H T Q) (hu : Upd S w w') (hg : ¬ S g) : MonR w' g H T Q := by
  obtain ⟨cs, hb, hr⟩ := h; exact ⟨cs, hb.upd hu hg, hr⟩
theorem MonR.drew (h : MonR w g H T Q) : MonR w.drew g H T Q := h
theorem MonR.drewN (h : MonR w g H T Q) (n : Nat) : MonR (w.drewN n) g H T Q := h
theorem MonR.cH (h : MonR w g H T Q) {i : Nat} (hi : i < 20) : w.cell? ⟨g, i, none⟩ = some (.int .i64 (H i)) := by obtain ⟨cs, hb, _, h0, _⟩ := h; rw [hb.cell]; exact h0 i hi
theorem MonR.cT (h : MonR w g H T Q) {i : Nat} (hi : i < 20) : w.cell? ⟨g, 20 + i, none⟩ = some (.int .i64 (T i)) := by obtain ⟨cs, hb, _, _, h0, _⟩ := h; rw [hb.cell]; exact h0 i hi
theorem MonR.cQ (h : MonR w g H T Q) {i : Nat} (hi : i < 4) : w.cell? ⟨g, 40 + i, none⟩ = some (.int .i64 (Q i)) := by obtain ⟨cs, hb, _, _, _, h0⟩ := h; rw [hb.cell]; exact h0 i hi
theorem MonR.free (h : MonR w g H T Q) (i : Nat) : w.frozen? ⟨g, i, none⟩ = false := by obtain ⟨cs, hb, _⟩ := h; exact hb.frozen i
theorem MonR.setH (h : MonR w g H T Q) {k : Nat} (hk : k < 20) (v : Int) : MonR (w.setCell ⟨g, k, none⟩ (.int .i64 v)) g (updF H k v) T Q := by
  obtain ⟨cs, hb, hs, h1, h2, h3⟩ := h
  refine ⟨_, hb.set_ _ _, by simpa using hs, fun i hi => ?_, fun i hi => ?_, fun i hi => ?_⟩ <;> rw [get_set _ _ _ _ (by omega)]
  · unfold updF
    by_cases e : i = k
    · subst e; simp
    · rw [if_neg (by omega), if_neg e]; exact h1 i hi
  · rw [if_neg (by omega)]; exact h2 i hi
  · rw [if_neg (by omega)]; exact h3 i hi
theorem MonR.setT (h : MonR w g H T Q) {k : Nat} (hk : k < 20) (v : Int) : MonR (w.setCell ⟨g, 20 + k, none⟩ (.int .i64 v)) g H (updF T k v) Q := by
  obtain ⟨cs, hb, hs, h1, h2, h3⟩ := h
  refine ⟨_, hb.set_ _ _, by simpa using hs, fun i hi => ?_, fun i hi => ?_, fun i hi => ?_⟩ <;> rw [get_set _ _ _ _ (by omega)]
  · rw [if_neg (by omega)]; exact h1 i hi
  · unfold updF
    by_cases e : i = k
    · subst e; simp
    · rw [if_neg (by omega), if_neg e]; exact h2 i hi
  · rw [if_neg (by omega)]; exact h3 i hi
theorem MonR.setQ (h : MonR w g H T Q) {k : Nat} (hk : k < 4) (v : Int) : MonR (w.setCell ⟨g, 40 + k, none⟩ (.int .i64 v)) g H T (updF Q k v) := by
  obtain ⟨cs, hb, hs, h1, h2, h3⟩ := h
  refine ⟨_, hb.set_ _ _, by simpa using hs, fun i hi => ?_, fun i hi => ?_, fun i hi => ?_⟩ <;> rw [get_set _ _ _ _ (by omega)]
  · rw [if_neg (by omega)]; exact h1 i hi
  · rw [if_neg (by omega)]; exact h2 i hi
  · unfold updF
    by_cases e : i = k
    · subst e; simp
    · rw [if_neg (by omega), if_neg e]; exact h3 i hi
end

/-- Is there a partition, and a kind of fault? -/
def InR (part fault : Int) : Prop := 0 ≤ part ∧ part < 4 ∧ 1 ≤ fault ∧ fault ≤ 4
end Go.Proofs.Ythejgbagpnoadaa
