/- Package rank: lay. -/
import Derived.Test.YtbfbahedbfjcoaaRank2
namespace Go.Proofs.Ytbfbahedbfjcoaa
set_option linter.all false
open Go.RowKit

/-- A heap of n ids. -/
structure HpP (w : World) (h gl n cap : Nat) (I K Pl : Nat → Int) : Prop where
  hb : Blk w h 63 (hpA (.slice (some ⟨gl, 0, none⟩) n cap) Pl)
  row : ∃ cur, Blk w gl 69 cur ∧ (∀ i, i < n → cur[i * 2]? = some (.int .i64 (I i)) ∧ cur[i * 2 + 1]? = some (.int .i64 (K i))) ∧ cur.size = cap * 2
  hcap : n ≤ cap ∧ cap ≤ maxLen

theorem HpP.cells {w : World} {h gl n cap : Nat} {I K Pl : Nat → Int} (hp : HpP w h gl n cap I K Pl) {i : Nat} (hi : i < n) : w.cell? ⟨gl, i * 2, none⟩ = some (.int .i64 (I i)) ∧ w.cell? ⟨gl, i * 2 + 1, none⟩ = some (.int .i64 (K i)) := by
  obtain ⟨cur, hb, hc, _⟩ := hp.row
  exact ⟨by rw [hb.cell]; exact (hc i hi).1, by rw [hb.cell]; exact (hc i hi).2⟩
theorem HpP.frozen {w : World} {h gl n cap : Nat} {I K Pl : Nat → Int} (hp : HpP w h gl n cap I K Pl) (j : Nat) : w.frozen? ⟨gl, j, none⟩ = false := by
  obtain ⟨cur, hb, hc⟩ := hp.row
  exact hb.frozen j
theorem HpP.ne {w : World} {h gl n cap : Nat} {I K Pl : Nat → Int} (hp : HpP w h gl n cap I K Pl) : h ≠ gl := by
  obtain ⟨cur, hb, hc⟩ := hp.row
  exact hp.hb.ne_ hb (by decide)
theorem HpP.alloc {w : World} {h gl n cap : Nat} {I K Pl : Nat → Int} (hp : HpP w h gl n cap I K Pl) (o : Obj) : HpP (w.alloc o) h gl n cap I K Pl := by
  obtain ⟨cur, hb, hc⟩ := hp.row
  exact ⟨hp.hb.alloc o, ⟨cur, hb.alloc o, hc⟩, hp.hcap⟩
theorem HpP.drew {w : World} {h gl n cap : Nat} {I K Pl : Nat → Int} (hp : HpP w h gl n cap I K Pl) : HpP w.drew h gl n cap I K Pl := by
  obtain ⟨cur, hb, hc⟩ := hp.row
  exact ⟨hp.hb.drew, ⟨cur, hb.drew, hc⟩, hp.hcap⟩
theorem HpP.setX {w : World} {h gl n cap : Nat} {I K Pl : Nat → Int} (hp : HpP w h gl n cap I K Pl) (i : Nat) (x k : Int) : HpP ((w.setCell ⟨gl, i * 2, none⟩ (.int .i64 x)).setCell ⟨gl, i * 2 + 1, none⟩ (.int .i64 k)) h gl n cap (updP I i x) (updP K i k) Pl := by
  have hne := hp.ne
  obtain ⟨cur, hb, hc, hsz⟩ := hp.row
  refine ⟨(hp.hb.far (p := ⟨gl, i * 2, none⟩) hne _).far (p := ⟨gl, i * 2 + 1, none⟩) hne _, ⟨_, (hb.set_ _ _).set_ _ _, fun j hj => ?_, by simpa using hsz⟩, hp.hcap⟩
  obtain ⟨h1, h2⟩ := hc j hj
  have s1 : j * 2 < cur.size := by
    rcases Nat.lt_or_ge (j * 2) cur.size with h | h
    · exact h
    · rw [Array.getElem?_eq_none h] at h1; cases h1
  have s2 : j * 2 + 1 < cur.size := by
    rcases Nat.lt_or_ge (j * 2 + 1) cur.size with h | h
    · exact h
    · rw [Array.getElem?_eq_none h] at h2; cases h2
  unfold updP
  constructor
  · rw [Array.getElem?_setIfInBounds, if_neg (by omega), Array.getElem?_setIfInBounds]
    by_cases hij : j = i
    · subst hij; rw [if_pos rfl, if_pos s1, if_pos rfl]
    · rw [if_neg (by omega), if_neg hij]; exact h1
  · rw [Array.getElem?_setIfInBounds]
    by_cases hij : j = i
    · subst hij; rw [if_pos rfl, if_pos (by rw [Array.size_setIfInBounds]; exact s2), if_pos rfl]
    · rw [if_neg (by omega), if_neg hij, Array.getElem?_setIfInBounds, if_neg (by omega)]; exact h2
theorem HpP.setPl {w : World} {h gl n cap : Nat} {I K Pl : Nat → Int} (hp : HpP w h gl n cap I K Pl) (i : Nat) (x : Int) : HpP (w.setCell ⟨h, 1 + i, none⟩ (.int .i64 x)) h gl n cap I K (updP Pl i x) := by
  have hne := hp.ne
  obtain ⟨cur, hb, hc⟩ := hp.row
  exact ⟨by rw [← hpA_set]; exact hp.hb.set_ _ _, ⟨cur, hb.far (p := ⟨h, 1 + i, none⟩) (fun e => hne e.symm) _, hc⟩, hp.hcap⟩
end Go.Proofs.Ytbfbahedbfjcoaa
