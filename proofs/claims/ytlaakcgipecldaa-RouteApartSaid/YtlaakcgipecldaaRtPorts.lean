/- Ports in cells: out of an argument, out of a row of one's own. No condition. -/
import Derived.Test.YtlaakcgipecldaaRtStep
namespace Go.Proofs.Ytlaakcgipecldaa
set_option linter.all false
open Go.RowKit

def pc (p : PV) : List Value := [.int .i64 p.k, .int .i64 p.f, .int .i64 p.t, .int .i64 p.s, .int .i64 p.d, .int .i64 p.a]
def pcells (Ps : List PV) : List Value := Ps.flatMap pc
theorem pcells_length (Ps : List PV) : (pcells Ps).length = Ps.length * 6 := by
  induction Ps with
  | nil => rfl
  | cons p Ps ih => simp only [pcells, List.flatMap_cons, List.length_append] at ih ⊢; rw [ih]; simp [pc]; omega
theorem pcells_get : ∀ (Ps : List PV) (i r : Nat) (hi : i < Ps.length), r < 6 → (pcells Ps)[i * 6 + r]? = (pc Ps[i])[r]?
  | p :: Ps, 0, r, _, hr => by
    simp only [pcells, List.flatMap_cons]
    rw [List.getElem?_append_left (by simp [pc]; omega)]
    simp
  | p :: Ps, i + 1, r, hi, hr => by
    have ih := pcells_get Ps i r (by simpa using hi) hr
    simp only [pcells, List.flatMap_cons] at ih ⊢
    rw [List.getElem?_append_right (by simp [pc]; omega)]
    rw [show (i + 1) * 6 + r - (pc p).length = i * 6 + r by simp [pc]; omega, ih]
    rfl
theorem pcells_one (Ps : List PV) : ∀ u ∈ pcells Ps, u.oneCell' = true := fun u hu => by
  obtain ⟨p, _, hp⟩ := List.mem_flatMap.1 hu
  simp only [pc, List.mem_cons, List.not_mem_nil, or_false] at hp
  rcases hp with rfl | rfl | rfl | rfl | rfl | rfl <;> rfl

def pLeaves : List Leaf := [.int .i64, .int .i64, .int .i64, .int .i64, .int .i64, .int .i64]
theorem prd_of_rd {w : World} {A : Option Addr} {n : Nat} {Z : Nat → Nat → Value} (h : Rd w A n pLeaves Z) (m : Nat) (hm : m ≤ n) : ∃ Ps : List PV, Ps.length = m ∧ PRd w A Ps := by
  refine ⟨(List.range m).map fun i => ⟨intOf (Z i 0), intOf (Z i 1), intOf (Z i 2), intOf (Z i 3), intOf (Z i 4), intOf (Z i 5)⟩, by simp, fun i hi => ?_⟩
  have hi' : i < m := by simpa using hi
  obtain ⟨b, o, hA, hl, hc⟩ := h i (by omega)
  refine ⟨b, o, hA, hl, ?_⟩
  have key : ∀ (j : Nat), j < 6 → w.cell? ⟨b, o + i * 6 + j, none⟩ = some (.int .i64 (intOf (Z i j))) := fun j hj => by
    obtain ⟨h1, z, hz, _⟩ := hc j (.int .i64) (by
      have : j = 0 ∨ j = 1 ∨ j = 2 ∨ j = 3 ∨ j = 4 ∨ j = 5 := by omega
      rcases this with rfl | rfl | rfl | rfl | rfl | rfl <;> rfl)
    rw [show o + i * 6 + j = o + (i * pLeaves.length + j) by show o + i * 6 + j = o + (i * 6 + j); omega, h1, hz]
    rfl
  simp only [List.getElem_map, List.getElem_range]
  exact ⟨by simpa using key 0 (by omega), key 1 (by omega), key 2 (by omega), key 3 (by omega), key 4 (by omega), key 5 (by omega)⟩
theorem addr_add (b o j : Nat) : (⟨b, o, none⟩ : Addr).add j = ⟨b, o + j, none⟩ := by unfold Addr.add; split <;> simp_all
theorem news_of_prd {w : World} {b o : Nat} {Ps : List PV} (h : PRd w (some ⟨b, o, none⟩) Ps) : ∀ j u, (pcells Ps)[j]? = some u → w.cell? ((⟨b, o, none⟩ : Addr).add j) = some u := fun j u hu => by
  have hj : j < Ps.length * 6 := by
    have := (List.getElem?_eq_some_iff.1 hu).1
    rwa [pcells_length] at this
  have hi : j / 6 < Ps.length := by omega
  have hr : j % 6 < 6 := Nat.mod_lt _ (by decide)
  have he : j = j / 6 * 6 + j % 6 := by omega
  rw [he, pcells_get Ps _ _ hi hr] at hu
  obtain ⟨b', o', hA, _, h0, h1, h2, h3, h4, h5⟩ := h _ hi
  cases hA
  rw [addr_add, he]
  have hcase : j % 6 = 0 ∨ j % 6 = 1 ∨ j % 6 = 2 ∨ j % 6 = 3 ∨ j % 6 = 4 ∨ j % 6 = 5 := by omega
  rcases hcase with e | e | e | e | e | e <;> rw [e] at hu ⊢ <;> simp only [pc, List.getElem?_cons_zero, List.getElem?_cons_succ] at hu <;> rw [← hu, ← Nat.add_assoc]
  · exact h0
  · exact h1
  · exact h2
  · exact h3
  · exact h4
  · exact h5
/-- The row still holds the ports from i on. -/
structure IR (w : World) (g : Nat) (Ps : List PV) (i : Nat) (cur : Array Value) : Prop where
  b : Blk w g 30 cur
  sz : Ps.length * 6 ≤ cur.size
  at_ : ∀ j (h : j < Ps.length), i ≤ j → ∀ r, r < 6 → cur[j * 6 + r]? = (pc Ps[j])[r]?
theorem ir_of_own {w : World} {B g n c : Nat} {Ps : List PV} (hn : n = Ps.length) (h : w.ownsRow B 30 6 (.slice (some ⟨g, 0, none⟩) n c) n (pcells Ps)) : B ≤ g ∧ ∃ cur, IR w g Ps 0 cur := by
  rcases h.2 with ⟨h1, _⟩ | ⟨g', cap, cur, hv, hb, hg, h1, h2, h3, h4⟩
  · cases h1
  · cases hv
    refine ⟨hb, cur, hg, by omega, fun j hj _ r hr => ?_⟩
    rw [← pcells_get Ps j r hj hr, ← h4, List.getElem?_take_of_lt (by omega), Array.getElem?_toList]
theorem IR.prd {w : World} {g : Nat} {Ps : List PV} {cur : Array Value} (h : IR w g Ps 0 cur) : PRd w (some ⟨g, 0, none⟩) Ps := fun i hi => by
  refine ⟨g, 0, rfl, h.b.lt, ?_⟩
  have key : ∀ r, r < 6 → w.cell? ⟨g, 0 + i * 6 + r, none⟩ = (pc Ps[i])[r]? := fun r hr => by
    rw [h.b.cell, Nat.zero_add, h.at_ i hi (Nat.zero_le _) r hr]
  exact ⟨key 0 (by omega), key 1 (by omega), key 2 (by omega), key 3 (by omega), key 4 (by omega), key 5 (by omega)⟩
end Go.Proofs.Ytlaakcgipecldaa
