/- Slices that the call itself has built, read again as slices that came in; small words for append. -/
import Derived.Test.YtlaakcgipecldaaArgs
import Derived.Deep.AppendLies
import Derived.Deep.RegionHeld3
import Derived.Deep.DrawnRows
import Derived.Laws.OwnMore
namespace Go.Proofs.Ytlaakcgipecldaa
set_option linter.all false
open Go.RowKit

/-- The cells of n elements, each of whose cells fits its leaf. -/
def GoodC (ls : List Leaf) (n : Nat) (xs : List Value) : Prop :=
  xs.length = n * ls.length ∧ ∀ i, i < n → ∀ (j : Nat) (l : Leaf), ls[j]? = some l → l.fits (xs.getD (i * ls.length + j) (.bool false))

theorem GoodC.nil (ls : List Leaf) : GoodC ls 0 [] := ⟨by simp, fun i hi => absurd hi (by omega)⟩

theorem GoodC.snoc {ls : List Leaf} {n m : Nat} {xs ys : List Value} (h : GoodC ls n xs) (h' : GoodC ls m ys) : GoodC ls (n + m) (xs ++ ys) := by
  refine ⟨by rw [List.length_append, h.1, h'.1, Nat.add_mul], fun i hi j l hj => ?_⟩
  have hjl : j < ls.length := by
    rcases Nat.lt_or_ge j ls.length with h3 | h3
    · exact h3
    · rw [List.getElem?_eq_none h3] at hj; cases hj
  by_cases hin : i < n
  · have hlt : i * ls.length + j < xs.length := by
      rw [h.1]
      calc i * ls.length + j < i * ls.length + ls.length := by omega
        _ = (i + 1) * ls.length := by rw [Nat.succ_mul]
        _ ≤ n * ls.length := Nat.mul_le_mul_right _ hin
    have := h.2 i hin j l hj
    rw [List.getD_eq_getElem?_getD, List.getElem?_append_left hlt, ← List.getD_eq_getElem?_getD]
    exact this
  · have he : i * ls.length + j = xs.length + ((i - n) * ls.length + j) := by
      rw [h.1, Nat.sub_mul]
      have : n * ls.length ≤ i * ls.length := Nat.mul_le_mul_right _ (by omega)
      omega
    have := h'.2 (i - n) (by omega) j l hj
    rw [List.getD_eq_getElem?_getD, he, List.getElem?_append_right (by omega), Nat.add_sub_cancel_left, ← List.getD_eq_getElem?_getD]
    exact this

theorem rd_of_own {w : World} {base : Nat} {e : TypeId} {ls : List Leaf} {A : Option Addr} {n c : Nat} {xs : List Value} (h : w.ownsRow base e ls.length (.slice A n c) n xs) (hg : GoodC ls n xs) :
    Rd w A n ls (fun i j => xs.getD (i * ls.length + j) (.bool false)) := by
  intro i hi
  obtain ⟨g, cap, hv, hb, hlt⟩ := h.form (by omega)
  have hA : A = some ⟨g, 0, none⟩ := by injection hv
  subst hA
  refine ⟨g, 0, rfl, hlt, fun j l hj => ⟨?_, hg.2 i hi j l hj⟩⟩
  have hjl : j < ls.length := by
    rcases Nat.lt_or_ge j ls.length with h3 | h3
    · exact h3
    · rw [List.getElem?_eq_none h3] at hj; cases hj
  have hlt' : i * ls.length + j < xs.length := by
    rw [hg.1]
    calc i * ls.length + j < i * ls.length + ls.length := by omega
      _ = (i + 1) * ls.length := by rw [Nat.succ_mul]
      _ ≤ n * ls.length := Nat.mul_le_mul_right _ hi
  have := h.cells (g := g) rfl (i * ls.length + j) _ (List.getElem?_eq_getElem hlt')
  rw [show (⟨g, 0, none⟩ : Addr).add (i * ls.length + j) = ⟨g, 0 + (i * ls.length + j), none⟩ from by unfold Addr.add; split <;> simp_all] at this
  rw [this]
  show some _ = some (xs.getD (i * ls.length + j) (.bool false))
  rw [List.getD_eq_getElem?_getD, List.getElem?_eq_getElem hlt']
  rfl

theorem Leaf.int_ok {n : Int} (h : -9223372036854775808 ≤ n ∧ n ≤ 9223372036854775807) : (Leaf.int .i64).fits (.int .i64 n) := ⟨n, rfl, WalkArith.wf_i64 h⟩

def I64 (z : Int) : Prop := -9223372036854775808 ≤ z ∧ z ≤ 9223372036854775807
theorem all_nil {p : Int → Prop} : ∀ z, z ∈ ([] : List Int) → p z := fun z h => by cases h
theorem all_cons {p : Int → Prop} {a : Int} {l : List Int} (h : p a) (t : ∀ z, z ∈ l → p z) : ∀ z, z ∈ a :: l → p z := fun z hz => by
  cases hz with
  | head => exact h
  | tail _ hz => exact t z hz
/-- A row of numbers reads as elements all of whose cells are numbers. -/
theorem good_of_ints {ls : List Leaf} {n : Nat} {zs : List Int} (hl : ∀ (j : Nat) (l : Leaf), ls[j]? = some l → l = .int .i64) (hn : zs.length = n * ls.length) (hz : ∀ z, z ∈ zs → I64 z) : GoodC ls n (zs.map (Value.int .i64)) := by
  refine ⟨by rw [List.length_map, hn], fun i hi j l hj => ?_⟩
  have hjl : j < ls.length := by
    rcases Nat.lt_or_ge j ls.length with h3 | h3
    · exact h3
    · rw [List.getElem?_eq_none h3] at hj; cases hj
  have hlt : i * ls.length + j < zs.length := by
    rw [hn]
    calc i * ls.length + j < i * ls.length + ls.length := by omega
      _ = (i + 1) * ls.length := by rw [Nat.succ_mul]
      _ ≤ n * ls.length := Nat.mul_le_mul_right _ hi
  rw [hl j l hj, List.getD_eq_getElem?_getD, List.getElem?_map, List.getElem?_eq_getElem hlt]
  exact Leaf.int_ok (hz _ (List.getElem_mem hlt))

/-- A block's cell at an index that is a letter. -/
theorem Blk.cellAt {w : World} {g : Nat} {t : TypeId} {cs : Array Value} (h : Blk w g t cs) {i : Nat} {v : Value} (hv : cs[i]? = some v) : w.cell? ⟨g, i, none⟩ = some v := (h.cell i).trans hv
end Go.Proofs.Ytlaakcgipecldaa
