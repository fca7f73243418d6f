/- How the arguments of a law are opened: the cells behind a slice, and of a struct or an array by value, each by its leaf: a number, a bool, a string, or whatever. -/
import Derived.Test.YtlaakcgipecldaaBase
import Derived.ProofKit
import Derived.OpenShut
import Derived.ShutString
import Derived.ChangeOld
import Derived.Deep.Slices
namespace Go.Proofs.Ytlaakcgipecldaa
set_option linter.all false
open Go.RowKit Go.ChangeShapes Go.WideShapes Go.ChangeAt Go.Deep

inductive Leaf where
  | int (k : IntKind)
  | bool
  | str
  | any

def Leaf.fits : Leaf → Value → Prop
  | .int k, v => ∃ n, v = .int k n ∧ (Lit.int k n).wf = true
  | .bool, v => ∃ b, v = .bool b
  | .str, v => ∃ s, v = .string s ∧ s.size ≤ maxLen
  | .any, v => ∃ A len cap, v = .slice A len cap

def leavesFields (P : Program) (rec : TypeId → Option (List Leaf)) : List Field → Nat → Option (List Leaf)
  | [], _ => some []
  | f :: fs, off =>
    if f.offset = off then
      match rec f.type with
      | some a => if a.length = P.cellsOf f.type then (leavesFields P rec fs (off + a.length)).map (a ++ ·) else none
      | none => none
    else none

def leaves (P : Program) : Nat → TypeId → Option (List Leaf)
  | 0, _ => none
  | n + 1, t =>
    match P.underlying t with
    | some (.int k) => some [.int k]
    | some .bool => some [.bool]
    | some .string => some [.str]
    | some (.struct fs) => leavesFields P (leaves P n) fs.toList 0
    | some (.array k e) =>
      match leaves P n e with
      | some a => if a.length = P.cellsOf e then some (List.replicate k a).flatten else none
      | none => none
    | some (.slice _) => some [.any]
    | _ => none

def Fits (ls : List Leaf) (cs : List Value) : Prop := ∀ (j : Nat) (l : Leaf), ls[j]? = some l → ∃ v, cs[j]? = some v ∧ l.fits v

section
variable {H : Type} {enc : TypeId × Value → H} {P : Program} {w : World} {base : Nat} {spare : Nat → Bool} {held : Bool}

theorem Fits.nil (cs : List Value) : Fits [] cs := fun j l h => by simp at h
theorem Fits.one {l : Leaf} {v : Value} {cs : List Value} (h : l.fits v) : Fits [l] (v :: cs) := fun j l' h' => by
  match j with
  | 0 => simp at h'; subst h'; exact ⟨v, rfl, h⟩
  | j + 1 => simp at h'
/-- Two parts, one behind the other. -/
theorem Fits.app {a b : List Leaf} {cs : List Value} {off : Nat} (ha : Fits a ((cs.drop off).take a.length)) (hb : Fits b (cs.drop (off + a.length))) : Fits (a ++ b) (cs.drop off) := by
  intro j l h
  by_cases hj : j < a.length
  · rw [List.getElem?_append_left hj] at h
    obtain ⟨v, hv, hf⟩ := ha j l h
    rw [List.getElem?_take, if_pos hj] at hv
    exact ⟨v, hv, hf⟩
  · rw [List.getElem?_append_right (by omega)] at h
    obtain ⟨v, hv, hf⟩ := hb _ l h
    refine ⟨v, ?_, hf⟩
    rw [List.getElem?_drop] at hv ⊢
    rw [← hv]
    congr 1
    omega

theorem fits_fields {rec : TypeId → Option (List Leaf)} {cs : List Value} (hrec : ∀ t ls (cs' : List Value) x m, rec t = some ls → DataW.trod enc P w base spare held m t cs' = some x → Fits ls cs') :
    ∀ (fs : List Field) (off : Nat) (ls : List Leaf), leavesFields P rec fs off = some ls →
      (∀ (i : Nat) (f : Field), fs[i]? = some f → ∃ x m, DataW.trod enc P w base spare held m f.type ((cs.drop f.offset).take (P.cellsOf f.type)) = some x) → Fits ls (cs.drop off)
  | [], off, ls, h, _ => by simp [leavesFields] at h; subst h; exact Fits.nil _
  | f :: fs, off, ls, h, hx => by
    unfold leavesFields at h
    split at h
    · rename_i ho
      split at h
      · rename_i a ha
        split at h
        · rename_i hl
          cases hb : leavesFields P rec fs (off + a.length) with
          | none => simp [hb] at h
          | some b =>
            simp [hb] at h
            subst h
            obtain ⟨x, m, h0⟩ := hx 0 f rfl
            have h1 := hrec _ _ _ _ _ ha h0
            rw [ho, ← hl] at h1
            exact Fits.app h1 (fits_fields hrec fs _ b hb fun i g hg => hx (i + 1) g (by simpa using hg))
        · cases h
      · cases h
    · cases h

theorem fits_rows {a : List Leaf} {cs : List Value} : ∀ (k off : Nat), (∀ i, i < k → Fits a ((cs.drop (off + i * a.length)).take a.length)) → Fits (List.replicate k a).flatten (cs.drop off)
  | 0, _, _ => by simpa using Fits.nil _
  | k + 1, off, h => by
    rw [List.replicate_succ, List.flatten_cons]
    refine Fits.app (by simpa using h 0 (by omega)) (fits_rows k _ fun i hi => ?_)
    have := h (i + 1) (by omega)
    rwa [Nat.succ_mul, show off + (i * a.length + a.length) = off + a.length + i * a.length from by omega] at this

theorem fits_of : ∀ (n : Nat) (t : TypeId) (ls : List Leaf) (cs : List Value) (x : DataW H × List MemPlace) (m : Nat), leaves P n t = some ls →
    DataW.trod enc P w base spare held m t cs = some x → Fits ls cs
  | 0, _, _, _, _, _, h, _ => by simp [leaves] at h
  | n + 1, t, ls, cs, x, m, h, hx => by
    unfold leaves at h
    split at h
    · rename_i k hk
      cases h
      obtain ⟨z, rfl, _, hw⟩ := DataW.trod_int hk hx
      exact Fits.one ⟨z, rfl, hw⟩
    · rename_i hk
      cases h
      obtain ⟨b, rfl, _⟩ := DataW.trod_bool hk hx
      exact Fits.one ⟨b, rfl⟩
    · rename_i hk
      cases h
      obtain ⟨s, rfl, _, hw⟩ := DataW.trod_string hk hx
      exact Fits.one ⟨s, rfl, hw⟩
    · rename_i fs hk
      obtain ⟨xs, m', _, _, hl, hn, hf⟩ := DataW.trod_struct hk hx
      have := fits_fields (cs := cs) (fun t ls cs' x m h1 h2 => fits_of n t ls cs' x m h1 h2) fs.toList 0 ls h fun i f hi => by
        have hi' : fs[i]? = some f := by simpa using hi
        have hlt : i < xs.length := by
          rw [hn]
          rcases Nat.lt_or_ge i fs.size with h3 | h3
          · exact h3
          · rw [Array.getElem?_eq_none h3] at hi'; cases hi'
        exact ⟨xs[i], m', by rw [hf i f hi', List.getElem?_eq_getElem hlt]⟩
      simpa using this
    · rename_i k e hk
      split at h
      · rename_i a ha
        split at h
        · rename_i hl
          cases h
          obtain ⟨xs, m', _, _, hcl, hn, hf⟩ := DataW.trod_array hk hx
          have := fits_rows (a := a) (cs := cs) k 0 fun i hi => by
            have h3 := hf i hi
            rw [List.getElem?_eq_getElem (by omega)] at h3
            have := fits_of n e a _ _ _ ha h3
            rw [hl]
            simpa using this
          simpa using this
        · cases h
      · cases h
    · cases h
      rcases DataW.trod_slice (by assumption) hx with ⟨rfl, _⟩ | ⟨a, len, cap, elems, rest, n, _, rfl, _⟩
      · exact Fits.one ⟨_, _, _, rfl⟩
      · exact Fits.one ⟨_, _, _, rfl⟩
    · cases h

theorem cell_lt {w : World} {a : Addr} {v : Value} (h : w.cell? a = some v) : a.block < w.heap.size := by
  rcases Nat.lt_or_ge a.block w.heap.size with h' | h'
  · exact h'
  · simp [World.cell?, Array.getElem?_eq_none h'] at h

/-- What a law is told of a slice that came in: Z i j is what its i-th element's j-th cell holds. -/
def Rd (w : World) (A : Option Addr) (n : Nat) (ls : List Leaf) (Z : Nat → Nat → Value) : Prop :=
  ∀ i, i < n → ∃ b off, A = some ⟨b, off, none⟩ ∧ b < w.heap.size ∧ ∀ (j : Nat) (l : Leaf), ls[j]? = some l → w.cell? ⟨b, off + (i * ls.length + j), none⟩ = some (Z i j) ∧ l.fits (Z i j)

theorem Rd.keep {w w' : World} {A : Option Addr} {n : Nat} {ls : List Leaf} {Z : Nat → Nat → Value} (h : Rd w A n ls Z) (hb : Below w.heap.size w w') : Rd w' A n ls Z := fun i hi => by
  obtain ⟨b, off, hA, hlt, hc⟩ := h i hi
  refine ⟨b, off, hA, Nat.lt_of_lt_of_le hlt hb.size, fun j l hj => ⟨?_, (hc j l hj).2⟩⟩
  rw [hb.cell hlt]
  exact (hc j l hj).1

theorem open_rd {t e : TypeId} {n : Nat} {ls : List Leaf} {v : Value} {d : DataW H} {p : List MemPlace} {r : Reach} {b0 : Nat} (ht : P.underlying t = some (.slice e)) (hl : leaves P n e = some ls) (hc : P.cellsOf e = ls.length)
    (hp : 0 < ls.length) (hv : Value.okWide P w r b0 t v) (h : DataW.Trod enc P w base spare held t v d p) :
    ∃ A len cap Z, v = .slice A len cap ∧ len ≤ maxLen ∧ Rd w A len ls Z := by
  obtain ⟨A, len, cap, rfl⟩ := okWide_slice ht hv
  obtain ⟨fuel, hf⟩ := h
  rcases open_slice ht hf with ⟨hcs, _⟩ | ⟨a, len', cap', m, k, D, Pl, hcs, hba, hle, hm, hmm, _, hx⟩
  · simp [Value.cells] at hcs
    obtain ⟨rfl, rfl, rfl⟩ := hcs
    exact ⟨none, 0, 0, fun _ _ => .bool false, rfl, by simp [maxLen], fun i hi => absurd hi (by omega)⟩
  · simp [Value.cells] at hcs
    obtain ⟨rfl, rfl, rfl⟩ := hcs
    refine ⟨some a, len, cap, fun i j => (w.cell? (a.add (i * ls.length + j))).getD (.bool false), rfl, by omega, fun i hi => ?_⟩
    have him : i < m := by rw [hmm]; split <;> omega
    obtain ⟨cs', h1, h2⟩ := hx i him
    have hfit := fits_of n e ls cs' _ _ hl h2
    obtain ⟨_, hlen, hcell⟩ := World.cells?_some h1
    have hspot : a.spot = none := by
      obtain ⟨cs0, g1, g2⟩ := hx 0 (by omega)
      obtain ⟨v, hv0, _⟩ := fits_of n e ls cs0 _ _ hl g2 0 (ls[0]'hp) (List.getElem?_eq_getElem hp)
      have h0 := (World.cells?_some g1).2.2 0 (by omega)
      rw [hv0] at h0
      simpa [Addr.add] using World.cell?_spot h0
    obtain ⟨b, off, sp⟩ := a
    simp at hspot
    subst hspot
    have hadd : ∀ o q, (⟨b, o, none⟩ : Addr).add q = ⟨b, o + q, none⟩ := fun o q => by
      unfold Addr.add; split <;> simp_all
    have hcell' : ∀ (j : Nat) (l : Leaf), ls[j]? = some l → ∃ v, w.cell? ⟨b, off + (i * ls.length + j), none⟩ = some v ∧ l.fits v := fun j l hj => by
      obtain ⟨v, hv0, hfv⟩ := hfit j l hj
      have hjl : j < ls.length := by
        rcases Nat.lt_or_ge j ls.length with h3 | h3
        · exact h3
        · rw [List.getElem?_eq_none h3] at hj; cases hj
      have h0 := hcell j (by omega)
      rw [hv0, hadd, hadd, hc] at h0
      refine ⟨v, ?_, hfv⟩
      rw [← h0]; congr 2; show off + _ = _; omega
    refine ⟨b, off, rfl, ?_, fun j l hj => ?_⟩
    · obtain ⟨v, hv0, _⟩ := hcell' 0 (ls[0]'hp) (List.getElem?_eq_getElem hp)
      exact cell_lt hv0
    · obtain ⟨v, hv0, hfv⟩ := hcell' j l hj
      simp only [hadd]
      rw [hv0]
      exact ⟨rfl, hfv⟩

theorem wf_bounds {n : Int} (h : (Lit.int .i64 n).wf = true) : -9223372036854775808 ≤ n ∧ n ≤ 9223372036854775807 := bounds_i64 h
theorem okWide_array' {k : Nat} {e t : TypeId} {r : Reach} {b0 : Nat} {v : Value} (ht : P.underlying t = some (.array k e)) (h : Value.okWide P w r b0 t v) : ∃ cs, v = .agg cs ∧ cs.size = P.cellsOf t := by
  simp only [Value.okWide, ht] at h
  obtain ⟨cs, h1, h2, _⟩ := h
  exact ⟨cs, h1, h2⟩
/-- A struct or an array by value: its cells. -/
theorem open_val {t : TypeId} {n : Nat} {ls : List Leaf} {v : Value} {d : DataW H} {p : List MemPlace} (hl : leaves P n t = some ls) (h : DataW.Trod enc P w base spare held t v d p) : Fits ls v.cells.toList := by
  obtain ⟨fuel, hf⟩ := h
  exact fits_of n t ls _ _ _ hl hf
end
end Go.Proofs.Ytlaakcgipecldaa
