/- A slice that came in is no longer than the form's reach. -/
import Derived.Test.YtogdpkeojccpcaaArgs
import Derived.SizedLaws
namespace Go.Proofs.Ytogdpkeojccpcaa
set_option linter.all false
open Go.RowKit Go.ChangeShapes Go.WideShapes Go.ChangeAt Go.Deep
theorem len_sized {H : Type} {enc : TypeId × Value → H} {P : Program} {w : World} {base : Nat} {spare : Nat → Bool} {held : Bool} {t e : TypeId} {A : Option Addr} {len cap : Nat} {d : DataW H} {p : List MemPlace} (ht : P.underlying t = some (.slice e)) (h : DataW.Trod enc P w base spare held t (.slice A len cap) d p) :
    len = 0 ∨ ∃ es sp, d = .slice es sp ∧ es.length = len := by
  obtain ⟨fuel, hf⟩ := h
  rcases open_slice ht hf with ⟨hcs, _⟩ | ⟨a, len', cap', m, k, D, Pl, hcs, hba, hle, hm, hmm, hx, _⟩
  · simp [Value.cells] at hcs
    exact Or.inl hcs.2.1
  · simp [Value.cells] at hcs
    obtain ⟨rfl, rfl, rfl⟩ := hcs
    simp only [Prod.mk.injEq] at hx
    exact Or.inr ⟨_, _, hx.1, by simp⟩
theorem sized_len {H : Type} {P : Program} {ts : List TypeId} {ds : List (DataW H)} (h : (DataW.weightsEach P ts ds).all (· ≤ reachBytes) = true) {j : Nat} {t e : TypeId} {n : Nat} {d : DataW H} (ht : ts[j]? = some t) (hd : ds[j]? = some d) (hu : P.underlying t = some (.slice e)) (hl : n = 0 ∨ ∃ es sp, d = .slice es sp ∧ es.length = n) :
    n * P.bytesOf e ≤ 140737488355328 := by
  rcases hl with rfl | ⟨es, sp, rfl, hl⟩
  · omega
  · have h1 := sized_slice h ht hd hu
    have h2 := reachBytes_lt
    rw [hl] at h1
    have h3 : n * P.bytesOf e ≤ (n + sp.length) * P.bytesOf e := Nat.mul_le_mul_right _ (by omega)
    omega
end Go.Proofs.Ytogdpkeojccpcaa
