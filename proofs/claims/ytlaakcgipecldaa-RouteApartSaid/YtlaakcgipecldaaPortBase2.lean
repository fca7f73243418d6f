/- Contracts of the boxes of package port: get of a queue. -/
import Derived.Test.YtlaakcgipecldaaPortBase
namespace Go.Proofs.Ytlaakcgipecldaa
set_option linter.all false
open Go.RowKit

set_option maxRecDepth 100000 in
set_option maxHeartbeats 2000000 in
theorem qget_any {w : World} {F : Nat → Prop} {gq : Nat} {v : Value} {L : List ByteArray} {d : Int} {s : ByteArray} (t : Value) (h : Blk w gq 73 #[v, .int .i64 d]) (hq : QRow w F v (s :: L)) (hl : L.length ≤ 4) :
    Calls Try.prog 86 #[.pointer (some ⟨gq, 0, none⟩), t] w fun r w' =>
      r = .returned (.tuple #[.string s, .bool true]) ∧ (∃ v', Blk w' gq 73 #[v', .int .i64 d] ∧ QRow w' F v' L) ∧ Upd (· = gq) w w' := by
  rcases hq with ⟨_, h2⟩ | ⟨g, off, cap, cur, h1, h2, h3, h4, h5, h6⟩
  · cases h2
  · subst h1
    have c0 := h.cell 0
    have f0 := h.frozen 0
    simp at c0
    have H := Lib.hid h
    have hne : gq ≠ g := h.ne_ h3 (by decide)
    have e0 : w.cell? ⟨g, off, none⟩ = some (.string s) := by rw [h3.cell off]; exact h6 0 s rfl
    have H6 := Lib.hid h6
    have H3 := Lib.hid h3
    have hc1 : (1 : Int) ≤ cap := by simp at h4; omega
    have hc2 : 1 ≤ cap := by simp at h4; omega
    have hlc : L.length + 1 ≤ cap := by simpa using h4
    have hh : (1 : Int) ≤ (L.length : Int) + 1 := by omega
    have hh2 : (0 : Int) < (L.length : Int) + 1 := by omega
    clear h h6 h3 h4
    go_enter Try.func86, Try.ntmps86
    go_wp2_with fail
    go_region
    go_wp2_with fail
    · go_ret2
      have hL : L = [] := List.eq_nil_of_length_eq_zero (by omega)
      subst hL
      refine ⟨rfl, ⟨.slice (some ⟨g, off, none⟩) 0 0, ?_, Or.inr ⟨g, off, 0, cur, rfl, h2, (H3.out.far (fun e => hne e.symm) _).drew, by simp, by omega, fun i x hi => by simp at hi⟩⟩, (upd_sg (Upd.refl _ _) _).drew⟩
      simpa using (H.out.set_ 0 (.slice (some ⟨g, off, none⟩) 0 0)).drew
    · go_ret2
      refine ⟨rfl, ⟨.slice (some ⟨g, off + 1, none⟩) L.length (cap - 1), ?_, Or.inr ⟨g, off + 1, cap - 1, cur, rfl, h2, (H3.out.far (fun e => hne e.symm) _).drew, by omega, by omega, fun i x hi => ?_⟩⟩, (upd_sg (Upd.refl _ _) _).drew⟩
      · simpa using (H.out.set_ 0 (.slice (some ⟨g, off + 1, none⟩) L.length (cap - 1))).drew
      · have := H6.out (i + 1) x (by simpa using hi)
        rw [show off + 1 + i = off + (i + 1) from by omega]
        exact this
end Go.Proofs.Ytlaakcgipecldaa
