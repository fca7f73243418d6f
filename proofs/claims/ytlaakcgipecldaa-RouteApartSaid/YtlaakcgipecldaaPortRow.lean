/- A row of messages, one message more: the law for the walk. -/
import Derived.Test.YtlaakcgipecldaaPortSamples
namespace Go.Proofs.Ytlaakcgipecldaa
set_option linter.all false
open Go.RowKit

theorem wpList_append_qrow (w : World) {ops : Array Oper} {rest : List Oper} {o : Oper} {a : Act} {Q : Exit → Act → World → Prop} (hgd : o.guard = none) (s x : Operand)
    (ho : o.op = .call { callee := .builtin .append, args := #[s, x], argTypes := #[22, 22] })
    {F : Nat → Prop} {v : Value} {L : List ByteArray} {m : ByteArray} (hs : a.eval s = v) (hq : QRow w F v L) (hl : L.length ≤ 4) (ad : Addr) (c : Nat) (hx : a.eval x = .slice (some ad) 1 c)
    (hnews : ∀ (j : Nat) (u : Value), [Value.string m][j]? = some u → w.cell? (ad.add j) = some u)
    (hK : ∀ a' c' w', QRow w' (growF F w w') (.slice a' (L.length + 1) c') (L ++ [m]) → Upd F w w' → wpList Try.prog ops Q rest (a.put o.dst (.slice a' (L.length + 1) c')) w') : wpList Try.prog ops Q (o :: rest) a w := by
  obtain ⟨i0, hi0, hz0, hz1, hz2⟩ := info_parts infoStr
  have hb1 : L.length + 1 ≤ maxLen := by simp only [maxLen]; omega
  have hb2 : (L.length + 1) * 16 ≤ 140737488355328 := by omega
  rcases hq with ⟨h1, h2⟩ | ⟨g, off, cap, cur, h1, h2, h3, h4, h5, h6⟩
  · subst h1 h2
    refine wpList_append_lies w hgd s x 22 ho w.heap.size 9 i0 (.string ⟨#[]⟩) 1 16 Try.underlying22 hi0 hz0 hz1 hz2 (by simp [Value.cells]) (by decide) (.slice none 0 0) 0 [] hs (World.ownsRow_nil _ _ _ _) ad 1 c [.string m] hx rfl hnews (by simp [Value.oneCell']) (by decide) (by decide) (by decide) (Nat.le_refl _) _ rfl ?_
    intro g' cap' w1 hown1 hgrow hat hlt1
    refine hK _ _ w1 ?_ ?_
    · have hq := qrow_own (L := [m]) (by simpa using hown1)
      refine QRow.mono (by simpa using hq) ?_
      intro k hk
      exact Or.inr hk
    · exact ⟨hgrow.os, hgrow.tape, hgrow.output, hgrow.size, fun i hi _ => hgrow.block i hi (by simp [Value.ownBlock])⟩
  · subst h1
    have holds : ∀ (j : Nat) (u : Value), (L.map Value.string)[j]? = some u → w.cell? ⟨g, off + j, none⟩ = some u := by
      intro j u hj
      rw [h3.cell (off + j)]
      rw [List.getElem?_map] at hj
      cases hl : L[j]? with
      | none => rw [hl] at hj; cases hj
      | some x => rw [hl] at hj; cases hj; exact h6 j x hl
    refine wpList_append_arg w hgd s x 22 ho 9 i0 (.string ⟨#[]⟩) 1 16 Try.underlying22 hi0 hz0 hz1 hz2 (by simp [Value.cells]) (by decide) g off L.length cap (L.map Value.string) hs (by simp) holds ad 1 c [.string m] hx rfl hnews (by simp [Value.oneCell']) ?_ hb1 hb2 ?_ ?_
    · intro hr j hj
      refine ⟨?_, h3.frozen _⟩
      rw [h3.cell]
      simp at hj
      subst hj
      rw [Array.getElem?_eq_getElem (by omega)]
      rfl
    · intro hroom
      have y5 : w.setCells g (off + L.length * 1) [Value.string m] = w.setCell ⟨g, off + L.length * 1, none⟩ (.string m) := rfl
      rw [y5]
      refine hK (some ⟨g, off, none⟩) cap _ (Or.inr ⟨g, off, cap, _, by simp, Or.inl h2, h3.set_ (off + L.length * 1) (.string m), by simpa using hroom, by simpa using h5, ?_⟩) ((Upd.refl _ _).setCell (p := ⟨g, off + L.length * 1, none⟩) (fun _ => h2) _)
      intro i x hi
      rw [Array.getElem?_setIfInBounds]
      by_cases hil : i = L.length
      · subst hil
        rw [List.getElem?_append_right (Nat.le_refl _)] at hi
        simp at hi
        subst hi
        rw [if_pos (by omega), if_pos (by omega)]
      · rw [if_neg (by omega)]
        rcases Nat.lt_or_ge i L.length with h | h
        · rw [List.getElem?_append_left h] at hi
          exact h6 i x hi
        · rw [List.getElem?_eq_none (by simp; omega)] at hi
          cases hi
    · intro _ v' y hown hgrow
      obtain ⟨a', c', rfl⟩ := own_form hown
      refine hK a' c' y ?_ ⟨hgrow.os, hgrow.tape, hgrow.output, hgrow.size, fun i hi _ => hgrow.block i hi (by simp)⟩
      have hq := qrow_own (L := L ++ [m]) (by simpa using hown)
      refine QRow.mono (by simpa using hq) ?_
      intro k hk
      exact Or.inr hk
end Go.Proofs.Ytlaakcgipecldaa
