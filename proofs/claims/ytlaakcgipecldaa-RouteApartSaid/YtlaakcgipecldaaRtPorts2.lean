/- New of both, told by one number; a row copied out of an argument. No condition. -/
import Derived.Test.YtlaakcgipecldaaRtPorts
namespace Go.Proofs.Ytlaakcgipecldaa
set_option linter.all false
open Go.RowKit

theorem wpList_append_own_zero {P : Program} {w : World} {ops : Array Oper} {rest : List Oper} {o : Oper} {a : Act} {Q : Exit → Act → World → Prop} (hgd : o.guard = none) (s x : Operand) (t : TypeId)
    (ho : o.op = .call { callee := .builtin .append, args := #[s, x], argTypes := #[t, t] })
    (base : Nat) (e : TypeId) (i : TypeInfo) (size : Nat) (ht : P.underlying t = some (.slice e)) (hi : P.info? e = some i)
    (v : Value) (n : Nat) (xs : List Value) (hs : a.eval s = v) (hown : w.ownsRow base e size v n xs) (A : Option Addr) (c : Nat) (hx : a.eval x = .slice A 0 c)
    (h : wpList P ops Q rest (a.put o.dst v) w) : wpList P ops Q (o :: rest) a w := by
  refine wpList_plain hgd fun K hK => ?_
  have hrun : (Builtin.append_ #[t, t] o.type #[v, .slice A 0 c]).run P w = .ok v w := by
    have hl : ∀ ad : Addr, Sem.run P (loadCells ad 0) w = .ok #[] w := fun ad => by
      have := run_loadCells_list (P := P) (w := w) ad [] (fun j v h => by simp at h)
      simpa using this
    rcases hown.2 with ⟨rfl, rfl⟩ | ⟨g, cap, cur, rfl, _, _, hnc, _⟩
    · cases A <;> simp [Builtin.append_, run_underlying ht, sizeOf, typeInfo, hi, Builtin.lenOf, Builtin.firstCells, hl, Result.andThen]
    · cases A <;> simp [Builtin.append_, run_underlying ht, sizeOf, typeInfo, hi, Builtin.lenOf, Builtin.firstCells, hnc, hl, storeCells, Result.andThen]
  unfold Oper.wp
  simp [execOp, ho, resolve, invoke, builtin, hs, hx, hrun, Result.andThen]
  exact hK _ _ h

instance (Ps : List PV) : Decidable (AllOk Ps) := by unfold AllOk; infer_instance
def newE (Ps : List PV) : Int := if 8 < Ps.length then 5 else if AllOk Ps then 0 else 50

/-- The program's ports, fresh from n₀ on. -/
def FrP (n₀ : Nat) (w : World) (rp : Nat) (L : List RE) : Prop := ∃ S F A hs gs, RtP w S F rp L A hs gs ∧ (∀ k, S k → n₀ ≤ k) ∧ ∀ j, j < L.length → ∀ k, F j k → n₀ ≤ k
def FrR (n₀ : Nat) (w : World) (rp : Nat) (L : List RE) : Prop := ∃ S F A gs, RlP w S F rp L A gs ∧ (∀ k, S k → n₀ ≤ k) ∧ ∀ j, j < L.length → ∀ k, F j k → n₀ ≤ k
theorem new_case (w : World) (A : Option Addr) (c : Nat) (Ps : List PV) (hR : PRd w A Ps) {E : Int} (hE : newE Ps = E) :
    Calls Try.prog 23 #[.slice A Ps.length c] w fun e w' => ∃ R, e = .returned (.tuple #[.pointer R, .int .i64 E]) ∧ (E = 0 → ∃ rp, R = some ⟨rp, 0, none⟩ ∧ FrP w.heap.size w' rp (Ps.map freshE)) ∧ (E ≠ 0 → R = none) ∧ Below w.heap.size w w' := by
  subst hE
  unfold newE
  by_cases h8 : 8 < Ps.length
  · rw [if_pos h8]
    refine (rnew_many w A c Ps.length h8).mono ?_
    rintro e w' ⟨rfl, rfl⟩
    exact ⟨none, rfl, fun h => absurd h (by decide), fun _ => rfl, Below.refl _ _⟩
  · rw [if_neg h8]
    refine (rnew_p w A c Ps hR (by omega)).mono ?_
    rintro e w' ⟨⟨rp, rfl, hok, S, F, A', hs, gs, h1, h2, h3⟩ | ⟨rfl, hok⟩, hb⟩
    · rw [if_pos hok]
      exact ⟨_, rfl, fun _ => ⟨rp, rfl, S, F, A', hs, gs, h1, h2, by simpa using h3⟩, fun h => absurd rfl h, hb⟩
    · rw [if_neg hok]
      exact ⟨none, rfl, fun h => absurd h (by decide), fun _ => rfl, hb⟩
theorem mnew_case (w : World) (A : Option Addr) (c : Nat) (Ps : List PV) (hR : PRd w A Ps) {E : Int} (hE : newE Ps = E) :
    Calls Try.prog 24 #[.slice A Ps.length c] w fun e w' => ∃ R, e = .returned (.tuple #[.pointer R, .int .i64 E]) ∧ (E = 0 → ∃ rp, R = some ⟨rp, 0, none⟩ ∧ FrR w.heap.size w' rp (Ps.map freshE)) ∧ (E ≠ 0 → R = none) ∧ Below w.heap.size w w' := by
  subst hE
  unfold newE
  by_cases h8 : 8 < Ps.length
  · rw [if_pos h8]
    refine (mnew_many w A c Ps.length h8).mono ?_
    rintro e w' ⟨rfl, rfl⟩
    exact ⟨none, rfl, fun h => absurd h (by decide), fun _ => rfl, Below.refl _ _⟩
  · rw [if_neg h8]
    refine (mnew_p w A c Ps hR (by omega)).mono ?_
    rintro e w' ⟨⟨rp, rfl, hok, S, F, A', gs, h1, h2, h3⟩ | ⟨rfl, hok⟩, hb⟩
    · rw [if_pos hok]
      exact ⟨_, rfl, fun _ => ⟨rp, rfl, S, F, A', gs, h1, h2, by simpa using h3⟩, fun h => absurd rfl h, hb⟩
    · rw [if_neg hok]
      exact ⟨none, rfl, fun h => absurd h (by decide), fun _ => rfl, hb⟩
theorem newE_ok {Ps : List PV} (h : newE Ps = 0) : AllOk Ps ∧ Ps.length ≤ 8 := by
  unfold newE at h
  by_cases h8 : 8 < Ps.length
  · rw [if_pos h8] at h; cases h
  · rw [if_neg h8] at h
    by_cases hok : AllOk Ps
    · exact ⟨hok, by omega⟩
    · rw [if_neg hok] at h; cases h

theorem port_info : (Try.prog.info? 30).map (fun i => (i.zero, i.size, i.bytes)) = some (some (.agg #[.int .i64 0, .int .i64 0, .int .i64 0, .int .i64 0, .int .i64 0, .int .i64 0]), 6, 48) := by kernel_rfl

/-- The copy: nil just where there is none; else a row of its own. -/
structure Cpy (w w1 : World) (A : Option Addr) (Ps : List PV) : Prop where
  b : Below w.heap.size w w1
  p : PRd w1 A Ps
  r : 0 < Ps.length → ∃ g cur, A = some ⟨g, 0, none⟩ ∧ w.heap.size ≤ g ∧ IR w1 g Ps 0 cur
theorem wpList_append_in {w : World} {ops : Array Oper} {rest : List Oper} {o : Oper} {a : Act} {Q : Exit → Act → World → Prop} (hgd : o.guard = none) (s x : Operand)
    (ho : o.op = .call { callee := .builtin .append, args := #[s, x], argTypes := #[50, 50] }) (hs : a.eval s = .slice none 0 0) {A : Option Addr} {c : Nat} {Ps : List PV} (hx : a.eval x = .slice A Ps.length c) (hR : PRd w A Ps) (hl : Ps.length ≤ 10)
    (h : ∀ A2 k2 w1, Cpy w w1 A2 Ps → wpList Try.prog ops Q rest (a.put o.dst (.slice A2 Ps.length k2)) w1) : wpList Try.prog ops Q (o :: rest) a w := by
  obtain ⟨i0, hi0, hz0, hz1, hz2⟩ := info_parts port_info
  have hX : (1010 : Nat) ≤ maxLen := by decide
  by_cases h0 : Ps.length = 0
  · refine wpList_append_own_zero hgd s x 50 ho w.heap.size 30 i0 6 Try.underlying50 hi0 (.slice none 0 0) 0 [] hs (World.ownsRow_nil _ _ _ _) A c (by rw [hx, h0]) ?_
    have := h none 0 w ⟨Below.refl _ _, fun i hi => absurd hi (by omega), fun h => absurd h (by omega)⟩
    rw [h0] at this
    exact this
  · have hn1 : 0 < Ps.length := by omega
    obtain ⟨b, o', hA, _⟩ := hR 0 hn1
    subst hA
    refine wpList_append_lies _ hgd s x 50 ho w.heap.size 30 i0 _ 6 48 Try.underlying50 hi0 hz0 hz1 hz2 (by decide) (by decide) (.slice none 0 0) 0 [] hs (World.ownsRow_nil _ _ _ _) ⟨b, o', none⟩ Ps.length c (pcells Ps) hx (pcells_length Ps) (news_of_prd hR) (pcells_one Ps) hn1 (by omega) (by omega) (Nat.le_refl _) _ rfl ?_
    intro g1 k1 w1 hown hgrow hat hlt1
    rw [Nat.zero_add, List.nil_append] at hown
    rw [Nat.zero_add]
    obtain ⟨hg, cur, hI⟩ := ir_of_own rfl hown
    exact h _ _ _ ⟨(Below.refl _ w).grown hgrow (Nat.le_refl _) (fun k e => by simp [Value.ownBlock] at e), hI.prd, fun _ => ⟨g1, cur, rfl, hg, hI⟩⟩
end Go.Proofs.Ytlaakcgipecldaa
