/- The document's bells: there, ahead; nothing appended. -/
import Derived.Test.YtbfbahedbfjcoaaBelRef4
namespace Go.Proofs.Ytbfbahedbfjcoaa
set_option linter.all false
open Go.RowKit
attribute [local go_sem ↓] Go.wp_at_zero Go.wp_at_succ

theorem wpList_append_own_zero {P : Program} {w : World} {ops : Array Oper} {rest : List Oper} {o : Oper} {a : Act} {Q : Exit → Act → World → Prop} (hgd : o.guard = none) (s x : Operand) (t : TypeId)
    (ho : o.op = .call { callee := .builtin .append, args := #[s, x], argTypes := #[t, t] })
    (base : Nat) (e : TypeId) (i : TypeInfo) (size : Nat) (ht : P.underlying t = some (.slice e)) (hi : P.info? e = some i)
    (v : Value) (n : Nat) (xs : List Value) (hs : a.eval s = v) (hown : w.ownsRow base e size v n xs) (A : Option Addr) (c : Nat) (hx : a.eval x = .slice A 0 c)
    (h : wpList P ops Q rest (a.put o.dst v) w) : wpList P ops Q (o :: rest) a w := by
  refine wpList_plain hgd fun K hK => ?_
  have hrun : (Builtin.append_ #[t, t] o.type #[v, .slice A 0 c]).run P w = .ok v w := by
    have hl : ∀ ad : Addr, Sem.run P (loadCells ad 0) w = .ok #[] w := fun ad => by
      have := run_loadCells_list (P := P) (w := w) ad [] (fun j v h => by simp at h)
      simpa using this
    rcases hown.2 with ⟨rfl, rfl⟩ | ⟨g, cap, cur, rfl, _, _, hnc, _⟩
    · cases A <;> simp [Builtin.append_, run_underlying ht, sizeOf, typeInfo, hi, Builtin.lenOf, Builtin.firstCells, hl, Result.andThen]
    · cases A <;> simp [Builtin.append_, run_underlying ht, sizeOf, typeInfo, hi, Builtin.lenOf, Builtin.firstCells, hnc, hl, storeCells, Result.andThen]
  unfold Oper.wp
  simp [execOp, ho, resolve, invoke, builtin, hs, hx, hrun, Result.andThen]
  exact hK _ _ h

set_option maxHeartbeats 1000000 in
theorem there_any (kind id : Int) (w : World) : Calls Try.prog 43 #[.int .i64 kind, .int .i64 id] w fun r w' => r = .returned (.bool (decide (MayB kind id))) ∧ w = w' := by
  obtain ⟨R, hR⟩ : ∃ R, decide (MayB kind id) = R := ⟨_, rfl⟩
  rw [hR]
  have HR := Lib.hid hR
  clear hR
  by_cases h1 : 0 ≤ kind
  · have d1 : decide (0 ≤ kind) = true := decide_eq_true h1
    by_cases h2 : kind ≤ 3
    · have d2 : decide (kind ≤ 3) = true := decide_eq_true h2
      by_cases h3 : 0 ≤ id
      · have d3 : decide (0 ≤ id) = true := decide_eq_true h3
        have HX : Hid (decide (id < 16) = R) := Lib.hid (by rw [← HR.out, decide_eq_decide]; unfold MayB; omega)
        clear h1 h2 h3
        go_enter Try.func43, Try.ntmps43
        go_wp2_with fail
        go_ret
        exact ⟨ret_bool HX.out, rfl⟩
      · have d3 : decide (0 ≤ id) = false := decide_eq_false h3
        have HX : Hid (false = R) := Lib.hid (by rw [← HR.out]; symm; rw [decide_eq_false_iff_not]; unfold MayB; omega)
        clear h1 h2 h3
        go_enter Try.func43, Try.ntmps43
        go_wp2_with fail
        go_ret
        exact ⟨ret_bool HX.out, rfl⟩
    · have d2 : decide (kind ≤ 3) = false := decide_eq_false h2
      have HX : Hid (false = R) := Lib.hid (by rw [← HR.out]; symm; rw [decide_eq_false_iff_not]; unfold MayB; omega)
      clear h1 h2
      go_enter Try.func43, Try.ntmps43
      go_wp2_with fail
      go_ret
      exact ⟨ret_bool HX.out, rfl⟩
  · have d1 : decide (0 ≤ kind) = false := decide_eq_false h1
    have HX : Hid (false = R) := Lib.hid (by rw [← HR.out]; symm; rw [decide_eq_false_iff_not]; unfold MayB; omega)
    clear h1
    go_enter Try.func43, Try.ntmps43
    go_wp2_with fail
    go_ret
    exact ⟨ret_bool HX.out, rfl⟩

def ahI (k a b k' a' b' : Int) : Prop := k < k' ∨ (k = k' ∧ (a < a' ∨ (a = a' ∧ b < b')))
instance (k a b k' a' b' : Int) : Decidable (ahI k a b k' a' b') := by unfold ahI; infer_instance
theorem ahI_lt {p q : Nat × Int} : ahI p.2 ((p.1 / 16 : Nat) : Int) ((p.1 % 16 : Nat) : Int) q.2 ((q.1 / 16 : Nat) : Int) ((q.1 % 16 : Nat) : Int) ↔ ltB p q := by
  unfold ahI ltB
  omega
set_option maxRecDepth 100000 in
set_option maxHeartbeats 2000000 in
theorem rahead_any (k a b k' a' b' : Int) (w : World) : Calls Try.prog 44 #[.agg #[.int .i64 k, .int .i64 a, .int .i64 b], .agg #[.int .i64 k', .int .i64 a', .int .i64 b']] w fun r w' => r = .returned (.bool (decide (ahI k a b k' a' b'))) ∧ Below w.heap.size w w' := by
  obtain ⟨R, hR⟩ : ∃ R, decide (ahI k a b k' a' b') = R := ⟨_, rfl⟩
  rw [hR]
  have HR := Lib.hid hR
  clear hR
  have fin : Below w.heap.size w ((w.alloc (.cells #[.int .i64 k, .int .i64 a, .int .i64 b] 36)).alloc (.cells #[.int .i64 k', .int .i64 a', .int .i64 b'] 36)) := ((Below.refl _ _).alloc (Nat.le_refl _) _).alloc (by simp) _
  have FIN := Lib.hid fin
  clear fin
  by_cases h1 : k = k'
  · have d1 : (k != k') = false := by simp [h1]
    by_cases h2 : a = a'
    · have d2 : (a != a') = false := by simp [h2]
      have HX : Hid (decide (b < b') = R) := Lib.hid (by rw [← HR.out, decide_eq_decide]; unfold ahI; omega)
      clear h1 h2
      go_enter Try.func44, Try.ntmps44
      go_wp2_with fail
      go_ret
      exact ⟨ret_bool HX.out, FIN.out⟩
    · have d2 : (a != a') = true := by simp [h2]
      have HX : Hid (decide (a < a') = R) := Lib.hid (by rw [← HR.out, decide_eq_decide]; unfold ahI; omega)
      clear h1 h2
      go_enter Try.func44, Try.ntmps44
      go_wp2_with fail
      go_ret
      exact ⟨ret_bool HX.out, FIN.out⟩
  · have d1 : (k != k') = true := by simp [h1]
    have HX : Hid (decide (k < k') = R) := Lib.hid (by rw [← HR.out, decide_eq_decide]; unfold ahI; omega)
    clear h1
    go_enter Try.func44, Try.ntmps44
    go_wp2_with fail
    go_ret
    exact ⟨ret_bool HX.out, FIN.out⟩
theorem ins_split {p : Nat × Int} {D R : BL} (hD : ∀ q, q ∈ D → ltB q p) (hR : ∀ q t, R = q :: t → ¬ ltB q p) : insL p (D ++ R) = D ++ p :: R := by
  induction D with
  | nil =>
    cases R with
    | nil => rfl
    | cons q t => show insL p (q :: t) = _; unfold insL; rw [if_neg (hR q t rfl)]; rfl
  | cons q t ih =>
    show insL p (q :: (t ++ R)) = _
    unfold insL
    rw [if_pos (hD q List.mem_cons_self), ih fun r hr => hD r (List.mem_cons_of_mem _ hr)]
    rfl
end Go.Proofs.Ytbfbahedbfjcoaa
