/- What Reach finds, as a list: round by round. No condition. -/
import Derived.Test.YtlaakcgipecldaaRtIter
namespace Go.Proofs.Ytlaakcgipecldaa
set_option linter.all false
/-- Those not had yet are taken in, in order. -/
def scan (out xs : List Int) : List Int := xs.foldl (fun o x => if x ∈ o then o else o ++ [x]) out
theorem scan_snoc (out pre : List Int) (x : Int) : scan out (pre ++ [x]) = if x ∈ scan out pre then scan out pre else scan out pre ++ [x] := by
  unfold scan
  rw [List.foldl_append]
  rfl
theorem scan_len (out : List Int) : ∀ xs : List Int, (scan out xs).length ≤ out.length + xs.length := by
  intro xs
  induction xs generalizing out with
  | nil => simp [scan]
  | cons x xs ih =>
    have := ih (if x ∈ out then out else out ++ [x])
    simp only [scan, List.foldl_cons] at this ⊢
    refine Nat.le_trans this ?_
    split <;> simp <;> omega
theorem scan_ok (out : List Int) (h : out.Nodup ∧ ∀ x ∈ out, 0 ≤ x ∧ x < 4) : ∀ xs : List Int, (∀ x ∈ xs, 0 ≤ x ∧ x < 4) → (scan out xs).Nodup ∧ ∀ x ∈ scan out xs, 0 ≤ x ∧ x < 4 := by
  intro xs
  induction xs generalizing out with
  | nil => intro _; exact h
  | cons x xs ih =>
    intro hx
    simp only [scan, List.foldl_cons]
    refine ih _ ?_ fun y hy => hx y (List.mem_cons_of_mem _ hy)
    split
    · exact h
    · rename_i hn
      refine ⟨List.nodup_append.2 ⟨h.1, by simp, fun a ha b hb e => ?_⟩, fun y hy => ?_⟩
      · rcases List.mem_singleton.1 hb with rfl
        exact hn (e ▸ ha)
      · rcases List.mem_append.1 hy with hy | hy
        · exact h.2 y hy
        · rcases List.mem_singleton.1 hy with rfl
          exact hx _ (List.mem_cons_self ..)

/-- What has been found behind k rounds. -/
def bfs (es : List (Int × Int)) (v : Int) : Nat → List Int
  | 0 => []
  | k + 1 => match (v :: bfs es v k)[k]? with
    | some c => scan (bfs es v k) (outs c es)
    | none => bfs es v k

theorem bfs_ok (es : List (Int × Int)) (v : Int) (h : ∀ p ∈ es, 0 ≤ p.2 ∧ p.2 < 4) : ∀ k, (bfs es v k).Nodup ∧ ∀ x ∈ bfs es v k, 0 ≤ x ∧ x < 4
  | 0 => ⟨List.nodup_nil, fun _ h => by cases h⟩
  | k + 1 => by
    have ih := bfs_ok es v h k
    unfold bfs
    split
    · refine scan_ok _ ih _ fun x hx => ?_
      simp only [outs, List.mem_map, List.mem_filter] at hx
      obtain ⟨p, hp, rfl⟩ := hx
      exact h p hp.1
    · exact ih
theorem nodup_le : ∀ (l m : List Int), l.Nodup → (∀ x ∈ l, x ∈ m) → l.length ≤ m.length
  | [], m, _, _ => Nat.zero_le _
  | x :: l, m, h, hm => by
    have hx := hm x (List.mem_cons_self ..)
    have h1 := nodup_le l (m.erase x) (List.nodup_cons.1 h).2 fun y hy => (List.mem_erase_of_ne (fun e => (List.nodup_cons.1 h).1 (by rw [← e]; exact hy))).2 (hm y (List.mem_cons_of_mem _ hy))
    rw [List.length_erase_of_mem hx] at h1
    have h2 : 0 < m.length := List.length_pos_of_mem hx
    rw [List.length_cons]
    omega
theorem four_len (l : List Int) (h : l.Nodup ∧ ∀ x ∈ l, 0 ≤ x ∧ x < 4) : l.length ≤ 4 :=
  nodup_le l [0, 1, 2, 3] h.1 fun x hx => by
    have := h.2 x hx
    have : x = 0 ∨ x = 1 ∨ x = 2 ∨ x = 3 := by omega
    simpa using this
end Go.Proofs.Ytlaakcgipecldaa
