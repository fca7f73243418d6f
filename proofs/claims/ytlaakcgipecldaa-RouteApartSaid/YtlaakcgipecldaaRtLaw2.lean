/- What the program's Reach finds, put in rising order, is what the document's four rounds find. Conditions: the ports' ends are 0 .. 3. -/
import Derived.Test.YtlaakcgipecldaaRrReach
namespace Go.Proofs.Ytlaakcgipecldaa
set_option linter.all false

inductive Rch (es : List (Int × Int)) (v : Int) : Int → Prop
  | base {p : Int × Int} : p ∈ es → p.1 = v → Rch es v p.2
  | step {p : Int × Int} : p ∈ es → Rch es v p.1 → Rch es v p.2

theorem mem_scan (x : Int) : ∀ (xs out : List Int), x ∈ scan out xs ↔ x ∈ out ∨ x ∈ xs
  | [], out => by simp [scan]
  | y :: xs, out => by
    have := mem_scan x xs (if y ∈ out then out else out ++ [y])
    simp only [scan, List.foldl_cons] at this ⊢
    rw [this]
    by_cases h : y ∈ out
    · rw [if_pos h]
      constructor
      · rintro (h1 | h1)
        · exact Or.inl h1
        · exact Or.inr (List.mem_cons_of_mem _ h1)
      · rintro (h1 | h1)
        · exact Or.inl h1
        · rcases List.mem_cons.1 h1 with rfl | h1
          · exact Or.inl h
          · exact Or.inr h1
    · rw [if_neg h]
      simp [or_assoc]
theorem scan_prefix : ∀ (xs out : List Int), ∃ t, scan out xs = out ++ t
  | [], out => ⟨[], by simp [scan]⟩
  | y :: xs, out => by
    obtain ⟨t, ht⟩ := scan_prefix xs (if y ∈ out then out else out ++ [y])
    simp only [scan, List.foldl_cons] at ht ⊢
    rw [ht]
    by_cases h : y ∈ out
    · rw [if_pos h]; exact ⟨t, rfl⟩
    · rw [if_neg h]; exact ⟨[y] ++ t, by simp⟩
theorem mem_outs (c x : Int) (es : List (Int × Int)) : x ∈ outs c es ↔ ∃ p ∈ es, p.1 = c ∧ p.2 = x := by
  unfold outs
  simp [and_assoc]
theorem bfs_sound (es : List (Int × Int)) (v : Int) : ∀ (k : Nat) (x : Int), x ∈ bfs es v k → Rch es v x
  | 0, x, h => by cases h
  | k + 1, x, h => by
    unfold bfs at h
    split at h
    · rename_i c hc
      rcases (mem_scan x _ _).1 h with h1 | h1
      · exact bfs_sound es v k x h1
      · obtain ⟨p, hp, h2, rfl⟩ := (mem_outs c x es).1 h1
        rcases List.mem_cons.1 (List.mem_of_getElem? hc) with h3 | h3
        · exact Rch.base hp (h2.trans h3)
        · exact Rch.step hp (h2 ▸ bfs_sound es v k c h3)
    · exact bfs_sound es v k x h
theorem bfs_inv (es : List (Int × Int)) (v : Int) : ∀ (k j : Nat) (c : Int), j < k → (v :: bfs es v k)[j]? = some c → ∀ x ∈ outs c es, x ∈ bfs es v k
  | 0, j, c, h, _, _, _ => absurd h (Nat.not_lt_zero _)
  | k + 1, j, c, h, hc, x, hx => by
    cases h0 : (v :: bfs es v k)[k]? with
    | none =>
      have hb : bfs es v (k + 1) = bfs es v k := by rw [bfs, h0]
      rw [hb] at hc ⊢
      by_cases hj : j < k
      · exact bfs_inv es v k j c hj hc x hx
      · obtain rfl : j = k := by omega
        rw [h0] at hc
        cases hc
    | some c0 =>
      have hb : bfs es v (k + 1) = scan (bfs es v k) (outs c0 es) := by rw [bfs, h0]
      obtain ⟨t, ht⟩ := scan_prefix (outs c0 es) (bfs es v k)
      have hk : k < (v :: bfs es v k).length := (List.getElem?_eq_some_iff.1 h0).1
      have hc' : (v :: bfs es v k)[j]? = some c := by
        rw [hb, ht, ← List.cons_append, List.getElem?_append_left (by omega)] at hc
        exact hc
      rw [hb]
      by_cases hj : j < k
      · exact (mem_scan x _ _).2 (Or.inl (bfs_inv es v k j c hj hc' x hx))
      · obtain rfl : j = k := by omega
        rw [h0] at hc'
        cases hc'
        exact (mem_scan x _ _).2 (Or.inr hx)
theorem bfs_mem (es : List (Int × Int)) (v : Int) (k : Nat) (hk : (bfs es v k).length + 1 ≤ k) (x : Int) : x ∈ bfs es v k ↔ Rch es v x := by
  refine ⟨bfs_sound es v k x, fun h => ?_⟩
  have key : ∀ c, c ∈ v :: bfs es v k → ∀ y ∈ outs c es, y ∈ bfs es v k := fun c hc y hy => by
    obtain ⟨j, hj, he⟩ := List.getElem_of_mem hc
    exact bfs_inv es v k j c (by rw [List.length_cons] at hj; omega) (by rw [List.getElem?_eq_getElem hj, he]) y hy
  induction h with
  | base hp h1 => exact key v (List.mem_cons_self ..) _ ((mem_outs _ _ _).2 ⟨_, hp, h1, rfl⟩)
  | step hp _ ih => exact key _ (List.mem_cons_of_mem _ ih) _ ((mem_outs _ _ _).2 ⟨_, hp, rfl, rfl⟩)

/-! ### Four rounds -/
def Ends (es : List (Int × Int)) : Prop := ∀ p ∈ es, (0 ≤ p.1 ∧ p.1 ≤ 3) ∧ 0 ≤ p.2 ∧ p.2 ≤ 3
def Clo (es : List (Int × Int)) (v : Int) (st : List Bool) : Prop := ∀ p ∈ es, p.1 = v ∨ st.getD p.1.toNat false = true → st.getD p.2.toNat false = true

theorem getD_set (st : List Bool) (i j : Nat) (h : j < st.length) : (st.set i true).getD j false = if i = j then true else st.getD j false := by
  by_cases e : i = j
  · subst e; simp [h]
  · simp [List.getD_eq_getElem?_getD, List.getElem?_set_ne e, e]
theorem stp_mono (v : Int) (st : List Bool) (p : Int × Int) (j : Nat) (hj : j < st.length) (h : st.getD j false = true) : (stp v st p).getD j false = true := by
  unfold stp
  split
  · rw [getD_set _ _ _ hj, h]; simp
  · exact h
theorem fold_mono (v : Int) : ∀ (es : List (Int × Int)) (st : List Bool) (j : Nat), j < st.length → st.getD j false = true → (es.foldl (stp v) st).getD j false = true
  | [], _, _, _, h => h
  | p :: es, st, j, hj, h => fold_mono v es _ j (by rw [stp_length]; exact hj) (stp_mono v st p j hj h)
theorem fold_hit (v : Int) : ∀ (es : List (Int × Int)) (st : List Bool) (p : Int × Int), st.length = 4 → Ends es → p ∈ es → (p.1 = v ∨ st.getD p.1.toNat false = true) → (es.foldl (stp v) st).getD p.2.toNat false = true
  | q :: es, st, p, h4, hE, hp, hc => by
    have hEp := hE p hp
    rw [List.foldl_cons]
    by_cases e : p = q
    · subst e
      refine fold_mono v es _ _ (by rw [stp_length, h4]; omega) ?_
      unfold stp
      rw [if_pos hc, getD_set _ _ _ (by rw [h4]; omega), if_pos rfl]
    · have hp' : p ∈ es := by
        rcases List.mem_cons.1 hp with h | h
        · exact absurd h e
        · exact h
      refine fold_hit v es _ p (by rw [stp_length, h4]) (fun x hx => hE x (List.mem_cons_of_mem _ hx)) hp' ?_
      rcases hc with hc | hc
      · exact Or.inl hc
      · exact Or.inr (stp_mono v st q _ (by rw [h4]; omega) hc)
theorem fold_sound (v : Int) (es0 : List (Int × Int)) : ∀ (es : List (Int × Int)) (st : List Bool), st.length = 4 → Ends es → (∀ p ∈ es, p ∈ es0) → (∀ j, j < 4 → st.getD j false = true → Rch es0 v j) → ∀ j, j < 4 → (es.foldl (stp v) st).getD j false = true → Rch es0 v j
  | [], _, _, _, _, h, j, hj, hh => h j hj hh
  | p :: es, st, h4, hE, hs, h, j, hj, hh => by
    refine fold_sound v es0 es (stp v st p) (by rw [stp_length, h4]) (fun x hx => hE x (List.mem_cons_of_mem _ hx)) (fun x hx => hs x (List.mem_cons_of_mem _ hx)) (fun i hi hii => ?_) j hj hh
    obtain ⟨hE1, hE2⟩ := hE p (List.mem_cons_self ..)
    unfold stp at hii
    split at hii
    · rename_i hc
      rw [getD_set _ _ _ (by rw [h4]; exact hi)] at hii
      by_cases e : p.2.toNat = i
      · have hp2 : p.2 = (i : Int) := by omega
        rw [← hp2]
        rcases hc with hc | hc
        · exact Rch.base (hs p (List.mem_cons_self ..)) hc
        · have := h p.1.toNat (by omega) hc
          rw [show ((p.1.toNat : Nat) : Int) = p.1 by omega] at this
          exact Rch.step (hs p (List.mem_cons_self ..)) this
      · rw [if_neg e] at hii
        exact h i hi hii
    · exact h i hi hii
theorem rounds_sound (v : Int) (es : List (Int × Int)) (hE : Ends es) : ∀ (r j : Nat), j < 4 → (rounds v es r).getD j false = true → Rch es v j
  | 0, j, hj, h => by
    have : j = 0 ∨ j = 1 ∨ j = 2 ∨ j = 3 := by omega
    rcases this with rfl | rfl | rfl | rfl <;> cases h
  | r + 1, j, hj, h => fold_sound v es es (rounds v es r) (rounds_length v es r) hE (fun _ h => h) (rounds_sound v es hE r) j hj h
theorem set_same (st : List Bool) (i : Nat) (h : st.getD i false = true) : st.set i true = st := by
  apply List.ext_getElem (by simp)
  intro j h1 h2
  by_cases e : i = j
  · subst e
    have : st.getD i false = st[i] := by simp [List.getD_eq_getElem?_getD, List.getElem?_eq_getElem h2]
    rw [List.getElem_set_self, ← this, h]
  · rw [List.getElem_set_ne e]
theorem fold_same (v : Int) (st : List Bool) : ∀ (es : List (Int × Int)), Clo es v st → es.foldl (stp v) st = st
  | [], _ => rfl
  | p :: es, h => by
    have h1 : stp v st p = st := by
      unfold stp
      split
      · rename_i hc
        exact set_same _ _ (h p (List.mem_cons_self ..) hc)
      · rfl
    rw [List.foldl_cons, h1]
    exact fold_same v st es fun q hq => h q (List.mem_cons_of_mem _ hq)
def cnt (st : List Bool) : Nat := (st.getD 0 false).toNat + (st.getD 1 false).toNat + (st.getD 2 false).toNat + (st.getD 3 false).toNat
theorem b_le {a b : Bool} (h : a = true → b = true) : a.toNat ≤ b.toNat := by cases a <;> cases b <;> simp_all
theorem cnt_up (st st' : List Bool) (hm : ∀ j, j < 4 → st.getD j false = true → st'.getD j false = true) (i : Nat) (hi : i < 4) (h0 : st.getD i false = false) (h1 : st'.getD i false = true) : cnt st + 1 ≤ cnt st' := by
  have m0 := b_le (hm 0 (by omega))
  have m1 := b_le (hm 1 (by omega))
  have m2 := b_le (hm 2 (by omega))
  have m3 := b_le (hm 3 (by omega))
  unfold cnt
  have : i = 0 ∨ i = 1 ∨ i = 2 ∨ i = 3 := by omega
  rcases this with rfl | rfl | rfl | rfl <;> rw [h0, h1] <;> simp only [Bool.toNat_false, Bool.toNat_true] <;> omega
theorem cnt_full (st : List Bool) (h : 4 ≤ cnt st) (i : Nat) (hi : i < 4) : st.getD i false = true := by
  unfold cnt at h
  have l0 : ∀ b : Bool, b.toNat ≤ 1 := fun b => by cases b <;> simp
  have := l0 (st.getD 0 false)
  have := l0 (st.getD 1 false)
  have := l0 (st.getD 2 false)
  have := l0 (st.getD 3 false)
  have hb : ∀ b : Bool, 1 ≤ b.toNat → b = true := fun b => by cases b <;> simp
  have : i = 0 ∨ i = 1 ∨ i = 2 ∨ i = 3 := by omega
  rcases this with rfl | rfl | rfl | rfl <;> refine hb _ ?_ <;> omega
theorem rounds_clo (v : Int) (es : List (Int × Int)) (hE : Ends es) : ∀ r, Clo es v (rounds v es r) ∨ r ≤ cnt (rounds v es r)
  | 0 => Or.inr (Nat.zero_le _)
  | r + 1 => by
    by_cases hc : Clo es v (rounds v es r)
    · left
      rw [show rounds v es (r + 1) = rounds v es r from fold_same v _ es hc]
      exact hc
    · right
      have ih := (rounds_clo v es hE r).resolve_left hc
      have : ∃ p, p ∈ es ∧ (p.1 = v ∨ (rounds v es r).getD p.1.toNat false = true) ∧ (rounds v es r).getD p.2.toNat false = false := by
        apply Classical.byContradiction
        intro hn
        refine hc fun p hp hcond => ?_
        cases hb : (rounds v es r).getD p.2.toNat false with
        | true => rfl
        | false => exact absurd ⟨p, hp, hcond, hb⟩ hn
      obtain ⟨p, hp, hcond, h0⟩ := this
      have hEp := hE p hp
      have := cnt_up (rounds v es r) (rounds v es (r + 1)) (fun j hj h => fold_mono v es _ j (by rw [rounds_length]; exact hj) h) p.2.toNat (by omega) h0 (fold_hit v es _ p (rounds_length v es r) hE hp hcond)
      omega
theorem rounds_mem (v : Int) (es : List (Int × Int)) (hE : Ends es) (x : Int) : Rch es v x ↔ ∃ j : Nat, j < 4 ∧ x = j ∧ (rounds v es 4).getD j false = true := by
  constructor
  · intro h
    have hC : Clo es v (rounds v es 4) := by
      rcases rounds_clo v es hE 4 with h | h
      · exact h
      · exact fun p hp _ => cnt_full _ h _ (by have := hE p hp; omega)
    induction h with
    | @base p hp h1 =>
      have := hE p hp
      exact ⟨p.2.toNat, by omega, by omega, hC p hp (Or.inl h1)⟩
    | @step p hp _ ih =>
      have := hE p hp
      obtain ⟨j, hj, hx, hb⟩ := ih
      refine ⟨p.2.toNat, by omega, by omega, hC p hp (Or.inr ?_)⟩
      rw [hx]
      exact hb
  · rintro ⟨j, hj, rfl, h⟩
    exact rounds_sound v es hE 4 j hj h

/-! ### Two rising lists with the same members -/
theorem rising_eq : ∀ (l m : List Int), l.Pairwise (· < ·) → m.Pairwise (· < ·) → (∀ x, x ∈ l ↔ x ∈ m) → l = m
  | [], [], _, _, _ => rfl
  | [], y :: m, _, _, h => absurd ((h y).2 (List.mem_cons_self ..)) (by simp)
  | x :: l, [], _, _, h => absurd ((h x).1 (List.mem_cons_self ..)) (by simp)
  | x :: l, y :: m, hl, hm, h => by
    rw [List.pairwise_cons] at hl hm
    have hxy : x = y := by
      rcases List.mem_cons.1 ((h x).1 (List.mem_cons_self ..)) with e | e
      · exact e
      · rcases List.mem_cons.1 ((h y).2 (List.mem_cons_self ..)) with e2 | e2
        · exact e2.symm
        · have := hm.1 x e; have := hl.1 y e2; omega
    subst hxy
    congr 1
    refine rising_eq l m hl.2 hm.2 fun z => ⟨fun hz => ?_, fun hz => ?_⟩
    · rcases List.mem_cons.1 ((h z).1 (List.mem_cons_of_mem _ hz)) with e | e
      · have := hl.1 z hz; omega
      · exact e
    · rcases List.mem_cons.1 ((h z).2 (List.mem_cons_of_mem _ hz)) with e | e
      · have := hm.1 z hz; omega
      · exact e
theorem picked_rising (st : List Bool) (n : Nat) : (picked st n).Pairwise (· < ·) := by
  unfold picked
  rw [List.pairwise_map]
  refine List.Pairwise.imp ?_ (List.Pairwise.filter _ List.pairwise_lt_range)
  intro a b h
  omega
theorem risen_rising (l : List Int) (h : l.Nodup) : (risen l).Pairwise (· < ·) := by
  have h1 : (risen l).Pairwise (fun a b => decide (a ≤ b) = true) := List.pairwise_mergeSort (le := fun a b => decide (a ≤ b)) (fun a b c h1 h2 => by simp at h1 h2 ⊢; omega) (fun a b => by simp; omega) l
  have h2 : (risen l).Nodup := (List.mergeSort_perm l _).nodup_iff.2 h
  refine (h1.and h2).imp ?_
  rintro a b ⟨h3, h4⟩
  simp at h3
  omega

/-- **Both find the same.** -/
theorem reach_same (es : List (Int × Int)) (v : Int) (hE : Ends es) (k : Nat) (hk : (bfs es v k).length + 1 ≤ k) : risen (bfs es v k) = picked (rounds v es 4) 4 := by
  have hb := bfs_ok es v (fun p hp => by have := hE p hp; omega) k
  refine rising_eq _ _ (risen_rising _ hb.1) (picked_rising _ _) fun x => ?_
  rw [show x ∈ risen (bfs es v k) ↔ x ∈ bfs es v k from (List.mergeSort_perm _ _).mem_iff, bfs_mem es v k hk, rounds_mem v es hE]
  unfold picked
  simp only [List.mem_map, List.mem_filter, List.mem_range]
  constructor
  · rintro ⟨j, hj, rfl, h⟩
    exact ⟨j, ⟨hj, h⟩, rfl⟩
  · rintro ⟨j, ⟨hj, h⟩, rfl⟩
    exact ⟨j, hj, rfl, h⟩
end Go.Proofs.Ytlaakcgipecldaa
