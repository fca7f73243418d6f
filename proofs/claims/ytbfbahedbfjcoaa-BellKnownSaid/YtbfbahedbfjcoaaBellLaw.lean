/- Bells as a row in order: plain. -/
import Derived.Test.YtbfbahedbfjcoaaRankRem
namespace Go.Proofs.Ytbfbahedbfjcoaa
set_option linter.all false

abbrev BL := List (Nat × Int)
def ltB (p q : Nat × Int) : Prop := p.2 < q.2 ∨ (p.2 = q.2 ∧ p.1 < q.1)
instance (p q : Nat × Int) : Decidable (ltB p q) := by unfold ltB; infer_instance
def lk : BL → Nat → Option Int
  | [], _ => none
  | p :: t, x => if x = p.1 then some p.2 else lk t x
def rmL (id : Nat) (L : BL) : BL := L.filter (fun p => decide (p.1 ≠ id))
def insL (p : Nat × Int) : BL → BL
  | [] => [p]
  | q :: t => if ltB q p then q :: insL p t else p :: q :: t
structure OkN (N : Nat) (L : BL) : Prop where
  lt : ∀ p, p ∈ L → p.1 < N
  so : L.Pairwise ltB
  ne : L.Pairwise (fun p q => p.1 ≠ q.1)
abbrev OkL := OkN 64

theorem lk_none {L : BL} {id : Nat} : lk L id = none ↔ ∀ p, p ∈ L → p.1 ≠ id := by
  induction L with
  | nil => exact ⟨(fun _ p hp => by cases hp), fun _ => rfl⟩
  | cons q t ih =>
    unfold lk
    by_cases h : id = q.1
    · rw [if_pos h]
      exact ⟨(fun hh => by cases hh), fun hh => absurd h.symm (hh q List.mem_cons_self)⟩
    · rw [if_neg h, ih]
      constructor
      · intro hh p hp
        rcases List.mem_cons.1 hp with rfl | hp
        · exact fun e => h e.symm
        · exact hh p hp
      · exact fun hh p hp => hh p (List.mem_cons_of_mem _ hp)
theorem lk_mem {L : BL} {id : Nat} {k : Int} (h : lk L id = some k) : (id, k) ∈ L := by
  induction L with
  | nil => cases h
  | cons q t ih =>
    unfold lk at h
    by_cases he : id = q.1
    · rw [if_pos he] at h
      injection h with h
      have : (id, k) = q := by rw [he, ← h]
      rw [this]; exact List.mem_cons_self
    · rw [if_neg he] at h
      exact List.mem_cons_of_mem _ (ih h)
theorem mem_lk {N : Nat} {L : BL} (hL : OkN N L) {p : Nat × Int} (h : p ∈ L) : lk L p.1 = some p.2 := by
  induction L with
  | nil => cases h
  | cons q t ih =>
    unfold lk
    rcases List.mem_cons.1 h with rfl | h'
    · rw [if_pos rfl]
    · have hne : q.1 ≠ p.1 := (List.pairwise_cons.1 hL.ne).1 p h'
      rw [if_neg (fun e => hne e.symm)]
      exact ih ⟨fun p hp => hL.lt p (List.mem_cons_of_mem _ hp), (List.pairwise_cons.1 hL.so).2, (List.pairwise_cons.1 hL.ne).2⟩ h'
theorem OkN.tail {N : Nat} {p : Nat × Int} {L : BL} (h : OkN N (p :: L)) : OkN N L := ⟨fun q hq => h.lt q (List.mem_cons_of_mem _ hq), (List.pairwise_cons.1 h.so).2, (List.pairwise_cons.1 h.ne).2⟩
theorem rm_ok {N : Nat} {L : BL} (h : OkN N L) (id : Nat) : OkN N (rmL id L) :=
  ⟨fun p hp => h.lt p (List.mem_filter.1 hp).1, h.so.filter _, h.ne.filter _⟩
theorem rm_none {L : BL} {id : Nat} (h : lk L id = none) : rmL id L = L := by
  unfold rmL
  rw [List.filter_eq_self]
  intro p hp
  simpa using lk_none.1 h p hp
theorem rm_lk (L : BL) (id : Nat) : lk (rmL id L) = outM (lk L) id := by
  funext z
  unfold outM
  induction L with
  | nil => unfold rmL; simp [lk]
  | cons q t ih =>
    unfold rmL at ih ⊢
    rw [List.filter_cons]
    by_cases hq : q.1 = id
    · simp only [hq, ne_eq, not_true_eq_false, decide_false, Bool.false_eq_true, if_false]
      rw [ih]
      by_cases hz : z = id
      · rw [if_pos hz, if_pos hz]
      · rw [if_neg hz, if_neg hz]
        show _ = (if z = q.1 then some q.2 else lk t z)
        rw [if_neg (by rw [hq]; exact hz)]
    · simp only [ne_eq, hq, not_false_eq_true, decide_true, if_true]
      show (if z = q.1 then some q.2 else lk (t.filter _) z) = _
      rw [ih]
      show _ = (if z = id then none else if z = q.1 then some q.2 else lk t z)
      by_cases hz : z = id
      · rw [if_pos hz, if_pos hz, if_neg (by rw [hz]; exact fun e => hq e.symm)]
      · rw [if_neg hz, if_neg hz]
theorem rm_len {N : Nat} {L : BL} (hL : OkN N L) {id : Nat} {k : Int} (h : lk L id = some k) : (rmL id L).length + 1 = L.length := by
  induction L with
  | nil => cases h
  | cons q t ih =>
    unfold rmL at ih ⊢
    rw [List.filter_cons]
    by_cases hq : q.1 = id
    · simp only [hq, ne_eq, not_true_eq_false, decide_false, Bool.false_eq_true, if_false]
      have hn : lk t id = none := lk_none.2 fun p hp => by
        have := (List.pairwise_cons.1 hL.ne).1 p hp
        rw [hq] at this
        exact fun e => this e.symm
      have := rm_none hn
      unfold rmL at this
      rw [this]
      rfl
    · simp only [ne_eq, hq, not_false_eq_true, decide_true, if_true]
      have h' : lk t id = some k := by
        unfold lk at h
        rwa [if_neg (fun e => hq e.symm)] at h
      have := ih hL.tail h'
      simp only [ne_eq] at this
      rw [List.length_cons, List.length_cons]
      omega
theorem ok_len {N : Nat} {L : BL} (h : OkN N L) : L.length ≤ N := by
  induction N generalizing L with
  | zero =>
    cases L with
    | nil => exact Nat.le_refl _
    | cons q t => have := h.lt q List.mem_cons_self; omega
  | succ N ih =>
    have h1 : OkN N (rmL N L) := ⟨fun p hp => by
      obtain ⟨h1, h2⟩ := List.mem_filter.1 hp
      have := h.lt p h1
      have h3 : p.1 ≠ N := by simpa using h2
      omega, (rm_ok h N).so, (rm_ok h N).ne⟩
    have h2 := ih h1
    cases hk : lk L N with
    | none => rw [rm_none hk] at h2; omega
    | some k => have := rm_len h hk; omega
theorem ins_mem {p q : Nat × Int} {L : BL} : q ∈ insL p L ↔ q = p ∨ q ∈ L := by
  induction L with
  | nil => simp [insL]
  | cons r t ih =>
    unfold insL
    split
    · rw [List.mem_cons, ih, List.mem_cons]
      constructor
      · rintro (h | h | h)
        · exact Or.inr (Or.inl h)
        · exact Or.inl h
        · exact Or.inr (Or.inr h)
      · rintro (h | h | h)
        · exact Or.inr (Or.inl h)
        · exact Or.inl h
        · exact Or.inr (Or.inr h)
    · simp
theorem ins_ok {N : Nat} {p : Nat × Int} {L : BL} (hL : OkN N L) (hp : p.1 < N) (hn : lk L p.1 = none) : OkN N (insL p L) := by
  have hnm := lk_none.1 hn
  refine ⟨fun q hq => ?_, ?_, ?_⟩
  · rcases ins_mem.1 hq with rfl | h
    · exact hp
    · exact hL.lt q h
  · clear hn
    induction L with
    | nil => simp [insL]
    | cons r t ih =>
      obtain ⟨h1, h2⟩ := List.pairwise_cons.1 hL.so
      unfold insL
      split
      · rename_i hlt
        rw [List.pairwise_cons]
        refine ⟨fun q hq => ?_, ih hL.tail (fun q hq => hnm q (List.mem_cons_of_mem _ hq))⟩
        rcases ins_mem.1 hq with rfl | h
        · exact hlt
        · exact h1 q h
      · rename_i hlt
        have hr := hnm r List.mem_cons_self
        have hpr : ltB p r := by unfold ltB at hlt ⊢; omega
        rw [List.pairwise_cons]
        refine ⟨fun q hq => ?_, hL.so⟩
        rcases List.mem_cons.1 hq with rfl | h
        · exact hpr
        · have := h1 q h
          unfold ltB at this hpr ⊢
          omega
  · clear hn
    induction L with
    | nil => simp [insL]
    | cons r t ih =>
      obtain ⟨h1, h2⟩ := List.pairwise_cons.1 hL.ne
      unfold insL
      split
      · rw [List.pairwise_cons]
        refine ⟨fun q hq => ?_, ih hL.tail (fun q hq => hnm q (List.mem_cons_of_mem _ hq))⟩
        rcases ins_mem.1 hq with rfl | h
        · exact hnm r List.mem_cons_self
        · exact h1 q h
      · rw [List.pairwise_cons]
        exact ⟨fun q hq => fun e => hnm q hq e.symm, hL.ne⟩
theorem ins_len (p : Nat × Int) (L : BL) : (insL p L).length = L.length + 1 := by
  induction L with
  | nil => rfl
  | cons r t ih =>
    unfold insL
    split
    · rw [List.length_cons, ih, List.length_cons]
    · rfl
theorem ins_lk {p : Nat × Int} {L : BL} (hn : lk L p.1 = none) : lk (insL p L) = fun z => if z = p.1 then some p.2 else lk L z := by
  funext z
  induction L with
  | nil => rfl
  | cons r t ih =>
    have hr : p.1 ≠ r.1 := fun e => (lk_none.1 hn) r List.mem_cons_self e.symm
    have hn' : lk t p.1 = none := lk_none.2 fun q hq => lk_none.1 hn q (List.mem_cons_of_mem _ hq)
    unfold insL
    split
    · show (if z = r.1 then some r.2 else lk (insL p t) z) = if z = p.1 then some p.2 else if z = r.1 then some r.2 else lk t z
      rw [ih hn']
      by_cases h1 : z = r.1
      · rw [if_pos h1, if_neg (by rw [h1]; exact fun e => hr e.symm), if_pos h1]
      · rw [if_neg h1, if_neg h1]
    · rfl
theorem pop_lk {N : Nat} {p : Nat × Int} {t : BL} (h : OkN N (p :: t)) : outM (lk (p :: t)) p.1 = lk t := by
  funext z
  unfold outM
  show (if z = p.1 then none else if z = p.1 then some p.2 else lk t z) = _
  by_cases hz : z = p.1
  · rw [if_pos hz, hz]
    exact (lk_none.2 fun q hq => fun e => (List.pairwise_cons.1 h.ne).1 q hq e.symm).symm
  · rw [if_neg hz, if_neg hz]
theorem root_is {n : Nat} {s : HS} {p : Nat × Int} {t : BL} (hr : RepP n s (lk (p :: t))) (hh : HeapP n s) (hL : OkL (p :: t)) : 0 < n ∧ s.I 0 = p.1 ∧ s.K 0 = p.2 := by
  obtain ⟨_, j, hj, hI⟩ := hr.of_ p.1 p.2 (by unfold lk; rw [if_pos rfl])
  have h0 := heap_root hh j hj
  obtain ⟨x, hx1, hx2, hx3, _⟩ := hr.at_ 0 (by omega)
  obtain ⟨y, hy1, hy2, hy3, _⟩ := hr.at_ j hj
  have hyp : y = p.1 := by omega
  subst hyp
  have hKj : s.K j = p.2 := by
    unfold lk at hy3
    rw [if_pos rfl] at hy3
    injection hy3 with hy3
    exact hy3.symm
  have hm := lk_mem hx3
  refine ⟨by omega, ?_⟩
  rcases List.mem_cons.1 hm with he | hm
  · have e1 : x = p.1 := congrArg Prod.fst he
    have e2 : s.K 0 = p.2 := congrArg Prod.snd he
    exact ⟨by omega, e2⟩
  · have := (List.pairwise_cons.1 hL.so).1 _ hm
    unfold ltB at this
    unfold AheadP at h0
    simp only at this
    omega
theorem rep_nil {n : Nat} {s : HS} (hr : RepP n s (lk [])) : n = 0 := by
  rcases Nat.eq_zero_or_pos n with h | h
  · exact h
  · obtain ⟨x, _, _, hx, _⟩ := hr.at_ 0 h
    cases hx
end Go.Proofs.Ytbfbahedbfjcoaa
