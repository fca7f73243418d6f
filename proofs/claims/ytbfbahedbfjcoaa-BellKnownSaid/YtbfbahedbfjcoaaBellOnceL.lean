/- BellOnce, plain: the row of what is armed. -/
import Derived.Test.YtbfbahedbfjcoaaBellNext
namespace Go.Proofs.Ytbfbahedbfjcoaa
set_option linter.all false
open Go.RowKit

/-- One more than the tick of each that is armed. -/
def arF (L : BL) (k : Nat) : Int := match lk L k with | none => 0 | some a => a + 1
def arA (f : Nat → Int) : Array Value := ((List.range 64).map (fun i => Value.int .i64 (f i))).toArray
theorem arA_at (f : Nat → Int) (i : Nat) (h : i < 64) : (arA f)[i]? = some (.int .i64 (f i)) := by unfold arA; simp [h]
theorem arA_set (f f' : Nat → Int) (i : Nat) (v : Int) (hf : ∀ j, f' j = if j = i then v else f j) : (arA f).setIfInBounds i (.int .i64 v) = arA f' := by
  apply Array.ext_getElem?
  intro j
  rw [Array.getElem?_setIfInBounds]
  by_cases hj : j < 64
  · rw [arA_at _ _ hj, arA_at _ _ hj, hf]
    by_cases hij : i = j
    · subst hij
      have : i < (arA f).size := by unfold arA; simp [hj]
      rw [if_pos rfl, if_pos this, if_pos rfl]
    · rw [if_neg hij, if_neg (fun e => hij e.symm)]
  · have h1 : (arA f).size = 64 := by unfold arA; simp
    have h2 : (arA f').size = 64 := by unfold arA; simp
    rw [Array.getElem?_eq_none (by omega), Array.getElem?_eq_none (by omega)]
    split
    · rw [if_neg (by omega)]
    · rfl
theorem arF_nil : arF [] = fun _ => 0 := rfl
theorem arF_arm {L : BL} (kind id a : Int) (hm : MayB kind id) (ht : TkB a) (j : Nat) : arF (armL L kind id a) j = if j = plB kind id then a + 1 else arF L j := by
  unfold arF armL
  rw [if_pos ⟨hm, ht⟩, ins_lk (rm_gone L (plB kind id)), rm_lk]
  unfold outM
  by_cases hj : j = plB kind id
  · simp only [if_pos hj]
  · simp only [if_neg hj]
theorem arF_can {L : BL} (kind id : Int) (hm : MayB kind id) (j : Nat) : arF (canL L kind id) j = if j = plB kind id then 0 else arF L j := by
  unfold arF canL
  rw [if_pos hm, rm_lk]
  unfold outM
  by_cases hj : j = plB kind id
  · simp only [if_pos hj]
  · simp only [if_neg hj]
theorem arF_pop {p : Nat × Int} {t : BL} (h : OkL (p :: t)) (j : Nat) : arF t j = if j = p.1 then 0 else arF (p :: t) j := by
  unfold arF
  by_cases hj : j = p.1
  · rw [if_pos hj, hj]
    have : lk t p.1 = none := lk_none.2 fun q hq => fun e => (List.pairwise_cons.1 h.ne).1 q hq e.symm
    rw [this]
  · rw [if_neg hj]
    have : lk (p :: t) j = lk t j := by
      show (if j = p.1 then some p.2 else lk t j) = _
      rw [if_neg hj]
    rw [this]
theorem arF_head (p : Nat × Int) (t : BL) : arF (p :: t) p.1 = p.2 + 1 := by
  unfold arF
  have : lk (p :: t) p.1 = some p.2 := by
    show (if p.1 = p.1 then some p.2 else lk t p.1) = _
    rw [if_pos rfl]
  rw [this]
theorem arF_pos {L : BL} {m : Int} (h : KB m L) (k : Nat) : (0 < arF L k ↔ (lk L k).isSome = true) ∧ 0 ≤ arF L k ∧ arF L k ≤ m + 1 ∨ m < 0 := by
  unfold arF
  cases hk : lk L k with
  | none =>
    rcases Int.lt_or_le m 0 with h0 | h0
    · exact Or.inr h0
    · left; simp; omega
  | some a =>
    left
    have := h _ (lk_mem hk)
    simp only at this
    simp
    omega
theorem canE_ar {L : BL} {m : Int} (hm0 : 0 ≤ m) (h : KB m L) (kind id : Int) (hm : MayB kind id) : canE L kind id = decide (arF L (plB kind id) > 0) := by
  have := arF_pos h (plB kind id)
  unfold canE
  rw [decide_eq_true hm]
  simp only [Bool.true_and]
  rcases this with ⟨h1, _⟩ | h1
  · by_cases hs : (lk L (plB kind id)).isSome = true
    · rw [hs, decide_eq_true (h1.2 hs)]
    · have h2 : ¬ arF L (plB kind id) > 0 := fun hh => hs (h1.1 hh)
      rw [decide_eq_false h2]
      simpa using hs
  · omega
/-- Who is armed behind what has been told. -/
theorem rest_late {now : Int} {L : BL} (hL : OkL L) : ∀ p, p ∈ restL now L → now < p.2 := by
  induction L with
  | nil => intro p hp; cases hp
  | cons q t ih =>
    intro p hp
    unfold restL at hp ih
    rw [List.dropWhile_cons] at hp
    by_cases hq : q.2 ≤ now
    · rw [if_pos (by simpa using hq)] at hp
      exact ih hL.tail p hp
    · rw [if_neg (by simpa using hq)] at hp
      have := ok_head hL p hp
      omega
theorem due_none {now : Int} {L : BL} (h : ∀ p, p ∈ L → now < p.2) : dueL now L = [] ∧ restL now L = L := by
  cases L with
  | nil => exact ⟨rfl, rfl⟩
  | cons p t =>
    have := h p List.mem_cons_self
    unfold dueL restL
    rw [List.takeWhile_cons, List.dropWhile_cons, decide_eq_false (by omega)]
    simp
def cntB (f : Nat → Int) : Nat → Nat
  | 0 => 0
  | n + 1 => cntB f n + if 0 < f n then 1 else 0
theorem cntB_zero {f : Nat → Int} (n : Nat) (h : ∀ i, i < n → ¬ 0 < f i) : cntB f n = 0 := by
  induction n with
  | zero => rfl
  | succ n ih => rw [cntB, ih fun i hi => h i (by omega), if_neg (h n (by omega))]
theorem cntB_more {f f' : Nat → Int} {x : Nat} (n : Nat) (h : ∀ i, i < n → i ≠ x → (0 < f i ↔ 0 < f' i)) (h1 : 0 < f x) (h2 : ¬ 0 < f' x) : cntB f n = cntB f' n + if x < n then 1 else 0 := by
  induction n with
  | zero => rfl
  | succ n ih =>
    rw [cntB, cntB, ih fun i hi => h i (by omega)]
    by_cases hx : n = x
    · subst hx
      rw [if_pos h1, if_neg h2, if_neg (by omega), if_pos (by omega)]
    · have := h n (by omega) hx
      by_cases h3 : 0 < f n
      · rw [if_pos h3, if_pos (this.1 h3)]
        by_cases h4 : x < n
        · rw [if_pos h4, if_pos (by omega)]; try omega
        · rw [if_neg h4, if_neg (by omega)]; try omega
      · rw [if_neg h3, if_neg (fun hh => h3 (this.2 hh))]
        by_cases h4 : x < n
        · rw [if_pos h4, if_pos (by omega)]
        · rw [if_neg h4, if_neg (by omega)]
theorem cnt_len {m : Int} {L : BL} (hL : OkL L) (hk : KB m L) : cntB (arF L) 64 = L.length := by
  induction L with
  | nil => exact cntB_zero 64 fun i _ => by rw [arF_nil]; exact Int.lt_irrefl 0
  | cons p t ih =>
    have h1 := ih hL.tail (fun q hq => hk q (List.mem_cons_of_mem _ hq))
    have hp := hk p List.mem_cons_self
    have hlt := hL.lt p List.mem_cons_self
    rw [cntB_more (f := arF (p :: t)) (f' := arF t) (x := p.1) 64 (fun i _ hi => by rw [arF_pop hL i, if_neg hi]) (by rw [arF_head]; omega) (by rw [arF_pop hL, if_pos rfl]; omega), h1, if_pos hlt, List.length_cons]
end Go.Proofs.Ytbfbahedbfjcoaa
