/- The document's bells: how they lie; New, Count, Next, At. -/
import Derived.Test.YtbfbahedbfjcoaaBellAt
import Derived.BigQuiet
namespace Go.Proofs.Ytbfbahedbfjcoaa
set_option linter.all false
open Go.RowKit
attribute [local go_sem ↓] Go.wp_at_zero Go.wp_at_succ

/-- A row of bells, from an offset on. -/
def BRow (w : World) (F : Nat → Prop) (v : Value) (L : BL) : Prop :=
  (v = .slice none 0 0 ∧ L = []) ∨ ∃ g off cap cur, v = .slice (some ⟨g, off, none⟩) L.length cap ∧ F g ∧ Blk w g 36 cur ∧ L.length ≤ cap ∧ off + cap * 3 ≤ cur.size ∧ ∀ j u, (bellC L)[j]? = some u → cur[off + j]? = some u
theorem bellC_at {L : BL} {i : Nat} {p : Nat × Int} (h : L[i]? = some p) : (bellC L)[i * 3]? = some (.int .i64 p.2) ∧ (bellC L)[i * 3 + 1]? = some (.int .i64 (p.1 / 16 : Nat)) ∧ (bellC L)[i * 3 + 2]? = some (.int .i64 (p.1 % 16 : Nat)) := by
  induction L generalizing i with
  | nil => simp at h
  | cons q t ih =>
    cases i with
    | zero => simp at h; subst h; exact ⟨rfl, rfl, rfl⟩
    | succ i =>
      have := ih (i := i) (by simpa using h)
      rw [show (i + 1) * 3 = i * 3 + 3 from by omega, show i * 3 + 3 + 1 = (i * 3 + 1) + 3 from by omega, show i * 3 + 3 + 2 = (i * 3 + 2) + 3 from by omega]
      exact this
theorem BRow.mono {w : World} {F F' : Nat → Prop} {v : Value} {L : BL} (h : BRow w F v L) (hF : ∀ k, F k → F' k) : BRow w F' v L := by
  rcases h with h | ⟨g, off, cap, cur, h1, h2, h3⟩
  · exact Or.inl h
  · exact Or.inr ⟨g, off, cap, cur, h1, hF _ h2, h3⟩
theorem BRow.upd {w w' : World} {F S : Nat → Prop} {v : Value} {L : BL} (h : BRow w F v L) (hu : Upd S w w') (hS : ∀ k, S k → ¬ F k) : BRow w' F v L := by
  rcases h with h | ⟨g, off, cap, cur, h1, h2, h3, h4⟩
  · exact Or.inl h
  · exact Or.inr ⟨g, off, cap, cur, h1, h2, h3.upd hu (fun e => hS _ e h2), h4⟩
theorem BRow.far {w : World} {F : Nat → Prop} {v : Value} {L : BL} (h : BRow w F v L) {gm : Nat} {cs : Array Value} (hb : Blk w gm 58 cs) (i : Nat) (u : Value) : BRow (w.setCell ⟨gm, i, none⟩ u) F v L := by
  rcases h with h | ⟨g, off, cap, cur, h1, h2, h3, h4⟩
  · exact Or.inl h
  · exact Or.inr ⟨g, off, cap, cur, h1, h2, h3.far (p := ⟨gm, i, none⟩) (h3.ne_ hb (by decide)) u, h4⟩
theorem BRow.sl {w : World} {F : Nat → Prop} {v : Value} {L : BL} (h : BRow w F v L) : ∃ A c, v = .slice A L.length c := by
  rcases h with ⟨h, h'⟩ | ⟨g, off, cap, cur, h1, _⟩
  · subst h'; exact ⟨_, _, h⟩
  · exact ⟨_, _, h1⟩
theorem BRow.at_ {w : World} {F : Nat → Prop} {v : Value} {L : BL} (h : BRow w F v L) (i : Nat) (hi : i < L.length) : ∃ g off cap p, v = .slice (some ⟨g, off, none⟩) L.length cap ∧ F g ∧ L[i]? = some p ∧ w.cell? ⟨g, off + i * 3, none⟩ = some (.int .i64 p.2) ∧ w.cell? ⟨g, off + i * 3 + 1, none⟩ = some (.int .i64 (p.1 / 16 : Nat)) ∧ w.cell? ⟨g, off + i * 3 + 2, none⟩ = some (.int .i64 (p.1 % 16 : Nat)) ∧ L.length ≤ cap := by
  rcases h with ⟨h, h'⟩ | ⟨g, off, cap, cur, h1, h2, h3, h4, h5, h6⟩
  · subst h'; simp at hi
  · obtain ⟨k1, k2, k3⟩ := bellC_at (List.getElem?_eq_getElem hi)
    exact ⟨g, off, cap, _, h1, h2, List.getElem?_eq_getElem hi, (h3.cell _).trans (h6 _ _ k1), (by rw [Nat.add_assoc]; exact (h3.cell _).trans (h6 _ _ k2)), (by rw [Nat.add_assoc]; exact (h3.cell _).trans (h6 _ _ k3)), h4⟩
theorem brow_own {w : World} {B : Nat} {v : Value} {L : BL} (h : w.ownsRow B 36 3 v L.length (bellC L)) : BRow w (fun k => B ≤ k ∧ k < w.heap.size) v L := by
  rcases h.2 with ⟨h1, h2⟩ | ⟨g, cap, cur, hv, hB, hb, h1, h2, h3, h4⟩
  · exact Or.inl ⟨h1, List.eq_nil_of_length_eq_zero h2⟩
  · refine Or.inr ⟨g, 0, cap, cur, hv, ⟨hB, Blk.lt hb⟩, hb, ?_, ?_, fun j u hj => ?_⟩
    · omega
    · omega
    · have hjl : j < (bellC L).length := by
        rcases Nat.lt_or_ge j (bellC L).length with h' | h'
        · exact h'
        · rw [List.getElem?_eq_none h'] at hj; cases hj
      rw [bellC_len] at hjl
      rw [Nat.zero_add, ← Array.getElem?_toList]
      rw [← h4, List.getElem?_take, if_pos hjl] at hj
      exact hj

/-- The document's bells. -/
structure RbJ (w : World) (F : Nat → Prop) (gm : Nat) (L : BL) : Prop where
  fm : F gm
  ex : ∃ v, Blk w gm 58 #[v] ∧ BRow w F v L
  lt : ∀ k, F k → k < w.heap.size
  ok : OkL L
theorem RbJ.upd {w w' : World} {F S : Nat → Prop} {gm : Nat} {L : BL} (h : RbJ w F gm L) (hu : Upd S w w') (hS : ∀ k, S k → ¬ F k) : RbJ w' F gm L := by
  obtain ⟨v, h1, h2⟩ := h.ex
  exact ⟨h.fm, ⟨v, h1.upd hu (fun e => hS _ e h.fm), h2.upd hu hS⟩, fun k hk => Nat.lt_of_lt_of_le (h.lt k hk) hu.size, h.ok⟩

set_option maxHeartbeats 1000000 in
theorem rbnew (w : World) : Calls Try.prog 16 #[] w fun r w' => (∃ gm, r = .returned (.pointer (some ⟨gm, 0, none⟩)) ∧ RbJ w' (fun k => w.heap.size ≤ k ∧ k < w'.heap.size) gm []) ∧ Below w.heap.size w w' := by
  go_enter Try.func16, Try.ntmps16
  go_wp2_with fail
  go_ret
  exact ⟨⟨w.heap.size, rfl, ⟨⟨Nat.le_refl _, by simp⟩, ⟨_, Blk.new w _ _, Or.inl ⟨rfl, rfl⟩⟩, fun k hk => hk.2, ⟨fun p hp => (by cases hp), List.Pairwise.nil, List.Pairwise.nil⟩⟩⟩, (Below.refl _ _).alloc (Nat.le_refl _) _⟩
set_option maxHeartbeats 1000000 in
theorem rbcount {w : World} {F : Nat → Prop} {gm : Nat} {L : BL} (h : RbJ w F gm L) : Calls Try.prog 18 #[.pointer (some ⟨gm, 0, none⟩)] w fun r w' => r = .returned (.int .i64 (L.length : Nat)) ∧ w = w' := by
  obtain ⟨v, h1, h2⟩ := h.ex
  obtain ⟨A, c, rfl⟩ := h2.sl
  have c0 : w.cell? ⟨gm, 0, none⟩ = some (.slice A L.length c) := h1.cell 0
  clear h1 h2 h
  go_enter Try.func18, Try.ntmps18
  go_wp2_with fail
  go_ret
  exact ⟨rfl, rfl⟩
set_option maxHeartbeats 1000000 in
theorem rbnext {w : World} {F : Nat → Prop} {gm : Nat} {L : BL} (h : RbJ w F gm L) : Calls Try.prog 35 #[.pointer (some ⟨gm, 0, none⟩)] w fun r w' => r = .returned (.tuple #[.int .i64 (nxK L), .bool (nxB L)]) ∧ w = w' := by
  obtain ⟨v, h1, h2⟩ := h.ex
  cases L with
  | nil =>
    obtain ⟨A, c, rfl⟩ := h2.sl
    have c0 : w.cell? ⟨gm, 0, none⟩ = some (.slice A 0 c) := h1.cell 0
    have e1 : nxK [] = 0 := rfl
    have e2 : nxB [] = false := rfl
    rw [e1, e2]
    clear h1 h2 h
    go_enter Try.func35, Try.ntmps35
    go_wp2_with fail
    go_ret2
    exact ⟨rfl, rfl⟩
  | cons q t =>
    obtain ⟨g, off, cap, p, rfl, hF, hp, c1, _, _, hcap⟩ := h2.at_ 0 (by simp)
    simp at hp
    subst hp
    have e1 : nxK (q :: t) = q.2 := rfl
    have e2 : nxB (q :: t) = true := rfl
    rw [e1, e2]
    obtain ⟨n, hn⟩ : ∃ n, (q :: t).length = n := ⟨_, rfl⟩
    obtain ⟨k, hk⟩ : ∃ k, q.2 = k := ⟨_, rfl⟩
    have hn1 : 0 < n := by rw [← hn]; simp
    have hn2 : (0 : Int) < n := by omega
    have hn0 : ((n : Int) == 0) = false := by simp; omega
    rw [hn] at h1
    rw [hk] at c1 ⊢
    have c0 : w.cell? ⟨gm, 0, none⟩ = some (.slice (some ⟨g, off, none⟩) n cap) := h1.cell 0
    simp at c1
    clear h1 h2 h hcap hn hk
    go_enter Try.func35, Try.ntmps35
    go_wp2_with fail
    go_ret2
    exact ⟨rfl, rfl⟩

/-- Is a bell of that kind and id? -/
def isB (kind id : Int) (p : Nat × Int) : Prop := ((p.1 / 16 : Nat) : Int) = kind ∧ ((p.1 % 16 : Nat) : Int) = id
instance (kind id : Int) (p : Nat × Int) : Decidable (isB kind id p) := by unfold isB; infer_instance
theorem isB_may {kind id : Int} {p : Nat × Int} (hp : p.1 < 64) : isB kind id p ↔ MayB kind id ∧ p.1 = plB kind id := by
  unfold isB MayB plB
  omega
def rmK (kind id : Int) (L : BL) : BL := L.filter (fun p => decide (¬ isB kind id p))
theorem rmK_is {L : BL} (hL : OkL L) (kind id : Int) : rmK kind id L = canL L kind id := by
  unfold rmK canL
  by_cases hm : MayB kind id
  · rw [if_pos hm]
    unfold rmL
    apply List.filter_congr
    intro p hp
    rw [decide_eq_decide]
    rw [isB_may (hL.lt p hp)]
    exact not_congr ⟨fun h => h.2, fun h => ⟨hm, h⟩⟩
  · rw [if_neg hm, List.filter_eq_self]
    intro p hp
    rw [decide_eq_true_eq]
    intro h
    exact hm ((isB_may (hL.lt p hp)).1 h).1
theorem was_is {L : BL} (hL : OkL L) (kind id : Int) : decide (((canL L kind id).length : Int) < (L.length : Int)) = canE L kind id := by
  unfold canL canE
  by_cases hm : MayB kind id
  · rw [if_pos hm, decide_eq_true hm]
    cases hk : lk L (plB kind id) with
    | none => rw [rm_none hk]; simp
    | some k =>
      have := rm_len hL hk
      rw [decide_eq_true (by omega)]
      rfl
  · rw [if_neg hm, decide_eq_false hm]
    simp
/-- What At tells. -/
def fnK (kind id : Int) : BL → Int × Bool
  | [] => (0, false)
  | p :: t => if isB kind id p then (p.2, true) else fnK kind id t
theorem fnK_is {L : BL} (hL : OkL L) (kind id : Int) : fnK kind id L = (atK L kind id, canE L kind id) := by
  induction L with
  | nil => unfold atK canE; simp [fnK, lk]
  | cons p t ih =>
    have := ih hL.tail
    have hb := isB_may (kind := kind) (id := id) (hL.lt p List.mem_cons_self)
    unfold fnK
    by_cases h : isB kind id p
    · obtain ⟨h1, h2⟩ := hb.1 h
      rw [if_pos h]
      unfold atK canE
      rw [if_pos h1, decide_eq_true h1, ← h2]
      unfold lk
      rw [if_pos rfl]
      rfl
    · rw [if_neg h, this]
      unfold atK canE
      by_cases h1 : MayB kind id
      · have h2 : ¬ plB kind id = p.1 := fun e => h (hb.2 ⟨h1, e.symm⟩)
        have e : lk (p :: t) (plB kind id) = lk t (plB kind id) := by
          show (if plB kind id = p.1 then _ else _) = _
          rw [if_neg h2]
        rw [e]
      · rw [if_neg h1, if_neg h1, decide_eq_false h1]
        rfl

set_option maxRecDepth 100000 in
set_option maxHeartbeats 2000000 in
theorem rbat {w : World} {F : Nat → Prop} {gm : Nat} {L : BL} (h : RbJ w F gm L) (kind id : Int) : Calls Try.prog 20 #[.pointer (some ⟨gm, 0, none⟩), .int .i64 kind, .int .i64 id] w fun r w' => r = .returned (.tuple #[.int .i64 (atK L kind id), .bool (canE L kind id)]) ∧ w = w' := by
  obtain ⟨v, h1, h2⟩ := h.ex
  obtain ⟨A, c, rfl⟩ := h2.sl
  have HL := Lib.hid (ok_len h.ok)
  have hf := fnK_is h.ok kind id
  obtain ⟨q, hq⟩ : ∃ q, atK L kind id = q := ⟨_, rfl⟩
  obtain ⟨qb, hqb⟩ : ∃ q, canE L kind id = q := ⟨_, rfl⟩
  rw [hq, hqb] at hf ⊢
  have HF := Lib.hid hf
  obtain ⟨n, hn⟩ : ∃ n, L.length = n := ⟨_, rfl⟩
  rw [hn] at h1 h2
  have c0 : w.cell? ⟨gm, 0, none⟩ = some (.slice A n c) := h1.cell 0
  have H2 := Lib.hid (And.intro h2 hn)
  clear h1 h2 h hf hq hqb hn
  go_enter Try.func20, Try.ntmps20
  go_wp2_with fail
  go_loopw [8] (fun vi wr => ∃ i : Nat, i ≤ n ∧ vi = .int .i64 (i : Int) ∧ Hid (w = wr ∧ fnK kind id (L.drop i) = (q, qb))) (fun vi _ => n - (intOf vi).toNat)
  case atStart => exact ⟨0, by omega, rfl, rfl, HF.out⟩
  case round =>
    obtain ⟨i, hi, rfl, HI⟩ := hrel
    have hwe := HI.out.1
    subst hwe
    have hx0 : (0 : Int) ≤ i := by omega
    have w1 : IntKind.i64.wrap ((i : Int) + 1) = (i : Int) + 1 := IntWalk.i64_in _ (by have := HL.out; have := H2.out.2; omega)
    by_cases hin : i < n
    · have hx1 : (i : Int) < n := by omega
      obtain ⟨g, off, cap, p, hv, _, hp, y0, y1, y2, _⟩ := H2.out.1.at_ i (by have := H2.out.2; omega)
      injection hv with hA _ hc
      subst hA hc
      obtain ⟨a, ha⟩ : ∃ a : Int, ((p.1 / 16 : Nat) : Int) = a := ⟨_, rfl⟩
      obtain ⟨b, hb⟩ : ∃ a : Int, ((p.1 % 16 : Nat) : Int) = a := ⟨_, rfl⟩
      obtain ⟨k, hk⟩ : ∃ k, p.2 = k := ⟨_, rfl⟩
      rw [hk] at y0
      rw [ha] at y1
      rw [hb] at y2
      have hdr : L.drop i = p :: L.drop (i + 1) := by
        rw [List.drop_eq_getElem_cons (by have := H2.out.2; omega)]
        rw [List.getElem?_eq_getElem (by have := H2.out.2; omega)] at hp
        injection hp with hp
        rw [hp]
      have hfn := HI.out.2
      rw [hdr] at hfn
      unfold fnK at hfn
      have HFN := Lib.hid hfn
      have HAB := Lib.hid (And.intro ha (And.intro hb hk))
      clear hp hdr hfn ha hb hk
      by_cases h1 : a = kind
      · have hb1 : (a == kind) = true := by simp [h1]
        by_cases h2 : b = id
        · have hb2 : (b == id) = true := by simp [h2]
          have hz := HFN.out
          rw [if_pos (show isB kind id p from ⟨HAB.out.1.trans h1, HAB.out.2.1.trans h2⟩)] at hz
          injection hz with hz1 hz2
          have hz1 := HAB.out.2.2.symm.trans hz1
          subst hz1
          subst hz2
          clear h1 h2
          go_wp2_with fail
          go_ret2
          exact ⟨rfl, rfl⟩
        · have hb2 : (b == id) = false := by simp [h2]
          have hz := HFN.out
          rw [if_neg (show ¬ isB kind id p from fun e => h2 (HAB.out.2.1.symm.trans e.2))] at hz
          have HZ := Lib.hid hz
          clear h1 h2 hz
          go_wp2_with fail
          exact ⟨⟨i + 1, by omega, by go_num, True.intro, HZ.out⟩, by simp [intOf]; try omega⟩
      · have hb1 : (a == kind) = false := by simp [h1]
        have hz := HFN.out
        rw [if_neg (show ¬ isB kind id p from fun e => h1 (HAB.out.1.symm.trans e.1))] at hz
        have HZ := Lib.hid hz
        clear h1 hz
        go_wp2_with fail
        exact ⟨⟨i + 1, by omega, by go_num, True.intro, HZ.out⟩, by simp [intOf]; try omega⟩
    · obtain rfl : i = n := by omega
      have hz := HI.out.2
      rw [List.drop_eq_nil_of_le (by have := H2.out.2; omega)] at hz
      unfold fnK at hz
      injection hz with hz1 hz2
      subst hz1 hz2
      go_wp2_with fail
      go_ret2
      exact ⟨rfl, rfl⟩
end Go.Proofs.Ytbfbahedbfjcoaa
