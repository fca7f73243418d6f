/- All ports of a system, in memory: the program's and the document's. No condition. -/
import Derived.Test.YtlaakcgipecldaaRtWay
import Derived.Test.YtlaakcgipecldaaRtReach
namespace Go.Proofs.Ytlaakcgipecldaa
set_option linter.all false
open Go.RowKit

/-- A port: its two ends, and what its way has. -/
structure RE where
  f : Int
  t : Int
  s : WS

def onE (L : List RE) (i : Nat) (s : WS) : List RE := L.modify i fun e => { e with s := s }
theorem onE_length (L : List RE) (i : Nat) (s : WS) : (onE L i s).length = L.length := by simp [onE]
theorem onE_same (L : List RE) (i : Nat) (s : WS) (h : i < (onE L i s).length) : (onE L i s)[i] = { L[i]'(by rw [onE_length] at h; exact h) with s := s } := by simp [onE]
theorem onE_other (L : List RE) (i j : Nat) (s : WS) (h : j < (onE L i s).length) (hne : j ≠ i) : (onE L i s)[j] = L[j]'(by rw [onE_length] at h; exact h) := by
  simp [onE, List.getElem_modify, Ne.symm hne]

/-- The row of pointers, in spine blocks. -/
def PRow (w : World) (S : Nat → Prop) (A : Option Addr) (n : Nat) (hs : Nat → Nat) : Prop :=
  ∀ i, i < n → ∃ b o, A = some ⟨b, o, none⟩ ∧ S b ∧ w.cell? ⟨b, o + i, none⟩ = some (.pointer (some ⟨hs i, 0, none⟩))

structure Foot (w : World) (S : Nat → Prop) (F : Nat → Nat → Prop) (n : Nat) : Prop where
  dj : ∀ i j, i < n → j < n → i ≠ j → ∀ k, F i k → ¬ F j k
  sp : ∀ i, i < n → ∀ k, F i k → ¬ S k
  sl : ∀ k, S k → k < w.heap.size
  fl : ∀ i, i < n → ∀ k, F i k → k < w.heap.size

/-- The program's: S: the blocks that no call writes; F i: those of port i's way. -/
structure RtP (w : World) (S : Nat → Prop) (F : Nat → Nat → Prop) (rp : Nat) (L : List RE) (A : Option Addr) (hs gs : Nat → Nat) : Prop where
  rt : ∃ c, Blk w rp 81 #[.slice A L.length c, .bool true]
  sr : S rp
  row : PRow w S A L.length hs
  way : ∀ i (h : i < L.length), S (hs i) ∧ Blk w (hs i) 84 #[.pointer (some ⟨gs i, 0, none⟩), .int .i64 L[i].f, .int .i64 L[i].t] ∧ WayP w (F i) (gs i) L[i].s
  ft : Foot w S F L.length

/-- The document's. -/
structure RlP (w : World) (S : Nat → Prop) (F : Nat → Nat → Prop) (rp : Nat) (L : List RE) (A : Option Addr) (gs : Nat → Nat) : Prop where
  rt : ∃ c, Blk w rp 87 #[.slice A L.length c]
  sr : S rp
  row : PRow w S A L.length gs
  way : ∀ i (h : i < L.length), RwQ L[i].f L[i].t w (F i) (gs i) L[i].s
  ft : Foot w S F L.length

def onF (F : Nat → Nat → Prop) (i : Nat) (F' : Nat → Prop) : Nat → Nat → Prop := fun j => if j = i then F' else F j
theorem onF_same (F : Nat → Nat → Prop) (i : Nat) (F' : Nat → Prop) : onF F i F' i = F' := if_pos rfl
theorem onF_other (F : Nat → Nat → Prop) (i j : Nat) (F' : Nat → Prop) (h : j ≠ i) : onF F i F' j = F j := if_neg h

section
variable {w w' : World} {S : Nat → Prop} {F : Nat → Nat → Prop} {rp n : Nat} {L : List RE} {A : Option Addr} {hs gs : Nat → Nat} {i : Nat}

theorem PRow.upd {X : Nat → Prop} (h : PRow w S A n hs) (hu : Upd X w w') (hX : ∀ k, S k → ¬ X k) (hl : ∀ k, S k → k < w.heap.size) : PRow w' S A n hs := fun i hi => by
  obtain ⟨b, o, h1, h2, h3⟩ := h i hi
  exact ⟨b, o, h1, h2, (World.cell?_of_block (w := w) (a := ⟨b, o + i, none⟩) (hu.block b (hl b h2) (hX b h2))).trans h3⟩

theorem Foot.on (h : Foot w S F n) (hi : i < n) {F' : Nat → Prop} (hF : ∀ k, F' k → growF (F i) w w' k) (hs : w.heap.size ≤ w'.heap.size) : Foot w' S (onF F i F') n := by
  have key : ∀ k, F' k → ∀ j, j < n → j ≠ i → ¬ F j k := fun k hk j hj hne hjk => by
    rcases hF k hk with h1 | h1
    · exact h.dj j i hj hi hne k hjk h1
    · have := h.fl j hj k hjk; have := h1.1; omega
  refine ⟨fun a b ha hb hne k h1 h2 => ?_, fun a ha k h1 h2 => ?_, fun k hk => Nat.lt_of_lt_of_le (h.sl k hk) hs, fun a ha k h1 => ?_⟩
  · by_cases e1 : a = i
    · subst e1
      rw [onF_same] at h1
      rw [onF_other _ _ _ _ (Ne.symm hne)] at h2
      exact key k h1 b hb (Ne.symm hne) h2
    · rw [onF_other _ _ _ _ e1] at h1
      by_cases e2 : b = i
      · subst e2
        rw [onF_same] at h2
        exact key k h2 a ha e1 h1
      · rw [onF_other _ _ _ _ e2] at h2
        exact h.dj a b ha hb hne k h1 h2
  · by_cases e1 : a = i
    · subst e1
      rw [onF_same] at h1
      rcases hF k h1 with h3 | h3
      · exact h.sp a ha k h3 h2
      · have := h.sl k h2; have := h3.1; omega
    · rw [onF_other _ _ _ _ e1] at h1
      exact h.sp a ha k h1 h2
  · by_cases e1 : a = i
    · subst e1
      rw [onF_same] at h1
      rcases hF k h1 with h3 | h3
      · exact Nat.lt_of_lt_of_le (h.fl a ha k h3) hs
      · exact h3.2
    · rw [onF_other _ _ _ _ e1] at h1
      exact Nat.lt_of_lt_of_le (h.fl a ha k h1) hs

/-- One way has moved. -/
theorem RtP.on (h : RtP w S F rp L A hs gs) (hi : i < L.length) {F' : Nat → Prop} {s' : WS} (hp : WayP w' F' (gs i) s') (hF : ∀ k, F' k → growF (F i) w w' k) (hu : Upd (F i) w w') : RtP w' S (onF F i F') rp (onE L i s') A hs gs := by
  have hS : ∀ k, S k → ¬ F i k := fun k h1 h2 => h.ft.sp i hi k h2 h1
  obtain ⟨c, hc⟩ := h.rt
  refine ⟨⟨c, by rw [onE_length]; exact hc.upd hu (hS _ h.sr)⟩, h.sr, by rw [onE_length]; exact h.row.upd hu hS h.ft.sl, fun j hj => ?_, by rw [onE_length]; exact h.ft.on hi hF hu.size⟩
  have hj' : j < L.length := by rw [onE_length] at hj; exact hj
  obtain ⟨h1, h2, h3⟩ := h.way j hj'
  by_cases e : j = i
  · subst e
    rw [onE_same, onF_same]
    exact ⟨h1, h2.upd hu (hS _ h1), hp⟩
  · rw [onE_other _ _ _ _ _ e, onF_other _ _ _ _ e]
    exact ⟨h1, h2.upd hu (hS _ h1), h3.upd hu fun k hk hk2 => h.ft.dj j i hj' hi e k hk hk2⟩

theorem RlP.on (h : RlP w S F rp L A gs) (hi : i < L.length) {F' : Nat → Prop} {s' : WS} (hp : RwQ L[i].f L[i].t w' F' (gs i) s') (hF : ∀ k, F' k → growF (F i) w w' k) (hu : Upd (F i) w w') : RlP w' S (onF F i F') rp (onE L i s') A gs := by
  have hS : ∀ k, S k → ¬ F i k := fun k h1 h2 => h.ft.sp i hi k h2 h1
  obtain ⟨c, hc⟩ := h.rt
  refine ⟨⟨c, by rw [onE_length]; exact hc.upd hu (hS _ h.sr)⟩, h.sr, by rw [onE_length]; exact h.row.upd hu hS h.ft.sl, fun j hj => ?_, by rw [onE_length]; exact h.ft.on hi hF hu.size⟩
  have hj' : j < L.length := by rw [onE_length] at hj; exact hj
  have h3 := h.way j hj'
  by_cases e : j = i
  · subst e
    rw [onE_same, onF_same]
    exact hp
  · rw [onE_other _ _ _ _ _ e, onF_other _ _ _ _ e]
    exact h3.upd hu fun k hk hk2 => h.ft.dj j i hj' hi e k hk hk2

theorem Foot.keep (h : Foot w S F n) (hs : w.heap.size ≤ w'.heap.size) : Foot w' S F n :=
  ⟨h.dj, h.sp, fun k hk => Nat.lt_of_lt_of_le (h.sl k hk) hs, fun a ha k h1 => Nat.lt_of_lt_of_le (h.fl a ha k h1) hs⟩
/-- A step that touches none of its blocks. -/
theorem RtP.far {X : Nat → Prop} (h : RtP w S F rp L A hs gs) (hu : Upd X w w') (hS : ∀ k, S k → ¬ X k) (hF : ∀ i, i < L.length → ∀ k, F i k → ¬ X k) : RtP w' S F rp L A hs gs := by
  obtain ⟨c, hc⟩ := h.rt
  refine ⟨⟨c, hc.upd hu (hS _ h.sr)⟩, h.sr, h.row.upd hu hS h.ft.sl, fun j hj => ?_, h.ft.keep hu.size⟩
  obtain ⟨h1, h2, h3⟩ := h.way j hj
  exact ⟨h1, h2.upd hu (hS _ h1), h3.upd hu (hF j hj)⟩
theorem RlP.far {X : Nat → Prop} (h : RlP w S F rp L A gs) (hu : Upd X w w') (hS : ∀ k, S k → ¬ X k) (hF : ∀ i, i < L.length → ∀ k, F i k → ¬ X k) : RlP w' S F rp L A gs := by
  obtain ⟨c, hc⟩ := h.rt
  exact ⟨⟨c, hc.upd hu (hS _ h.sr)⟩, h.sr, h.row.upd hu hS h.ft.sl, fun j hj => (h.way j hj).upd hu (hF j hj), h.ft.keep hu.size⟩

def ends (L : List RE) : List (Int × Int) := L.map fun e => (e.f, e.t)
theorem RtP.rd (h : RtP w S F rp L A hs gs) : RtRd w.heap.size w rp (ends L) := by
  obtain ⟨c, hc⟩ := h.rt
  have c0 := hc.cell 0
  have c1 := hc.cell 1
  simp at c0 c1
  refine ⟨hc.lt, c1, A, c, by rw [ends, List.length_map]; exact c0, fun i hi => ?_⟩
  have hi' : i < L.length := by rw [ends, List.length_map] at hi; exact hi
  obtain ⟨b, o, h1, h2, h3⟩ := h.row i hi'
  obtain ⟨h4, h5, h6⟩ := h.way i hi'
  have d1 := h5.cell 1
  have d2 := h5.cell 2
  simp at d1 d2
  exact ⟨b, o, hs i, h1, h.ft.sl b h2, h.ft.sl _ h4, h3, by simpa [ends] using d1, by simpa [ends] using d2⟩
end
end Go.Proofs.Ytlaakcgipecldaa
