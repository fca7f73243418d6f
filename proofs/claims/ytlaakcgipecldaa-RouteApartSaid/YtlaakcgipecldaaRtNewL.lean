/- Building all ports of a system: what holds between two rounds. No condition. -/
import Derived.Test.YtlaakcgipecldaaRtLaw2
namespace Go.Proofs.Ytlaakcgipecldaa
set_option linter.all false
open Go.RowKit

structure PV where
  k : Int
  f : Int
  t : Int
  s : Int
  d : Int
  a : Int
def PV.ok (p : PV) : Prop := PortOk p.k p.f p.t p.s p.d p.a
instance (p : PV) : Decidable p.ok := by unfold PV.ok; infer_instance
def freshE (p : PV) : RE := ⟨p.f, p.t, newW p.k p.s p.d p.a⟩

/-- Ports in cells. -/
def PRd (w : World) (A : Option Addr) (Ps : List PV) : Prop := ∀ i (h : i < Ps.length), ∃ b o, A = some ⟨b, o, none⟩ ∧ b < w.heap.size ∧
  w.cell? ⟨b, o + i * 6, none⟩ = some (.int .i64 Ps[i].k) ∧ w.cell? ⟨b, o + i * 6 + 1, none⟩ = some (.int .i64 Ps[i].f) ∧ w.cell? ⟨b, o + i * 6 + 2, none⟩ = some (.int .i64 Ps[i].t) ∧
  w.cell? ⟨b, o + i * 6 + 3, none⟩ = some (.int .i64 Ps[i].s) ∧ w.cell? ⟨b, o + i * 6 + 4, none⟩ = some (.int .i64 Ps[i].d) ∧ w.cell? ⟨b, o + i * 6 + 5, none⟩ = some (.int .i64 Ps[i].a)
theorem PRd.below {w w' : World} {A : Option Addr} {Ps : List PV} (h : PRd w A Ps) (hb : Below w.heap.size w w') : PRd w' A Ps := fun i hi => by
  obtain ⟨b, o, hA, hl, h0, h1, h2, h3, h4, h5⟩ := h i hi
  exact ⟨b, o, hA, Nat.lt_of_lt_of_le hl hb.size, (hb.cell (p := ⟨b, _, none⟩) hl).trans h0, (hb.cell (p := ⟨b, _, none⟩) hl).trans h1, (hb.cell (p := ⟨b, _, none⟩) hl).trans h2, (hb.cell (p := ⟨b, _, none⟩) hl).trans h3, (hb.cell (p := ⟨b, _, none⟩) hl).trans h4, (hb.cell (p := ⟨b, _, none⟩) hl).trans h5⟩

def ptrs (hs : Nat → Nat) (i : Nat) : List Value := (List.range i).map fun j => Value.pointer (some ⟨hs j, 0, none⟩)
def upN (hs : Nat → Nat) (i x : Nat) : Nat → Nat := fun j => if j = i then x else hs j
theorem upN_same (hs : Nat → Nat) (i x : Nat) : upN hs i x i = x := if_pos rfl
theorem upN_other (hs : Nat → Nat) (i x j : Nat) (h : j ≠ i) : upN hs i x j = hs j := if_neg h
theorem ptrs_succ (hs : Nat → Nat) (i x : Nat) : ptrs (upN hs i x) (i + 1) = ptrs hs i ++ [.pointer (some ⟨x, 0, none⟩)] := by
  unfold ptrs
  rw [List.range_succ, List.map_append, List.map_cons, List.map_nil, upN_same]
  congr 1
  refine List.map_congr_left fun j hj => ?_
  rw [upN_other _ _ _ _ (by have := List.mem_range.1 hj; omega)]

structure NW (n₀ : Nat) (w : World) (rp : Nat) (v : Value) (hs gs : Nat → Nat) (F : Nat → Nat → Prop) (Ps : List PV) (i : Nat) : Prop where
  r : Blk w rp 81 #[v, .bool true]
  own : w.ownsRow n₀ 82 1 v i (ptrs hs i)
  lr : n₀ ≤ rp
  nr : v.ownBlock ≠ some rp
  way : ∀ j (h : j < Ps.length), j < i → n₀ ≤ hs j ∧ Blk w (hs j) 84 #[.pointer (some ⟨gs j, 0, none⟩), .int .i64 Ps[j].f, .int .i64 Ps[j].t] ∧ WayP w (F j) (gs j) (freshE Ps[j]).s
  fl : ∀ j, j < i → ∀ k, F j k → n₀ ≤ k ∧ k < w.heap.size
  dj : ∀ a b, a < i → b < i → a ≠ b → ∀ k, F a k → ¬ F b k
  sp : ∀ j, j < i → ∀ k, F j k → k ≠ rp ∧ v.ownBlock ≠ some k ∧ ∀ j', j' < i → k ≠ hs j'
  bw : n₀ ≤ w.heap.size
  ip : i ≤ Ps.length

theorem own_lt2 {w : World} {base : Nat} {e : TypeId} {size : Nat} {u : Value} {k : Nat} {xs : List Value} (h : w.ownsRow base e size u k xs) {j : Nat} (hj : u.ownBlock = some j) : j < w.heap.size := (own_cells h hj).2.1
theorem own_not {w : World} {B : Nat} {T e : TypeId} {cs : Array Value} {base size : Nat} {u : Value} {k : Nat} {xs : List Value} (h : Blk w B T cs) (hne : e ≠ T) (hr : w.ownsRow base e size u k xs) : u.ownBlock ≠ some B := by
  rcases hr.2 with ⟨rfl, _⟩ | ⟨g, cap, cur, rfl, _, hgb, _⟩
  · simp [Value.ownBlock]
  · intro e'
    obtain rfl : g = B := by simpa [Value.ownBlock] using e'
    have h2 := hgb.symm.trans h
    injection h2 with h2
    injection h2 with _ h2
    exact hne h2
theorem own_below {w w' : World} {base : Nat} {e : TypeId} {size : Nat} {u : Value} {k : Nat} {xs : List Value} (h : w.ownsRow base e size u k xs) (hb : Below w.heap.size w w') : w'.ownsRow base e size u k xs :=
  h.kept (row := none) ⟨hb.os, hb.tape, hb.output, hb.size, fun k hk _ => hb.block k hk⟩ (by
    cases hu : u.ownBlock with
    | none => exact .inl rfl
    | some j => exact .inr (by simp))

section
variable {n₀ : Nat} {w w' : World} {rp : Nat} {v : Value} {hs gs : Nat → Nat} {F : Nat → Nat → Prop} {Ps : List PV} {i : Nat}

theorem NW.below (h : NW n₀ w rp v hs gs F Ps i) (hb : Below w.heap.size w w') : NW n₀ w' rp v hs gs F Ps i := by
  refine ⟨h.r.below hb h.r.lt, own_below h.own hb, h.lr, h.nr, fun j hj hji => ?_, fun j hj k hk => ⟨(h.fl j hj k hk).1, Nat.lt_of_lt_of_le (h.fl j hj k hk).2 hb.size⟩, h.dj, h.sp, Nat.le_trans h.bw hb.size, h.ip⟩
  obtain ⟨h1, h2, h3⟩ := h.way j hj hji
  exact ⟨h1, h2.below hb h2.lt, h3.upd (Upd.of_below hb) fun k hk => by have := (h.fl j hji k hk).2; omega⟩

theorem NW.push (h : NW n₀ w rp v hs gs F Ps i) (hi : i < Ps.length) {w4 w5 : World} (hb : Below w.heap.size w w4) {hN gN : Nat} {FN : Nat → Prop} (hh : w.heap.size ≤ hN) (hbl : Blk w4 hN 84 #[.pointer (some ⟨gN, 0, none⟩), .int .i64 Ps[i].f, .int .i64 Ps[i].t])
    (hw : WayP w4 FN gN (freshE Ps[i]).s) (hF : ∀ k, FN k → w.heap.size ≤ k ∧ k < w4.heap.size ∧ k ≠ hN) {g cap : Nat}
    (hown : w5.ownsRow n₀ 82 1 (.slice (some ⟨g, 0, none⟩) (i + 1) cap) (i + 1) (ptrs hs i ++ [.pointer (some ⟨hN, 0, none⟩)])) (hgrow : w4.grownBy w5 v.ownBlock) (hat : v.ownBlock = some g ∨ g = w4.heap.size) :
    NW n₀ (w5.setCell ⟨rp, 0, none⟩ (.slice (some ⟨g, 0, none⟩) (i + 1) cap)) rp (.slice (some ⟨g, 0, none⟩) (i + 1) cap) (upN hs i hN) (upN gs i gN) (onF F i FN) Ps (i + 1) := by
  have h4 := h.below hb
  have hu1 : Upd (fun k => some k = v.ownBlock ∨ k = rp) w4 w5 := ⟨hgrow.os, hgrow.tape, hgrow.output, hgrow.size, fun k hk hn => hgrow.block k hk fun e => hn (Or.inl e)⟩
  have hu : Upd (fun k => some k = v.ownBlock ∨ k = rp) w4 (w5.setCell ⟨rp, 0, none⟩ (.slice (some ⟨g, 0, none⟩) (i + 1) cap)) := hu1.setCell (p := ⟨rp, 0, none⟩) (fun _ => Or.inr rfl) _
  have hr5 : Blk w5 rp 81 #[v, .bool true] := (hgrow.block rp h4.r.lt (fun e => h4.nr e.symm)).trans h4.r
  have hvb : ∀ j, v.ownBlock = some j → j < w.heap.size := fun j hj => own_lt2 h.own hj
  have hrb := h.r.lt
  have hgr : g ≠ rp := by
    rcases hat with e | e
    · exact fun e2 => h.nr (by rw [e, e2])
    · have := h4.r.lt; omega
  have hsz := hb.size
  have hgF : ∀ k, (k < w.heap.size → v.ownBlock ≠ some k) → k < w4.heap.size → some g ≠ some k := fun k h1 h2 e => by
    have e : g = k := by simpa using e
    subst e
    rcases hat with e2 | e2
    · exact h1 (hvb _ e2) e2
    · omega
  refine ⟨by simpa using hr5.set_ 0 (.slice (some ⟨g, 0, none⟩) (i + 1) cap), ?_, h.lr, by simpa [Value.ownBlock] using hgr, fun j hj hji => ?_, fun j hj k hk => ?_, fun a b ha hb2 hne k h1 h2 => ?_, fun j hj k hk => ?_, Nat.le_trans h4.bw hu.size, hi⟩
  · rw [ptrs_succ]
    exact hown.kept (grownBy_setCell' _ _ _) (.inr (by simpa [Value.ownBlock] using hgr))
  · by_cases e : j = i
    · subst e
      rw [upN_same, upN_same, onF_same]
      have hbw := h.bw
      refine ⟨by omega, hbl.upd hu (fun hx => ?_), hw.upd hu fun k hk hx => ?_⟩
      · rcases hx with hx | hx
        · have := hvb _ hx.symm; omega
        · omega
      · have hk3 := hF k hk
        rcases hx with hx | hx
        · have := hvb _ hx.symm; omega
        · omega
    · rw [upN_other _ _ _ _ e, upN_other _ _ _ _ e, onF_other _ _ _ _ e]
      have hj2 : j < i := by omega
      obtain ⟨q1, q2, q3⟩ := h4.way j hj hj2
      refine ⟨q1, q2.upd hu (fun hx => ?_), q3.upd hu fun k hk hx => ?_⟩
      · rcases hx with hx | hx
        · exact own_not q2 (by decide) h4.own hx.symm
        · exact (q2.ne_ h4.r (by decide)) hx
      · have hs3 := h4.sp j hj2 k hk
        rcases hx with hx | hx
        · exact hs3.2.1 hx.symm
        · exact hs3.1 hx
  · by_cases e : j = i
    · subst e
      rw [onF_same] at hk
      have hk3 := hF k hk
      have := h.bw
      have := hu.size
      omega
    · rw [onF_other _ _ _ _ e] at hk
      have hk3 := h4.fl j (by omega) k hk
      have := hu.size
      omega
  · by_cases e1 : a = i
    · subst e1
      rw [onF_same] at h1
      rw [onF_other _ _ _ _ (Ne.symm hne)] at h2
      have := hF k h1
      have := h.fl b (by omega) k h2
      omega
    · rw [onF_other _ _ _ _ e1] at h1
      by_cases e2 : b = i
      · subst e2
        rw [onF_same] at h2
        have := hF k h2
        have := h.fl a (by omega) k h1
        omega
      · rw [onF_other _ _ _ _ e2] at h2
        exact h.dj a b (by omega) (by omega) hne k h1 h2
  · by_cases e : j = i
    · subst e
      rw [onF_same] at hk
      have hk3 := hF k hk
      refine ⟨by omega, hgF k (fun hx => by omega) hk3.2.1, fun j' hj' => ?_⟩
      by_cases e2 : j' = j
      · subst e2; rw [upN_same]; exact hk3.2.2
      · rw [upN_other _ _ _ _ e2]
        have := (h.way j' (by have := h.ip; omega) (by omega)).2.1.lt
        omega
    · rw [onF_other _ _ _ _ e] at hk
      have hs3 := h.sp j (by omega) k hk
      have hk3 := h.fl j (by omega) k hk
      refine ⟨hs3.1, hgF k (fun _ => hs3.2.1) (by omega), fun j' hj' => ?_⟩
      by_cases e2 : j' = i
      · subst e2; rw [upN_same]; omega
      · rw [upN_other _ _ _ _ e2]; exact hs3.2.2 j' (by omega)

/-- All are there. -/
theorem NW.done (h : NW n₀ w rp v hs gs F Ps Ps.length) : ∃ S A, RtP w S F rp (Ps.map freshE) A hs gs ∧ (∀ k, S k → n₀ ≤ k) ∧ ∀ j, j < Ps.length → ∀ k, F j k → n₀ ≤ k := by
  obtain ⟨A, c, rfl⟩ := row_form2 h.own
  refine ⟨fun k => k = rp ∨ (Value.slice A Ps.length c).ownBlock = some k ∨ ∃ j, j < Ps.length ∧ k = hs j, A, ⟨⟨c, by rw [List.length_map]; exact h.r⟩, Or.inl rfl, fun j hj => ?_, fun j hj => ?_, ⟨?_, ?_, ?_, ?_⟩⟩, ?_, fun j hj k hk => (h.fl j hj k hk).1⟩
  · rw [List.length_map] at hj
    obtain ⟨b, rfl⟩ := row_addr h.own (by omega)
    refine ⟨b, 0, rfl, Or.inr (Or.inl rfl), ?_⟩
    have := h.own.cellAt j (by rw [Nat.mul_one]; exact hj)
    rw [Nat.zero_add, this]
    simp [ptrs, hj]
  · have hj' : j < Ps.length := by rw [List.length_map] at hj; exact hj
    obtain ⟨q1, q2, q3⟩ := h.way j hj' hj'
    exact ⟨Or.inr (Or.inr ⟨j, hj', rfl⟩), by simpa [freshE] using q2, by simpa using q3⟩
  · intro a b ha hb hne k h1 h2
    rw [List.length_map] at ha hb
    exact h.dj a b ha hb hne k h1 h2
  · rintro a ha k h1 (h2 | h2 | ⟨j, hj, h2⟩)
    · rw [List.length_map] at ha; exact (h.sp a ha k h1).1 h2
    · rw [List.length_map] at ha; exact (h.sp a ha k h1).2.1 h2
    · rw [List.length_map] at ha; exact (h.sp a ha k h1).2.2 j hj h2
  · rintro k (rfl | h2 | ⟨j, hj, rfl⟩)
    · exact h.r.lt
    · exact own_lt2 h.own h2
    · exact (h.way j hj hj).2.1.lt
  · intro a ha k h1
    rw [List.length_map] at ha
    exact (h.fl a ha k h1).2
  · rintro k (rfl | h2 | ⟨j, hj, rfl⟩)
    · exact h.lr
    · exact (own_cells h.own h2).1
    · exact (h.way j hj hj).1
end
end Go.Proofs.Ytlaakcgipecldaa
