/- New of the document's answer. Conditions: the ports in cells. -/
import Derived.Test.YtlaakcgipecldaaRtNewL
namespace Go.Proofs.Ytlaakcgipecldaa
set_option linter.all false
open Go.RowKit

/-- What holds between two rounds. -/
structure MW (n₀ : Nat) (w : World) (rp : Nat) (v : Value) (gs : Nat → Nat) (F : Nat → Nat → Prop) (Ps : List PV) (i : Nat) : Prop where
  r : Blk w rp 87 #[v]
  own : w.ownsRow n₀ 37 1 v i (ptrs gs i)
  lr : n₀ ≤ rp
  nr : v.ownBlock ≠ some rp
  way : ∀ j (h : j < Ps.length), j < i → RwQ Ps[j].f Ps[j].t w (F j) (gs j) (freshE Ps[j]).s
  fl : ∀ j, j < i → ∀ k, F j k → n₀ ≤ k ∧ k < w.heap.size
  dj : ∀ a b, a < i → b < i → a ≠ b → ∀ k, F a k → ¬ F b k
  sp : ∀ j, j < i → ∀ k, F j k → k ≠ rp ∧ v.ownBlock ≠ some k
  bw : n₀ ≤ w.heap.size
  ip : i ≤ Ps.length

section
variable {n₀ : Nat} {w w' : World} {rp : Nat} {v : Value} {gs : Nat → Nat} {F : Nat → Nat → Prop} {Ps : List PV} {i : Nat}

theorem MW.below (h : MW n₀ w rp v gs F Ps i) (hb : Below w.heap.size w w') : MW n₀ w' rp v gs F Ps i := by
  refine ⟨h.r.below hb h.r.lt, own_below h.own hb, h.lr, h.nr, fun j hj hji => ?_, fun j hj k hk => ⟨(h.fl j hj k hk).1, Nat.lt_of_lt_of_le (h.fl j hj k hk).2 hb.size⟩, h.dj, h.sp, Nat.le_trans h.bw hb.size, h.ip⟩
  exact (h.way j hj hji).upd (Upd.of_below hb) fun k hk => by have := (h.fl j hji k hk).2; omega

theorem MW.push (h : MW n₀ w rp v gs F Ps i) (hi : i < Ps.length) {w4 w5 : World} (hb : Below w.heap.size w w4) {gN : Nat} {FN : Nat → Prop}
    (hw : RwQ Ps[i].f Ps[i].t w4 FN gN (freshE Ps[i]).s) (hF : ∀ k, FN k → w.heap.size ≤ k ∧ k < w4.heap.size) {g cap : Nat}
    (hown : w5.ownsRow n₀ 37 1 (.slice (some ⟨g, 0, none⟩) (i + 1) cap) (i + 1) (ptrs gs i ++ [.pointer (some ⟨gN, 0, none⟩)])) (hgrow : w4.grownBy w5 v.ownBlock) (hat : v.ownBlock = some g ∨ g = w4.heap.size) :
    MW n₀ (w5.setCell ⟨rp, 0, none⟩ (.slice (some ⟨g, 0, none⟩) (i + 1) cap)) rp (.slice (some ⟨g, 0, none⟩) (i + 1) cap) (upN gs i gN) (onF F i FN) Ps (i + 1) := by
  have h4 := h.below hb
  have hu1 : Upd (fun k => some k = v.ownBlock ∨ k = rp) w4 w5 := ⟨hgrow.os, hgrow.tape, hgrow.output, hgrow.size, fun k hk hn => hgrow.block k hk fun e => hn (Or.inl e)⟩
  have hu : Upd (fun k => some k = v.ownBlock ∨ k = rp) w4 (w5.setCell ⟨rp, 0, none⟩ (.slice (some ⟨g, 0, none⟩) (i + 1) cap)) := hu1.setCell (p := ⟨rp, 0, none⟩) (fun _ => Or.inr rfl) _
  have hr5 : Blk w5 rp 87 #[v] := (hgrow.block rp h4.r.lt (fun e => h4.nr e.symm)).trans h4.r
  have hvb : ∀ j, v.ownBlock = some j → j < w.heap.size := fun j hj => own_lt2 h.own hj
  have hrb := h.r.lt
  have hgr : g ≠ rp := by
    rcases hat with e | e
    · exact fun e2 => h.nr (by rw [e, e2])
    · have := h4.r.lt; omega
  have hsz := hb.size
  have hgF : ∀ k, (k < w.heap.size → v.ownBlock ≠ some k) → k < w4.heap.size → some g ≠ some k := fun k h1 h2 e => by
    have e : g = k := by simpa using e
    subst e
    rcases hat with e2 | e2
    · exact h1 (hvb _ e2) e2
    · omega
  refine ⟨by simpa using hr5.set_ 0 (.slice (some ⟨g, 0, none⟩) (i + 1) cap), ?_, h.lr, by simpa [Value.ownBlock] using hgr, fun j hj hji => ?_, fun j hj k hk => ?_, fun a b ha hb2 hne k h1 h2 => ?_, fun j hj k hk => ?_, Nat.le_trans h4.bw hu.size, hi⟩
  · rw [ptrs_succ]
    exact hown.kept (grownBy_setCell' _ _ _) (.inr (by simpa [Value.ownBlock] using hgr))
  · by_cases e : j = i
    · subst e
      rw [upN_same, onF_same]
      refine hw.upd hu fun k hk hx => ?_
      have hk3 := hF k hk
      rcases hx with hx | hx
      · have := hvb _ hx.symm; omega
      · omega
    · rw [upN_other _ _ _ _ e, onF_other _ _ _ _ e]
      have hj2 : j < i := by omega
      refine (h4.way j hj hj2).upd hu fun k hk hx => ?_
      have hs3 := h4.sp j hj2 k hk
      rcases hx with hx | hx
      · exact hs3.2 hx.symm
      · exact hs3.1 hx
  · by_cases e : j = i
    · subst e
      rw [onF_same] at hk
      have hk3 := hF k hk
      have := h.bw
      have := hu.size
      omega
    · rw [onF_other _ _ _ _ e] at hk
      have hk3 := h4.fl j (by omega) k hk
      have := hu.size
      omega
  · by_cases e1 : a = i
    · subst e1
      rw [onF_same] at h1
      rw [onF_other _ _ _ _ (Ne.symm hne)] at h2
      have := hF k h1
      have := h.fl b (by omega) k h2
      omega
    · rw [onF_other _ _ _ _ e1] at h1
      by_cases e2 : b = i
      · subst e2
        rw [onF_same] at h2
        have := hF k h2
        have := h.fl a (by omega) k h1
        omega
      · rw [onF_other _ _ _ _ e2] at h2
        exact h.dj a b (by omega) (by omega) hne k h1 h2
  · by_cases e : j = i
    · subst e
      rw [onF_same] at hk
      have hk3 := hF k hk
      exact ⟨by omega, hgF k (fun hx => by omega) hk3.2⟩
    · rw [onF_other _ _ _ _ e] at hk
      have hs3 := h.sp j (by omega) k hk
      have hk3 := h.fl j (by omega) k hk
      exact ⟨hs3.1, hgF k (fun _ => hs3.2) (by omega)⟩

theorem MW.done (h : MW n₀ w rp v gs F Ps Ps.length) : ∃ S A, RlP w S F rp (Ps.map freshE) A gs ∧ (∀ k, S k → n₀ ≤ k) ∧ ∀ j, j < Ps.length → ∀ k, F j k → n₀ ≤ k := by
  obtain ⟨A, c, rfl⟩ := row_form2 h.own
  refine ⟨fun k => k = rp ∨ (Value.slice A Ps.length c).ownBlock = some k, A, ⟨⟨c, by rw [List.length_map]; exact h.r⟩, Or.inl rfl, fun j hj => ?_, fun j hj => ?_, ⟨?_, ?_, ?_, ?_⟩⟩, ?_, fun j hj k hk => (h.fl j hj k hk).1⟩
  · rw [List.length_map] at hj
    obtain ⟨b, rfl⟩ := row_addr h.own (by omega)
    refine ⟨b, 0, rfl, Or.inr rfl, ?_⟩
    have := h.own.cellAt j (by rw [Nat.mul_one]; exact hj)
    rw [Nat.zero_add, this]
    simp [ptrs, hj]
  · have hj' : j < Ps.length := by rw [List.length_map] at hj; exact hj
    simpa [freshE] using h.way j hj' hj'
  · intro a b ha hb hne k h1 h2
    rw [List.length_map] at ha hb
    exact h.dj a b ha hb hne k h1 h2
  · rintro a ha k h1 (h2 | h2)
    · rw [List.length_map] at ha; exact (h.sp a ha k h1).1 h2
    · rw [List.length_map] at ha; exact (h.sp a ha k h1).2 h2
  · rintro k (rfl | h2)
    · exact h.r.lt
    · exact own_lt2 h.own h2
  · intro a ha k h1
    rw [List.length_map] at ha
    exact (h.fl a ha k h1).2
  · rintro k (rfl | h2)
    · exact h.lr
    · exact (own_cells h.own h2).1
end

theorem rway_info : (Try.prog.info? 37).map (fun i => (i.zero, i.size, i.bytes)) = some (some (.pointer none), 1, 8) := by kernel_rfl
theorem qnew_okP (w : World) {p : PV} (h : p.ok) : Calls Try.prog 15 #[.agg #[.int .i64 p.k, .int .i64 p.f, .int .i64 p.t, .int .i64 p.s, .int .i64 p.d, .int .i64 p.a]] w fun r w' => (∃ g, r = .returned (.tuple #[.pointer (some ⟨g, 0, none⟩), .int .i64 0]) ∧ w.heap.size ≤ g ∧ RwQ p.f p.t w' (fun k => w.heap.size ≤ k ∧ k < w'.heap.size) g (freshE p).s) ∧ Below w.heap.size w w' := qnew_ok w h
theorem qnew_noP (w : World) {p : PV} (h : ¬ p.ok) : Calls Try.prog 15 #[.agg #[.int .i64 p.k, .int .i64 p.f, .int .i64 p.t, .int .i64 p.s, .int .i64 p.d, .int .i64 p.a]] w fun r w' => r = .returned (.tuple #[.pointer none, .int .i64 50]) ∧ Below w.heap.size w w' := rnew_no w h
theorem mnew_many (w : World) (A : Option Addr) (c : Nat) (n : Nat) (h8 : 8 < n) :
    Calls Try.prog 24 #[.slice A n c] w fun e w' => e = .returned (.tuple #[.pointer none, .int .i64 5]) ∧ w' = w := by
  have d8 : decide (8 < n) = true := decide_eq_true h8
  have d8' : decide ((8 : Int) < n) = true := decide_eq_true (by omega)
  go_enter Try.func24, Try.ntmps24
  go_wp2_with fail
  go_ret2
  simp

def AllOk (Ps : List PV) : Prop := ∀ i (h : i < Ps.length), Ps[i].ok
theorem all_step {Ps : List PV} {i : Nat} {hi : i < Ps.length} (h : ∀ j (h : j < Ps.length), j < i → Ps[j].ok) (hp : Ps[i].ok) : ∀ j (h : j < Ps.length), j < i + 1 → Ps[j].ok := fun j hj hji => by
  by_cases e : j = i
  · subst e; exact hp
  · exact h j hj (by omega)

set_option maxRecDepth 100000 in
set_option maxHeartbeats 8000000 in
theorem mnew_p (w : World) (A : Option Addr) (c : Nat) (Ps : List PV) (hR : PRd w A Ps) (h8 : Ps.length ≤ 8) :
    Calls Try.prog 24 #[.slice A Ps.length c] w fun e w' => ((∃ rp, e = .returned (.tuple #[.pointer (some ⟨rp, 0, none⟩), .int .i64 0]) ∧ AllOk Ps ∧
      ∃ S F A' gs, RlP w' S F rp (Ps.map freshE) A' gs ∧ (∀ k, S k → w.heap.size ≤ k) ∧ ∀ j, j < Ps.length → ∀ k, F j k → w.heap.size ≤ k) ∨ (e = .returned (.tuple #[.pointer none, .int .i64 50]) ∧ ¬ AllOk Ps)) ∧ Below w.heap.size w w' := by
  have HR := Lib.hid hR
  have d8 : decide (8 < Ps.length) = false := decide_eq_false (by omega)
  have d8' : decide ((8 : Int) < Ps.length) = false := decide_eq_false (by omega)
  obtain ⟨i0, hi0, hz0, hz1, hz2⟩ := info_parts rway_info
  have HI := Lib.hid (And.intro hi0 (And.intro hz0 (And.intro hz1 hz2)))
  have HX := Lib.hid (show (1010 : Nat) ≤ maxLen by decide)
  clear hR hi0 hz0 hz1 hz2
  go_enter Try.func24, Try.ntmps24
  go_wp2_with fail
  go_loopw [5] (fun p wr => ∃ (i : Nat) (v : Value) (gs : Nat → Nat) (F : Nat → Nat → Prop), i ≤ Ps.length ∧ p = .int .i64 (i : Int) ∧ Hid (MW w.heap.size wr (w.heap.size + 1) v gs F Ps i ∧ Below w.heap.size w wr ∧ ∀ j (h : j < Ps.length), j < i → Ps[j].ok)) (fun p _ => Ps.length - (intOf p).toNat)
  case atStart =>
    have b2 := Blk.new (w.alloc (.cells #[] 37)) 87 #[.slice (some ⟨w.heap.size, 0, none⟩) 0 0]
    rw [World.size_alloc] at b2
    have b1 := (Blk.new w 37 #[]).alloc (.cells #[.slice (some ⟨w.heap.size, 0, none⟩) 0 0] 87)
    refine ⟨0, .slice (some ⟨w.heap.size, 0, none⟩) 0 0, fun _ => 0, fun _ _ => False, by omega, rfl, ⟨b2, ⟨rfl, .inr ⟨w.heap.size, 0, #[], rfl, Nat.le_refl _, b1, Nat.le_refl _, Nat.zero_le _, rfl, rfl⟩⟩, by omega, by simp [Value.ownBlock], fun j h hj => absurd hj (Nat.not_lt_zero _), fun j hj => absurd hj (Nat.not_lt_zero _), fun a b ha => absurd ha (Nat.not_lt_zero _), fun j hj => absurd hj (Nat.not_lt_zero _), by simp; omega, Nat.zero_le _⟩, ((Below.refl _ w).alloc (Nat.le_refl _) _).alloc (by simp) _, fun j h hj => absurd hj (Nat.not_lt_zero _)⟩
  case round =>
    obtain ⟨i, v, gs, F, hi, rfl, HN⟩ := hrel
    by_cases hi2 : i < Ps.length
    · have d1 : decide (i < Ps.length) = true := decide_eq_true hi2
      obtain ⟨b, o, hA, hb, p0, p1, p2, p3, p4, p5⟩ := HR.out i hi2
      subst hA
      have q0 := (HN.out.2.1.cell (p := ⟨b, o + i * 6, none⟩) hb).trans p0
      have q1 := (HN.out.2.1.cell (p := ⟨b, o + i * 6 + 1, none⟩) hb).trans p1
      have q2 := (HN.out.2.1.cell (p := ⟨b, o + i * 6 + 2, none⟩) hb).trans p2
      have q3 := (HN.out.2.1.cell (p := ⟨b, o + i * 6 + 3, none⟩) hb).trans p3
      have q4 := (HN.out.2.1.cell (p := ⟨b, o + i * 6 + 4, none⟩) hb).trans p4
      have q5 := (HN.out.2.1.cell (p := ⟨b, o + i * 6 + 5, none⟩) hb).trans p5
      clear p0 p1 p2 p3 p4 p5
      by_cases hpo : ¬ Ps[i].ok
      · have HPO := Lib.hid hpo
        have HALL : Hid (¬ AllOk Ps) := fun h => hpo (h i hi2)
        clear hpo
        go_wp2_with (go_at_call 15; refine (qnew_noP _ HPO.out).mono ?_; rintro e x1 ⟨rfl, hb1⟩; have HP1 := Lib.hid hb1; clear hb1)
        go_ret2
        exact ⟨Or.inr ⟨rfl, HALL.out⟩, HN.out.2.1.trans (HP1.out.mono HN.out.1.bw)⟩
      have HPO := Lib.hid (Decidable.not_not.1 hpo)
      clear hpo
      go_wp2_with (first
        | (go_at_call 15; refine (qnew_okP _ HPO.out).mono ?_; rintro e x1 ⟨⟨g, rfl, hg, hp⟩, hb1⟩; have HP1 := Lib.hid (And.intro hg (And.intro hp hb1))
           have HN1 := Lib.hid (HN.out.1.below hb1)
           have z0 := HN1.out.r.cell 0
           simp at z0
           clear hg hp hb1 q0 q1 q2 q3 q4 q5)
        | (at_builtin
           refine wpList_append_lies _ (by rfl) _ _ 85 (by rfl) w.heap.size 37 i0 _ 1 8 Try.underlying85 HI.out.1 HI.out.2.1 HI.out.2.2.1 HI.out.2.2.2 (by decide) (by decide) v i (ptrs gs i) (by rfl) (kept_alloc HN1.out.own) ⟨x1.heap.size, 0, none⟩ 1 1 [.pointer (some ⟨g, 0, none⟩)] (by rfl) (by rfl) (World.news_of_block (cs := #[.pointer (some ⟨g, 0, none⟩)]) (t := 37) (fr := (0, 0)) (heap_alloc_new x1 _)) (by simp [Value.oneCell']) (by decide) (by have := HX.out; omega) (by omega) (by have := HN1.out.bw; simp; omega) (x1.heap.size + 1) (by simp) ?_
           intro g9 c9 w9 hown hgrow hat hlt9
           have hb4 : Below wr.heap.size wr (x1.alloc (.cells #[.pointer (some ⟨g, 0, none⟩)] 37)) := HP1.out.2.2.alloc HP1.out.2.2.size _
           have HP9 := Lib.hid (HN.out.1.push hi2 hb4 (HP1.out.2.1.upd ((Upd.refl (fun _ => False) x1).alloc _) (fun _ _ h => h)) (fun k hk => ⟨hk.1, by simp; omega⟩) hown hgrow (hat.imp id (fun e => by rw [e]; simp)))
           have hr9 : Blk w9 (w.heap.size + 1) 87 #[v] := (hgrow.block (w.heap.size + 1) ((HN1.out.r.alloc _).lt) (fun e => HN.out.1.nr e.symm)).trans (HN1.out.r.alloc _)
           have HBB : Hid (Below w.heap.size w w9) := (HN.out.2.1.trans (hb4.mono HN.out.1.bw)).grown hgrow (Nat.le_trans HN.out.1.bw hb4.size) (fun j e => (own_cells HN.out.1.own e).1)
           have z9 := hr9.cell 0
           have f9 := hr9.frozen 0
           simp at z9
           clear hown hgrow hat hlt9 hr9 hb4))
      all_goals exact ⟨⟨i + 1, _, _, _, by omega, rfl, HP9.out, HBB.out.setCell (p := ⟨w.heap.size + 1, 0, none⟩) (by show w.heap.size ≤ w.heap.size + 1; omega) _, all_step HN.out.2.2 HPO.out⟩, by simp [intOf]; omega⟩
    · have d1 : decide (i < Ps.length) = false := decide_eq_false hi2
      go_wp2_with fail
      go_ret2
      have e : i = Ps.length := by omega
      subst e
      obtain ⟨S, A', h1, h2, h3⟩ := HN.out.1.done
      exact ⟨Or.inl ⟨_, rfl, fun j hj => HN.out.2.2 j hj hj, S, F, A', gs, h1, h2, h3⟩, HN.out.2.1⟩
end Go.Proofs.Ytlaakcgipecldaa
