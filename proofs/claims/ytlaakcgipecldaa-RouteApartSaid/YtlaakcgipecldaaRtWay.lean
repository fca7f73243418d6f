/- Contracts of the document's answer for a port, its two ends told. -/
import Derived.Test.YtlaakcgipecldaaPortPlays
namespace Go.Proofs.Ytlaakcgipecldaa
set_option linter.all false
open Go.RowKit
section
variable {pf pt : Int}

def RwQ (pf pt : Int) (w : World) (F : Nat → Prop) (g : Nat) (s : WS) : Prop :=
  ∃ d a rv at_, F g ∧ Blk w g 78 #[.int .i64 s.kind, .int .i64 pf, .int .i64 pt, .int .i64 s.size, .int .i64 d, .int .i64 a, rv, .int .i64 at_] ∧ QRow w F rv s.L ∧ (s.kind = 1 ∨ s.kind = 2) ∧ (s.kind = 1 → a = s.lim) ∧ (s.kind = 2 → d = s.lim) ∧ (s.kind = 1 → s.L ≠ [] → at_ = s.at_ ∧ 0 ≤ at_ ∧ at_ ≤ 1099511627776)

theorem RwQ.upd {S F : Nat → Prop} {w w' : World} {g : Nat} {s : WS} (h : RwQ pf pt w F g s) (hu : Upd S w w') (hs : ∀ k, F k → ¬ S k) : RwQ pf pt w' F g s := by
  obtain ⟨d, a, rv, at_, hF, hb, hq, h3⟩ := h
  exact ⟨d, a, rv, at_, hF, hb.upd hu (hs _ hF), hq.upd hu hs, h3⟩
theorem RwQ.mono {F F' : Nat → Prop} {w : World} {g : Nat} {s : WS} (h : RwQ pf pt w F g s) (hs : ∀ k, F k → F' k) : RwQ pf pt w F' g s := by
  obtain ⟨d, a, rv, at_, hF, hb, hq, h3⟩ := h
  exact ⟨d, a, rv, at_, hs _ hF, hb, hq.mono hs, h3⟩

set_option maxRecDepth 100000 in
set_option maxHeartbeats 1000000 in
theorem qlen_any {w : World} {F : Nat → Prop} {g : Nat} {s : WS} (h : RwQ pf pt w F g s) (hl : s.L.length ≤ 4) :
    Calls Try.prog 22 #[.pointer (some ⟨g, 0, none⟩)] w fun r w' => r = .returned (.int .i64 s.L.length) ∧ w = w' := by
  obtain ⟨d, a, rv, at_, hF, hb, hq, _⟩ := h
  obtain ⟨a', c', rfl⟩ := hq.len
  have c6 := hb.cell 6
  simp at c6
  clear hb hq
  go_enter Try.func22, Try.ntmps22
  go_wp2_with fail
  go_ret
  exact ⟨rfl, rfl⟩

set_option maxHeartbeats 1000000 in
theorem qclear_any {w : World} {F : Nat → Prop} {g : Nat} {s : WS} (h : RwQ pf pt w F g s) :
    Calls Try.prog 21 #[.pointer (some ⟨g, 0, none⟩)] w fun r w' => r = .returned (.tuple #[]) ∧ RwQ pf pt w' F g (clearS s) ∧ Upd F w w' := by
  obtain ⟨d, a, rv, at_, hF, hb, hq, hk, h1, h2, h3⟩ := h
  have c6 := hb.cell 6
  have f6 := hb.frozen 6
  simp at c6
  have HB := Lib.hid hb
  clear hb hq
  go_enter Try.func21, Try.ntmps21
  go_wp2_with fail
  refine bodyPost_end (v := .tuple #[]) (by simp [results, Try.results21]) rfl ⟨rfl, ⟨d, a, .slice none 0 0, at_, hF, ?_, Or.inl ⟨rfl, rfl⟩, hk, h1, h2, fun _ hn => absurd rfl hn⟩, (Upd.refl _ _).setCell (p := ⟨g, 6, none⟩) (fun _ => hF) _⟩
  simpa [clearS] using HB.out.set_ 6 (.slice none 0 0)

set_option maxRecDepth 100000 in
set_option maxHeartbeats 2000000 in
theorem qsend_any {w : World} {F : Nat → Prop} {g : Nat} {s : WS} (h : RwQ pf pt w F g s) (ho : WOk s) (m : ByteArray) (t : Int) (hm : m.size ≤ maxLen) :
    Calls Try.prog 18 #[.pointer (some ⟨g, 0, none⟩), .string m, .int .i64 t] w fun r w' => r = .returned (.int .i64 (sendE s m.size t)) ∧ RwQ pf pt w' (growF F w w') g (sendS s m t) ∧ Upd F w w' := by
  have H := Lib.hid h
  have HSELF := Lib.hid (show RwQ pf pt w (growF F w w) g s from h.mono fun k hk => Or.inl hk)
  obtain ⟨d, a, rv, at_, hF, hb, hq, hk, h1, h2, h3⟩ := h
  have c0 := hb.cell 0
  have c3 := hb.cell 3
  have c4 := hb.cell 4
  have c6 := hb.cell 6
  have c7 := hb.cell 7
  have f6 := hb.frozen 6
  have f7 := hb.frozen 7
  simp at c0 c3 c4 c6 c7
  have hlt := hb.lt
  have HB := Lib.hid hb
  have HQ := Lib.hid hq
  obtain ⟨sz1, sz2⟩ := ho.size
  obtain ⟨n, hn⟩ : ∃ n, m.size = n := ⟨_, rfl⟩
  have hnb : (n : Int) ≤ 9223372036854775807 := by rw [← hn]; simp [maxLen] at hm; omega
  have HN := Lib.hid hn
  have H123 := Lib.hid (And.intro hk (And.intro h1 (And.intro h2 h3)))
  clear hm hb hq h1 h2 h3
  by_cases hs : s.size < (n : Int)
  · have e1 : sendE s m.size t = 2 := by unfold sendE; rw [hn, if_pos (Or.inl hs)]
    have e2 : sendS s m t = s := by unfold sendS; rw [if_neg (by rw [e1]; decide)]
    rw [e1, e2]
    clear e1 e2
    go_enter Try.func18, Try.ntmps18
    go_wp2_with fail
    go_ret
    exact ⟨rfl, HSELF.out, Upd.refl _ _⟩
  · by_cases ht : 0 ≤ t ∧ t ≤ 1099511627776
    · have hdt : decide (0 ≤ t ∧ t ≤ 1099511627776) = true := decide_eq_true ht
      have hc0 : ¬ (s.size < (m.size : Int) ∨ ¬ (0 ≤ t ∧ t ≤ 1099511627776)) := by omega
      rcases hk with hk | hk
      · have e1 : sendE s m.size t = 0 := by unfold sendE; rw [if_neg hc0, if_pos hk]
        have e2 : sendS s m t = { s with L := [m], at_ := t } := by unfold sendS; rw [if_pos e1, if_pos hk]
        rw [e1, e2]
        rw [hk] at c0
        have HK := Lib.hid hk
        have HTT := Lib.hid ht
        clear e1 e2 hc0 ht hk
        go_enter Try.func18, Try.ntmps18
        go_wp2_with (go_at_call 35; refine (rwithin_any _ _ _ _).mono ?_; rintro r w1 ⟨rfl, rfl⟩; rw [hdt])
        go_ret
        refine ⟨rfl, ⟨d, a, .slice (some ⟨w.heap.size, 0, none⟩) 1 1, t, Or.inl hF, ?_, Or.inr ⟨w.heap.size, 0, 1, #[.string m], rfl, Or.inr ⟨Nat.le_refl _, by simp⟩, ?_, Nat.le_refl _, by simp, fun i x hi => ?_⟩, H123.out.1, H123.out.2.1, H123.out.2.2.1, fun _ _ => ⟨rfl, HTT.out⟩⟩, ?_⟩
        · simpa using ((HB.out.set_ 6 (.slice (some ⟨w.heap.size, 0, none⟩) 1 1)).set_ 7 (.int .i64 t)).alloc (.cells #[.string m] 9)
        · have := Blk.new ((w.setCell ⟨g, 6, none⟩ (.slice (some ⟨w.heap.size, 0, none⟩) 1 1)).setCell ⟨g, 7, none⟩ (.int .i64 t)) 9 #[.string m]
          simpa using this
        · cases i with
          | zero => simp at hi; subst hi; rfl
          | succ i => simp at hi
        · exact (((Upd.refl _ _).setCell (p := ⟨g, 6, none⟩) (fun _ => hF) _).setCell (p := ⟨g, 7, none⟩) (fun _ => hF) _).alloc _
      · have hkn : s.kind ≠ 1 := by omega
        have hkb : ((s.kind : Int) == 1) = false := by simpa using hkn
        have hd := H123.out.2.2.1 hk
        obtain ⟨o1, o2, o3⟩ := ho.que hk
        have hl4 : s.L.length ≤ 4 := by omega
        obtain ⟨a', c', rfl⟩ := HQ.out.len
        subst hd
        by_cases he : (s.L.length : Int) = s.lim
        · have e1 : sendE s m.size t = 7 := by unfold sendE; rw [if_neg hc0, if_neg hkn, if_pos he]
          have e2 : sendS s m t = s := by unfold sendS; rw [if_neg (by rw [e1]; decide)]
          rw [e1, e2]
          have hb : ((s.L.length : Int) == s.lim) = true := by simp [he]
          clear e1 e2 hc0 ht hk hkn he
          go_enter Try.func18, Try.ntmps18
          go_wp2_with (go_at_call 35; refine (rwithin_any _ _ _ _).mono ?_; rintro r w1 ⟨rfl, rfl⟩; rw [hdt])
          go_quiet (fail)
          go_wp2_with fail
          go_ret
          exact ⟨rfl, (H.out.upd ((Upd.refl (fun _ => False) _).drewN nq) (fun _ _ h => h)).mono (fun k hk => Or.inl hk), (Upd.refl _ _).drewN _⟩
        · have e1 : sendE s m.size t = 0 := by unfold sendE; rw [if_neg hc0, if_neg hkn, if_neg he]
          have e2 : sendS s m t = { s with L := s.L ++ [m] } := by unfold sendS; rw [if_pos e1, if_neg hkn]
          rw [e1, e2]
          have hb : ((s.L.length : Int) == s.lim) = false := by simpa using he
          have HQ2 := Lib.hid (HQ.out.off HB.out (by decide))
          have HK2 := Lib.hid hk
          clear e1 e2 hc0 ht hk hkn he
          go_enter Try.func18, Try.ntmps18
          go_wp2_with (go_at_call 35; refine (rwithin_any _ _ _ _).mono ?_; rintro r w1 ⟨rfl, rfl⟩; rw [hdt])
          go_quiet (fail)
          have HQ3 := Lib.hid ((HQ2.out.drewN nq).alloc (.cells #[.string m] 9))
          go_wp2_with (at_builtin; refine wpList_append_qrow _ (by rfl) _ _ (by rfl) (by rfl) HQ3.out hl4 ⟨w.heap.size, 0, none⟩ 1 (by rfl) (World.news_of_block (cs := #[.string m]) (t := 9) (fr := (0, 0)) (heap_alloc_new (w.drewN nq) _)) ?_
                       intro a2' c2' y hq2 hu2
                       have hb2 := ((HB.out.drewN nq).alloc (.cells #[.string m] 9)).upd hu2 (fun h => h.2 rfl)
                       have f6 := hb2.frozen 6
                       have c6 := hb2.cell 6
                       simp at c6
                       have HZ := Lib.hid (And.intro hq2 (And.intro hu2 hb2))
                       clear hq2 hu2 hb2)
          go_ret
          refine ⟨rfl, ⟨s.lim, a, .slice a2' (s.L.length + 1) c2', at_, Or.inl hF, ?_, ?_, H123.out.1, H123.out.2.1, fun _ => rfl, fun h => absurd h (by have := HK2.out; show ¬ s.kind = 1; omega)⟩, ?_⟩
          · simpa using HZ.out.2.2.set_ 6 (.slice a2' (s.L.length + 1) c2')
          · refine (HZ.out.1.far (p := ⟨g, 6, none⟩) ?_ _).mono fun k hk => ?_
            · intro h
              rcases h with h | h
              · exact h.2 rfl
              · have := h.1; simp at this; omega
            · rcases hk with hk | hk
              · exact Or.inl hk.1
              · exact Or.inr ⟨by have := hk.1; simp at this; omega, by simpa using hk.2⟩
          · refine Upd.setCell ?_ (p := ⟨g, 6, none⟩) (fun _ => hF) _
            exact (((Upd.refl F w).drewN nq).alloc (.cells #[.string m] 9)).trans (HZ.out.2.1.mono fun k hk => hk.1)
    · have e1 : sendE s m.size t = 2 := by unfold sendE; rw [if_pos (Or.inr ht)]
      have e2 : sendS s m t = s := by unfold sendS; rw [if_neg (by rw [e1]; decide)]
      have hdt : decide (0 ≤ t ∧ t ≤ 1099511627776) = false := decide_eq_false ht
      rw [e1, e2]
      clear e1 e2 ht
      go_enter Try.func18, Try.ntmps18
      go_wp2_with (go_at_call 35; refine (rwithin_any _ _ _ _).mono ?_; rintro r w1 ⟨rfl, rfl⟩; rw [hdt])
      go_ret
      exact ⟨rfl, HSELF.out, Upd.refl _ _⟩

set_option maxRecDepth 100000 in
set_option maxHeartbeats 2000000 in
theorem qrecv_any {w : World} {F : Nat → Prop} {g : Nat} {s : WS} (h : RwQ pf pt w F g s) (ho : WOk s) (t : Int) :
    Calls Try.prog 19 #[.pointer (some ⟨g, 0, none⟩), .int .i64 t] w fun r w' => r = .returned (.tuple #[.string (recvM s t), .bool (recvB s t), .int .i64 (recvE s t)]) ∧ RwQ pf pt w' F g (recvS s t) ∧ Upd F w w' := by
  have H := Lib.hid h
  obtain ⟨d, a, rv, at_, hF, hb, hq, hk, h1, h2, h3⟩ := h
  have c0 := hb.cell 0
  have c5 := hb.cell 5
  have c6 := hb.cell 6
  have c7 := hb.cell 7
  have f6 := hb.frozen 6
  simp at c0 c5 c6 c7
  have HB := Lib.hid hb
  have hl4 : s.L.length ≤ 4 := by
    rcases hk with hk | hk
    · have := ho.smp hk; omega
    · have := ho.que hk; omega
  by_cases ht : 0 ≤ t ∧ t ≤ 1099511627776
  · have hdt : decide (0 ≤ t ∧ t ≤ 1099511627776) = true := decide_eq_true ht
    by_cases hl : s.L.length = 0
    · have e0 : recvE s t = 8 := by unfold recvE; rw [if_pos ht, if_pos hl]
      have e1 : recvM s t = emptyS := by unfold recvM; rw [if_neg (by rw [e0]; decide)]
      have e2 : recvB s t = false := by unfold recvB; rw [if_neg (by rw [e0]; decide)]
      have e3 : recvS s t = s := by unfold recvS; rw [if_neg (fun h => by rw [e0] at h; exact absurd h.1 (by decide))]
      rw [e0, e1, e2, e3]
      have hz : ((s.L.length : Int) == 0) = true := by rw [hl]; rfl
      obtain ⟨a', c', rfl⟩ := hq.len
      clear e0 e1 e2 e3 hb hq h1 h2 h3 ht hl
      go_enter Try.func19, Try.ntmps19
      go_wp2_with (go_at_call 35; refine (rwithin_any _ _ _ _).mono ?_; rintro r w1 ⟨rfl, rfl⟩; rw [hdt])
      go_ret3
      exact ⟨rfl, H.out, Upd.refl _ _⟩
    · have e0 : recvE s t = 0 := by unfold recvE; rw [if_pos ht, if_neg hl]
      have hz : ((s.L.length : Int) == 0) = false := beq_eq_false_iff_ne.mpr (by omega)
      rcases hq with ⟨_, hn⟩ | ⟨gi, oi, cap, cur, rfl, hFi, hblk, hle, hcap, hcells⟩
      · rw [hn] at hl; exact absurd rfl hl
      · cases hL : s.L with
        | nil => rw [hL] at hl; exact absurd rfl hl
        | cons m L' =>
          rw [hL] at hcells hle hz c6
          have em : (wb : World) → True := fun _ => trivial
          clear em
          have x0 : w.cell? ⟨gi, oi, none⟩ = some (.string m) := by rw [hblk.cell oi]; exact hcells 0 m rfl
          have hne : g ≠ gi := hb.ne_ hblk (by decide)
          have hcc := Lib.hid hcells
          have HBK := Lib.hid hblk
          have hc1 : (1 : Int) ≤ cap := by simp at hle; omega
          have hc2 : 1 ≤ cap := by simp at hle; omega
          have hlc : L'.length + 1 ≤ cap := by simpa using hle
          have hh : (1 : Int) ≤ (L'.length : Int) + 1 := by omega
          have hh2 : (0 : Int) < (L'.length : Int) + 1 := by omega
          have hz0 : ((L'.length : Int) + 1 == 0) = false := beq_eq_false_iff_ne.mpr (by omega)
          have e1 : recvM s t = m := by unfold recvM; rw [if_pos e0, hL]; rfl
          rcases hk with hk | hk
          · obtain ⟨hat, ha0, ha1⟩ := h3 hk (by rw [hL]; intro h; cases h)
            have hal := h1 hk
            have e2 : recvB s t = decide (t - at_ ≤ a) := by unfold recvB; rw [if_pos e0, if_pos hk, hat, hal]
            have e3 : recvS s t = s := by unfold recvS; rw [if_neg (fun h => h.2 hk)]
            rw [e0, e1, e2, e3]
            have w1 : IntKind.i64.wrap (t - at_) = t - at_ := IntWalk.i64_in _ (by omega)
            rw [hk] at c0
            clear e0 e1 e2 e3 hb h1 h2 h3 ht hl hcells hblk hle hz hat hal hk
            go_enter Try.func19, Try.ntmps19
            go_wp2_with (go_at_call 35; refine (rwithin_any _ _ _ _).mono ?_; rintro r w1 ⟨rfl, rfl⟩; rw [hdt])
            go_quiet (fail)
            go_wp2_with fail
            go_ret3
            exact ⟨rfl, H.out.upd ((Upd.refl (fun _ => False) _).drewN nq) (fun _ _ h => h), (Upd.refl _ _).drewN _⟩
          · have hkn : s.kind ≠ 1 := by omega
            have hkb : ((s.kind : Int) == 1) = false := by simpa using hkn
            have e2 : recvB s t = true := by unfold recvB; rw [if_pos e0, if_neg hkn]
            have e3 : recvS s t = { s with L := L' } := by unfold recvS; rw [if_pos ⟨e0, hkn⟩, hL]; rfl
            rw [e0, e1, e2, e3]
            have HK := Lib.hid (And.intro hk (And.intro h1 h2))
            clear e0 e1 e2 e3 hb h1 h2 h3 ht hl hcells hblk hle hz hkn hk
            go_enter Try.func19, Try.ntmps19
            go_wp2_with (go_at_call 35; refine (rwithin_any _ _ _ _).mono ?_; rintro r w1 ⟨rfl, rfl⟩; rw [hdt])
            · go_ret3
              have hL0 : L' = [] := List.eq_nil_of_length_eq_zero (by omega)
              subst hL0
              refine ⟨rfl, ⟨d, a, .slice (some ⟨gi, oi, none⟩) 0 0, at_, hF, ?_, Or.inr ⟨gi, oi, 0, cur, rfl, hFi, HBK.out.far (p := ⟨g, 6, none⟩) (fun e => hne e.symm) _, by simp, by omega, fun i x hi => by simp at hi⟩, Or.inr HK.out.1, (fun h => absurd h (by have := HK.out.1; show ¬ s.kind = 1; omega)), HK.out.2.2, (fun h => absurd h (by have := HK.out.1; show ¬ s.kind = 1; omega))⟩, (Upd.refl _ _).setCell (p := ⟨g, 6, none⟩) (fun _ => hF) _⟩
              simpa using HB.out.set_ 6 (.slice (some ⟨gi, oi, none⟩) 0 0)
            · go_ret3
              refine ⟨rfl, ⟨d, a, .slice (some ⟨gi, oi + 1, none⟩) L'.length (cap - 1), at_, hF, ?_, Or.inr ⟨gi, oi + 1, cap - 1, cur, rfl, hFi, HBK.out.far (p := ⟨g, 6, none⟩) (fun e => hne e.symm) _, by show L'.length ≤ cap - 1; omega, by omega, fun i x hi => ?_⟩, Or.inr HK.out.1, (fun h => absurd h (by have := HK.out.1; show ¬ s.kind = 1; omega)), HK.out.2.2, (fun h => absurd h (by have := HK.out.1; show ¬ s.kind = 1; omega))⟩, (Upd.refl _ _).setCell (p := ⟨g, 6, none⟩) (fun _ => hF) _⟩
              · simpa using HB.out.set_ 6 (.slice (some ⟨gi, oi + 1, none⟩) L'.length (cap - 1))
              · have := hcc.out (i + 1) x (by simpa using hi)
                rw [show oi + 1 + i = oi + (i + 1) from by omega]
                exact this
  · have hdt : decide (0 ≤ t ∧ t ≤ 1099511627776) = false := decide_eq_false ht
    have e0 : recvE s t = 2 := by unfold recvE; rw [if_neg ht]
    have e1 : recvM s t = emptyS := by unfold recvM; rw [if_neg (by rw [e0]; decide)]
    have e2 : recvB s t = false := by unfold recvB; rw [if_neg (by rw [e0]; decide)]
    have e3 : recvS s t = s := by unfold recvS; rw [if_neg (fun h => by rw [e0] at h; exact absurd h.1 (by decide))]
    rw [e0, e1, e2, e3]
    clear e0 e1 e2 e3 hb hq h1 h2 h3 ht
    go_enter Try.func19, Try.ntmps19
    go_wp2_with (go_at_call 35; refine (rwithin_any _ _ _ _).mono ?_; rintro r w1 ⟨rfl, rfl⟩; rw [hdt])
    go_ret3
    exact ⟨rfl, H.out, Upd.refl _ _⟩

set_option maxHeartbeats 1000000 in
theorem qnew_ok {k f t s d a : Int} (w : World) (h : PortOk k f t s d a) :
    Calls Try.prog 15 #[.agg #[.int .i64 k, .int .i64 f, .int .i64 t, .int .i64 s, .int .i64 d, .int .i64 a]] w fun r w' => (∃ g, r = .returned (.tuple #[.pointer (some ⟨g, 0, none⟩), .int .i64 0]) ∧ w.heap.size ≤ g ∧ RwQ f t w' (fun k => w.heap.size ≤ k ∧ k < w'.heap.size) g (newW k s d a)) ∧ Below w.heap.size w w' := by
  have hE : checkE k f t s d a = 0 := if_pos h
  have HE := Lib.hid hE
  have hk : k = 1 ∨ k = 2 := by have := h.1; omega
  clear hE h
  go_enter Try.func15, Try.ntmps15
  go_wp2_with (go_at_call 17; refine (rcheck_any _ _ _ _ _ _ _).mono ?_; rintro r w1 ⟨rfl, hy⟩; rw [HE.out]
               have y1 := (Blk.new w 30 #[.int .i64 k, .int .i64 f, .int .i64 t, .int .i64 s, .int .i64 d, .int .i64 a]).below hy (by simp)
               have y0 := y1.cell 0
               have y2 := y1.cell 1
               have y3 := y1.cell 2
               have y4 := y1.cell 3
               have y5 := y1.cell 4
               have y6 := y1.cell 5
               simp at y0 y2 y3 y4 y5 y6
               have HY := Lib.hid hy
               clear hy y1)
  go_ret2
  have z : w.heap.size + 1 ≤ w1.heap.size := by have := HY.out.size; simpa using this
  have hb1 : Below w.heap.size w w1 := ((Below.refl _ _).alloc (Nat.le_refl _) _).trans (HY.out.mono (by simp))
  refine ⟨⟨w1.heap.size, rfl, by omega, d, a, .slice none 0 0, 0, ⟨by omega, by simp⟩, ?_, Or.inl ⟨rfl, rfl⟩, hk, fun h => ?_, fun h => ?_, fun _ hn => absurd rfl hn⟩, hb1.alloc (by omega) _⟩
  · exact Blk.new w1 _ _
  · have h : k = 1 := h
    exact (show (newW k s d a).lim = a from if_pos h).symm
  · have h : k = 2 := h
    exact (show (newW k s d a).lim = d from if_neg (by omega)).symm
end
end Go.Proofs.Ytlaakcgipecldaa
