/- Contracts of the document's answer for ports. -/
import Derived.Test.YtlaakcgipecldaaPortQueues
namespace Go.Proofs.Ytlaakcgipecldaa
set_option linter.all false
open Go.RowKit

def RwP (w : World) (F : Nat → Prop) (g : Nat) (s : WS) : Prop :=
  ∃ f t d a rv at_, F g ∧ Blk w g 78 #[.int .i64 s.kind, .int .i64 f, .int .i64 t, .int .i64 s.size, .int .i64 d, .int .i64 a, rv, .int .i64 at_] ∧ QRow w F rv s.L ∧ (s.kind = 1 ∨ s.kind = 2) ∧ (s.kind = 1 → a = s.lim) ∧ (s.kind = 2 → d = s.lim) ∧ (s.kind = 1 → s.L ≠ [] → at_ = s.at_ ∧ 0 ≤ at_ ∧ at_ ≤ 1099511627776)

theorem RwP.upd {S F : Nat → Prop} {w w' : World} {g : Nat} {s : WS} (h : RwP w F g s) (hu : Upd S w w') (hs : ∀ k, F k → ¬ S k) : RwP w' F g s := by
  obtain ⟨f, t, d, a, rv, at_, hF, hb, hq, h3⟩ := h
  exact ⟨f, t, d, a, rv, at_, hF, hb.upd hu (hs _ hF), hq.upd hu hs, h3⟩
theorem RwP.mono {F F' : Nat → Prop} {w : World} {g : Nat} {s : WS} (h : RwP w F g s) (hs : ∀ k, F k → F' k) : RwP w F' g s := by
  obtain ⟨f, t, d, a, rv, at_, hF, hb, hq, h3⟩ := h
  exact ⟨f, t, d, a, rv, at_, hs _ hF, hb, hq.mono hs, h3⟩

set_option maxRecDepth 100000 in
set_option maxHeartbeats 1000000 in
theorem rlen_any {w : World} {F : Nat → Prop} {g : Nat} {s : WS} (h : RwP w F g s) (hl : s.L.length ≤ 4) :
    Calls Try.prog 22 #[.pointer (some ⟨g, 0, none⟩)] w fun r w' => r = .returned (.int .i64 s.L.length) ∧ w = w' := by
  obtain ⟨f, t, d, a, rv, at_, hF, hb, hq, _⟩ := h
  obtain ⟨a', c', rfl⟩ := hq.len
  have c6 := hb.cell 6
  simp at c6
  clear hb hq
  go_enter Try.func22, Try.ntmps22
  go_wp2_with fail
  go_ret
  exact ⟨rfl, rfl⟩

set_option maxHeartbeats 1000000 in
theorem rclear_any {w : World} {F : Nat → Prop} {g : Nat} {s : WS} (h : RwP w F g s) :
    Calls Try.prog 21 #[.pointer (some ⟨g, 0, none⟩)] w fun r w' => r = .returned (.tuple #[]) ∧ RwP w' F g (clearS s) ∧ Upd F w w' := by
  obtain ⟨f, t, d, a, rv, at_, hF, hb, hq, hk, h1, h2, h3⟩ := h
  have c6 := hb.cell 6
  have f6 := hb.frozen 6
  simp at c6
  have HB := Lib.hid hb
  clear hb hq
  go_enter Try.func21, Try.ntmps21
  go_wp2_with fail
  refine bodyPost_end (v := .tuple #[]) (by simp [results, Try.results21]) rfl ⟨rfl, ⟨f, t, d, a, .slice none 0 0, at_, hF, ?_, Or.inl ⟨rfl, rfl⟩, hk, h1, h2, fun _ hn => absurd rfl hn⟩, (Upd.refl _ _).setCell (p := ⟨g, 6, none⟩) (fun _ => hF) _⟩
  simpa [clearS] using HB.out.set_ 6 (.slice none 0 0)

set_option maxRecDepth 100000 in
set_option maxHeartbeats 2000000 in
theorem rsend_any {w : World} {F : Nat → Prop} {g : Nat} {s : WS} (h : RwP w F g s) (ho : WOk s) (m : ByteArray) (t : Int) (hm : m.size ≤ maxLen) :
    Calls Try.prog 18 #[.pointer (some ⟨g, 0, none⟩), .string m, .int .i64 t] w fun r w' => r = .returned (.int .i64 (sendE s m.size t)) ∧ RwP w' (growF F w w') g (sendS s m t) ∧ Upd F w w' := by
  have H := Lib.hid h
  have HSELF := Lib.hid (show RwP w (growF F w w) g s from h.mono fun k hk => Or.inl hk)
  obtain ⟨f, tt, d, a, rv, at_, hF, hb, hq, hk, h1, h2, h3⟩ := h
  have c0 := hb.cell 0
  have c3 := hb.cell 3
  have c4 := hb.cell 4
  have c6 := hb.cell 6
  have c7 := hb.cell 7
  have f6 := hb.frozen 6
  have f7 := hb.frozen 7
  simp at c0 c3 c4 c6 c7
  have hlt := hb.lt
  have HB := Lib.hid hb
  have HQ := Lib.hid hq
  obtain ⟨sz1, sz2⟩ := ho.size
  obtain ⟨n, hn⟩ : ∃ n, m.size = n := ⟨_, rfl⟩
  have hnb : (n : Int) ≤ 9223372036854775807 := by rw [← hn]; simp [maxLen] at hm; omega
  have HN := Lib.hid hn
  have H123 := Lib.hid (And.intro hk (And.intro h1 (And.intro h2 h3)))
  clear hm hb hq h1 h2 h3
  by_cases hs : s.size < (n : Int)
  · have e1 : sendE s m.size t = 2 := by unfold sendE; rw [hn, if_pos (Or.inl hs)]
    have e2 : sendS s m t = s := by unfold sendS; rw [if_neg (by rw [e1]; decide)]
    rw [e1, e2]
    clear e1 e2
    go_enter Try.func18, Try.ntmps18
    go_wp2_with fail
    go_ret
    exact ⟨rfl, HSELF.out, Upd.refl _ _⟩
  · by_cases ht : 0 ≤ t ∧ t ≤ 1099511627776
    · have hdt : decide (0 ≤ t ∧ t ≤ 1099511627776) = true := decide_eq_true ht
      have hc0 : ¬ (s.size < (m.size : Int) ∨ ¬ (0 ≤ t ∧ t ≤ 1099511627776)) := by omega
      rcases hk with hk | hk
      · have e1 : sendE s m.size t = 0 := by unfold sendE; rw [if_neg hc0, if_pos hk]
        have e2 : sendS s m t = { s with L := [m], at_ := t } := by unfold sendS; rw [if_pos e1, if_pos hk]
        rw [e1, e2]
        rw [hk] at c0
        have HK := Lib.hid hk
        have HTT := Lib.hid ht
        clear e1 e2 hc0 ht hk
        go_enter Try.func18, Try.ntmps18
        go_wp2_with (go_at_call 35; refine (rwithin_any _ _ _ _).mono ?_; rintro r w1 ⟨rfl, rfl⟩; rw [hdt])
        go_ret
        refine ⟨rfl, ⟨f, tt, d, a, .slice (some ⟨w.heap.size, 0, none⟩) 1 1, t, Or.inl hF, ?_, Or.inr ⟨w.heap.size, 0, 1, #[.string m], rfl, Or.inr ⟨Nat.le_refl _, by simp⟩, ?_, Nat.le_refl _, by simp, fun i x hi => ?_⟩, H123.out.1, H123.out.2.1, H123.out.2.2.1, fun _ _ => ⟨rfl, HTT.out⟩⟩, ?_⟩
        · simpa using ((HB.out.set_ 6 (.slice (some ⟨w.heap.size, 0, none⟩) 1 1)).set_ 7 (.int .i64 t)).alloc (.cells #[.string m] 9)
        · have := Blk.new ((w.setCell ⟨g, 6, none⟩ (.slice (some ⟨w.heap.size, 0, none⟩) 1 1)).setCell ⟨g, 7, none⟩ (.int .i64 t)) 9 #[.string m]
          simpa using this
        · cases i with
          | zero => simp at hi; subst hi; rfl
          | succ i => simp at hi
        · exact (((Upd.refl _ _).setCell (p := ⟨g, 6, none⟩) (fun _ => hF) _).setCell (p := ⟨g, 7, none⟩) (fun _ => hF) _).alloc _
      · have hkn : s.kind ≠ 1 := by omega
        have hkb : ((s.kind : Int) == 1) = false := by simpa using hkn
        have hd := H123.out.2.2.1 hk
        obtain ⟨o1, o2, o3⟩ := ho.que hk
        have hl4 : s.L.length ≤ 4 := by omega
        obtain ⟨a', c', rfl⟩ := HQ.out.len
        subst hd
        by_cases he : (s.L.length : Int) = s.lim
        · have e1 : sendE s m.size t = 7 := by unfold sendE; rw [if_neg hc0, if_neg hkn, if_pos he]
          have e2 : sendS s m t = s := by unfold sendS; rw [if_neg (by rw [e1]; decide)]
          rw [e1, e2]
          have hb : ((s.L.length : Int) == s.lim) = true := by simp [he]
          clear e1 e2 hc0 ht hk hkn he
          go_enter Try.func18, Try.ntmps18
          go_wp2_with (go_at_call 35; refine (rwithin_any _ _ _ _).mono ?_; rintro r w1 ⟨rfl, rfl⟩; rw [hdt])
          go_quiet (fail)
          go_wp2_with fail
          go_ret
          exact ⟨rfl, (H.out.upd ((Upd.refl (fun _ => False) _).drewN nq) (fun _ _ h => h)).mono (fun k hk => Or.inl hk), (Upd.refl _ _).drewN _⟩
        · have e1 : sendE s m.size t = 0 := by unfold sendE; rw [if_neg hc0, if_neg hkn, if_neg he]
          have e2 : sendS s m t = { s with L := s.L ++ [m] } := by unfold sendS; rw [if_pos e1, if_neg hkn]
          rw [e1, e2]
          have hb : ((s.L.length : Int) == s.lim) = false := by simpa using he
          have HQ2 := Lib.hid (HQ.out.off HB.out (by decide))
          have HK2 := Lib.hid hk
          clear e1 e2 hc0 ht hk hkn he
          go_enter Try.func18, Try.ntmps18
          go_wp2_with (go_at_call 35; refine (rwithin_any _ _ _ _).mono ?_; rintro r w1 ⟨rfl, rfl⟩; rw [hdt])
          go_quiet (fail)
          have HQ3 := Lib.hid ((HQ2.out.drewN nq).alloc (.cells #[.string m] 9))
          go_wp2_with (at_builtin; refine wpList_append_qrow _ (by rfl) _ _ (by rfl) (by rfl) HQ3.out hl4 ⟨w.heap.size, 0, none⟩ 1 (by rfl) (World.news_of_block (cs := #[.string m]) (t := 9) (fr := (0, 0)) (heap_alloc_new (w.drewN nq) _)) ?_
                       intro a2' c2' y hq2 hu2
                       have hb2 := ((HB.out.drewN nq).alloc (.cells #[.string m] 9)).upd hu2 (fun h => h.2 rfl)
                       have f6 := hb2.frozen 6
                       have c6 := hb2.cell 6
                       simp at c6
                       have HZ := Lib.hid (And.intro hq2 (And.intro hu2 hb2))
                       clear hq2 hu2 hb2)
          go_ret
          refine ⟨rfl, ⟨f, tt, s.lim, a, .slice a2' (s.L.length + 1) c2', at_, Or.inl hF, ?_, ?_, H123.out.1, H123.out.2.1, fun _ => rfl, fun h => absurd h (by have := HK2.out; show ¬ s.kind = 1; omega)⟩, ?_⟩
          · simpa using HZ.out.2.2.set_ 6 (.slice a2' (s.L.length + 1) c2')
          · refine (HZ.out.1.far (p := ⟨g, 6, none⟩) ?_ _).mono fun k hk => ?_
            · intro h
              rcases h with h | h
              · exact h.2 rfl
              · have := h.1; simp at this; omega
            · rcases hk with hk | hk
              · exact Or.inl hk.1
              · exact Or.inr ⟨by have := hk.1; simp at this; omega, by simpa using hk.2⟩
          · refine Upd.setCell ?_ (p := ⟨g, 6, none⟩) (fun _ => hF) _
            exact (((Upd.refl F w).drewN nq).alloc (.cells #[.string m] 9)).trans (HZ.out.2.1.mono fun k hk => hk.1)
    · have e1 : sendE s m.size t = 2 := by unfold sendE; rw [if_pos (Or.inr ht)]
      have e2 : sendS s m t = s := by unfold sendS; rw [if_neg (by rw [e1]; decide)]
      have hdt : decide (0 ≤ t ∧ t ≤ 1099511627776) = false := decide_eq_false ht
      rw [e1, e2]
      clear e1 e2 ht
      go_enter Try.func18, Try.ntmps18
      go_wp2_with (go_at_call 35; refine (rwithin_any _ _ _ _).mono ?_; rintro r w1 ⟨rfl, rfl⟩; rw [hdt])
      go_ret
      exact ⟨rfl, HSELF.out, Upd.refl _ _⟩
end Go.Proofs.Ytlaakcgipecldaa
