/- Contracts of package port: Send, Recv, Clear. -/
import Derived.Test.YtlaakcgipecldaaPortWay
namespace Go.Proofs.Ytlaakcgipecldaa
set_option linter.all false
open Go.RowKit

theorem QRow.off {w : World} {F : Nat → Prop} {v : Value} {L : List ByteArray} {g : Nat} {t : TypeId} {cs : Array Value} (h : QRow w F v L) (hg : Blk w g t cs) (ht : 9 ≠ t) : QRow w (fun k => F k ∧ k ≠ g) v L := by
  rcases h with h | ⟨g', off, cap, cur, h1, h2, h3, h4⟩
  · exact Or.inl h
  · exact Or.inr ⟨g', off, cap, cur, h1, ⟨h2, h3.ne_ hg ht⟩, h3, h4⟩

theorem m_not {s : WS} (h : s.kind = 2) : s.kind ≠ 1 := by omega

/-- What a box does with a message that may be. -/
theorem bput {w : World} {F : Nat → Prop} {v : Value} {s : WS} {g : Nat} {cs : Array Value} (hx : BoxP w F v s) (ho : WOk s) (hg : Blk w g 49 cs) (m : ByteArray) (t : Int) (hn : (m.size : Int) ≤ s.size) (ht : 0 ≤ t ∧ t ≤ 1099511627776) :
    ∃ ty a f, v = .iface ty (.pointer a) ∧ (∀ w : World, Sem.run Try.prog (method 238 ty (.pointer a) "escapement/port.put") w = .ok (f, .pointer a) w) ∧ (∀ xs (w : World), Sem.run Try.prog (callFunc f xs) w = .ok (.enter f xs) w) ∧
      Calls Try.prog f #[.pointer a, .string m, .int .i64 t] w fun r w' => r = .returned (.int .i64 (sendE s m.size t)) ∧ BoxP w' (growF F w w') v (sendS s m t) ∧ Upd (fun k => F k ∧ k ≠ g) w w' := by
  have hc0 : ¬ (s.size < (m.size : Int) ∨ ¬ (0 ≤ t ∧ t ≤ 1099511627776)) := by omega
  rcases hx with ⟨hk, gs, m0, a, b, rfl, hF, hs, h1, h0⟩ | ⟨hk, gq, rv, rfl, hF, hq, hrow⟩
  · refine ⟨_, _, 85, rfl, m_sput _, c_sput, ?_⟩
    have e1 : sendE s m.size t = 0 := by unfold sendE; rw [if_neg hc0, if_pos hk]
    have e2 : sendS s m t = { s with L := [m], at_ := t } := by unfold sendS; rw [if_pos e1, if_pos hk]
    rw [e1, e2]
    refine (sput_any hs).mono ?_
    rintro r w' ⟨rfl, hb, hu⟩
    refine ⟨rfl, Or.inl ⟨hk, gs, m, t, true, rfl, Or.inl hF, hb, fun _ => ⟨rfl, rfl, ht⟩, fun h => by cases h⟩, hu.mono ?_⟩
    rintro k rfl
    exact ⟨hF, hs.ne_ hg (by decide)⟩
  · refine ⟨_, _, 88, rfl, m_qput _, c_qput, ?_⟩
    have hkn : s.kind ≠ 1 := by omega
    obtain ⟨o1, o2, o3⟩ := ho.que hk
    by_cases he : (s.L.length : Int) = s.lim
    · have e1 : sendE s m.size t = 7 := by unfold sendE; rw [if_neg hc0, if_neg hkn, if_pos he]
      have e2 : sendS s m t = s := by unfold sendS; rw [if_neg (by rw [e1]; decide)]
      rw [e1, e2]
      refine (qput_full _ hq hrow (by omega) he).mono ?_
      rintro r w' ⟨rfl, hb⟩
      refine ⟨rfl, BoxP.mono (F := F) ?_ fun k hk => Or.inl hk, ?_⟩
      · have hlt : ∀ k a b, Blk w k a b → ¬ w.heap.size ≤ k := fun k a b hb => by have := hb.lt; omega
        refine Or.inr ⟨hk, gq, rv, rfl, hF, hq.below hb hq.lt, ?_⟩
        rcases hrow with h | ⟨g', off, cap, cur, h1, h2, h3, h4⟩
        · exact Or.inl h
        · exact Or.inr ⟨g', off, cap, cur, h1, h2, h3.below hb h3.lt, h4⟩
      · exact ⟨hb.os, hb.tape, hb.output, hb.size, fun i hi _ => hb.block i hi⟩
    · have e1 : sendE s m.size t = 0 := by unfold sendE; rw [if_neg hc0, if_neg hkn, if_neg he]
      have e2 : sendS s m t = { s with L := s.L ++ [m] } := by unfold sendS; rw [if_pos e1, if_neg hkn]
      rw [e1, e2]
      refine (qput_room _ hq (hrow.off hg (by decide)) (by omega) he).mono ?_
      rintro r w' ⟨rfl, ⟨v', hb, hr⟩, hu⟩
      refine ⟨rfl, Or.inr ⟨hk, gq, v', rfl, Or.inl hF, hb, hr.mono fun k hk => ?_⟩, hu.mono ?_⟩
      · rcases hk with hk | hk
        · exact Or.inl hk.1
        · exact Or.inr hk
      · rintro k (rfl | hk)
        · exact ⟨hF, hq.ne_ hg (by decide)⟩
        · exact hk

set_option maxRecDepth 100000 in
set_option maxHeartbeats 2000000 in
theorem wsend_any {w : World} {F : Nat → Prop} {g : Nat} {s : WS} (h : WayP w F g s) (ho : WOk s) (m : ByteArray) (t : Int) (hm : m.size ≤ maxLen) :
    Calls Try.prog 13 #[.pointer (some ⟨g, 0, none⟩), .string m, .int .i64 t] w fun r w' => r = .returned (.int .i64 (sendE s m.size t)) ∧ WayP w' (growF F w w') g (sendS s m t) ∧ Upd F w w' := by
  have H := Lib.hid h
  obtain ⟨v, hF, hb, hx⟩ := h
  have c0 := hb.cell 0
  have c1 := hb.cell 1
  simp at c0 c1
  have HX := Lib.hid (And.intro hF (And.intro hb hx))
  have HO := Lib.hid ho
  have hsz := ho.size
  have hself : WayP w (growF F w w) g s := H.out.mono fun k hk => Or.inl hk
  have HSELF := Lib.hid hself
  obtain ⟨sz1, sz2⟩ := hsz
  obtain ⟨n, hn⟩ : ∃ n, m.size = n := ⟨_, rfl⟩
  have hnb : (n : Int) ≤ 9223372036854775807 := by rw [← hn]; simp [maxLen] at hm; omega
  clear hm hself
  by_cases hs : s.size < (n : Int)
  · have e1 : sendE s m.size t = 2 := by unfold sendE; rw [hn, if_pos (Or.inl hs)]
    have e2 : sendS s m t = s := by unfold sendS; rw [if_neg (by rw [e1]; decide)]
    rw [e1, e2]
    clear e1 e2 hx hb ho
    go_enter Try.func13, Try.ntmps13
    go_wp2_with (first
      | (go_at_call 33; refine (wnone_any H.out).mono ?_; rintro r w1 ⟨rfl, rfl⟩))
    go_ret
    exact ⟨rfl, HSELF.out, Upd.refl _ _⟩
  · by_cases ht : 0 ≤ t ∧ t ≤ 1099511627776
    · obtain ⟨ty, a, f, rfl, hm, hc, hcall⟩ := bput hx ho hb m t (by omega) ht
      have HC := Lib.hid hcall
      have hdt : decide (0 ≤ t ∧ t ≤ 1099511627776) = true := decide_eq_true ht
      clear hcall hx hb ho ht
      go_enter Try.func13, Try.ntmps13
      go_wp2_with (first
        | (go_at_call 33; refine (wnone_any H.out).mono ?_; rintro r w1 ⟨rfl, rfl⟩)
        | (go_at_call 34; refine (within_any _ _ _ _).mono ?_; rintro r w1 ⟨rfl, rfl⟩; rw [hdt]))
      refine HC.out.mono ?_
      rintro r w1 ⟨rfl, hb, hu⟩
      have HB := Lib.hid (And.intro hb hu)
      clear hb hu
      go_wp2_with fail
      go_ret
      refine ⟨by rw [hn]; rfl, ⟨_, Or.inl hF, ?_, HB.out.1⟩, HB.out.2.mono fun k hk => hk.1⟩
      have e3 : (sendS s m t).size = s.size := by unfold sendS; split <;> (try split) <;> rfl
      rw [e3]
      exact HX.out.2.1.upd HB.out.2 fun hk => hk.2 rfl
    · have e1 : sendE s m.size t = 2 := by unfold sendE; rw [if_pos (Or.inr ht)]
      have e2 : sendS s m t = s := by unfold sendS; rw [if_neg (by rw [e1]; decide)]
      have hdt : decide (0 ≤ t ∧ t ≤ 1099511627776) = false := decide_eq_false ht
      rw [e1, e2]
      clear e1 e2 hx hb ho ht
      go_enter Try.func13, Try.ntmps13
      go_wp2_with (first
        | (go_at_call 33; refine (wnone_any H.out).mono ?_; rintro r w1 ⟨rfl, rfl⟩)
        | (go_at_call 34; refine (within_any _ _ _ _).mono ?_; rintro r w1 ⟨rfl, rfl⟩; rw [hdt]))
      go_ret
      exact ⟨rfl, HSELF.out, Upd.refl _ _⟩
end Go.Proofs.Ytlaakcgipecldaa
