/- Contracts of package port: Recv, Clear. -/
import Derived.Test.YtlaakcgipecldaaPortWay2
namespace Go.Proofs.Ytlaakcgipecldaa
set_option linter.all false
open Go.RowKit

/-- What a box that has something answers. -/
theorem bget {w : World} {F : Nat → Prop} {v : Value} {s : WS} {g : Nat} {cs : Array Value} (hx : BoxP w F v s) (ho : WOk s) (hg : Blk w g 49 cs) (t : Int) (hl : s.L.length ≠ 0) (ht : 0 ≤ t ∧ t ≤ 1099511627776) :
    ∃ ty a f, v = .iface ty (.pointer a) ∧ (∀ w : World, Sem.run Try.prog (method 238 ty (.pointer a) "escapement/port.get") w = .ok (f, .pointer a) w) ∧ (∀ xs (w : World), Sem.run Try.prog (callFunc f xs) w = .ok (.enter f xs) w) ∧
      Calls Try.prog f #[.pointer a, .int .i64 t] w fun r w' => r = .returned (.tuple #[.string (recvM s t), .bool (recvB s t)]) ∧ BoxP w' F v (recvS s t) ∧ Upd (fun k => F k ∧ k ≠ g) w w' := by
  have e0 : recvE s t = 0 := by unfold recvE; rw [if_pos ht, if_neg hl]
  rcases hx with ⟨hk, gs, m0, a, b, rfl, hF, hs, h1, h0⟩ | ⟨hk, gq, rv, rfl, hF, hq, hrow⟩
  · refine ⟨_, _, 83, rfl, m_sget _, c_sget, ?_⟩
    cases b with
    | false => rw [h0 rfl] at hl; exact absurd rfl hl
    | true =>
      obtain ⟨hL, ha, ha0, ha1⟩ := h1 rfl
      have e1 : recvM s t = m0 := by unfold recvM; rw [if_pos e0, hL]; rfl
      have e2 : recvB s t = decide (t - a ≤ s.lim) := by unfold recvB; rw [if_pos e0, if_pos hk, ha]
      have e3 : recvS s t = s := by unfold recvS; rw [if_neg (fun h => h.2 hk)]
      rw [e1, e2, e3]
      refine (sget_any hs ⟨ha0, ha1⟩ ht).mono ?_
      rintro r w' ⟨rfl, hb⟩
      exact ⟨rfl, Or.inl ⟨hk, gs, m0, a, true, rfl, hF, hs.below hb hs.lt, h1, h0⟩, ⟨hb.os, hb.tape, hb.output, hb.size, fun i hi _ => hb.block i hi⟩⟩
  · refine ⟨_, _, 86, rfl, m_qget _, c_qget, ?_⟩
    have hkn : s.kind ≠ 1 := by omega
    obtain ⟨o1, o2, o3⟩ := ho.que hk
    cases hL : s.L with
    | nil => rw [hL] at hl; exact absurd rfl hl
    | cons m L' =>
      have e1 : recvM s t = m := by unfold recvM; rw [if_pos e0, hL]; rfl
      have e2 : recvB s t = true := by unfold recvB; rw [if_pos e0, if_neg hkn]
      have e3 : recvS s t = { s with L := L' } := by unfold recvS; rw [if_pos ⟨e0, hkn⟩, hL]; rfl
      rw [e1, e2, e3]
      rw [hL] at hrow o3
      refine (qget_any _ hq hrow (by simp at o3; omega)).mono ?_
      rintro r w' ⟨rfl, ⟨v', hb, hr⟩, hu⟩
      refine ⟨rfl, Or.inr ⟨hk, gq, v', rfl, hF, hb, hr⟩, hu.mono ?_⟩
      rintro k rfl
      exact ⟨hF, hq.ne_ hg (by decide)⟩

set_option maxRecDepth 100000 in
set_option maxHeartbeats 2000000 in
theorem wrecv_any {w : World} {F : Nat → Prop} {g : Nat} {s : WS} (h : WayP w F g s) (ho : WOk s) (t : Int) :
    Calls Try.prog 12 #[.pointer (some ⟨g, 0, none⟩), .int .i64 t] w fun r w' => r = .returned (.tuple #[.string (recvM s t), .bool (recvB s t), .int .i64 (recvE s t)]) ∧ WayP w' F g (recvS s t) ∧ Upd F w w' := by
  have H := Lib.hid h
  obtain ⟨v, hF, hb, hx⟩ := h
  have c1 := hb.cell 1
  simp at c1
  have HX := Lib.hid (And.intro hF (And.intro hb hx))
  by_cases ht : 0 ≤ t ∧ t ≤ 1099511627776
  · have hdt : decide (0 ≤ t ∧ t ≤ 1099511627776) = true := decide_eq_true ht
    obtain ⟨ty, a, f, hv, hm, hc, hcall⟩ := bmany hx ho
    subst hv
    have HC := Lib.hid hcall
    by_cases hl : s.L.length = 0
    · have e0 : recvE s t = 8 := by unfold recvE; rw [if_pos ht, if_pos hl]
      have e1 : recvM s t = emptyS := by unfold recvM; rw [if_neg (by rw [e0]; decide)]
      have e2 : recvB s t = false := by unfold recvB; rw [if_neg (by rw [e0]; decide)]
      have e3 : recvS s t = s := by unfold recvS; rw [if_neg (fun h => by rw [e0] at h; exact absurd h.1 (by decide))]
      rw [e0, e1, e2, e3]
      have hz : ((s.L.length : Int) == 0) = true := by rw [hl]; rfl
      clear e0 e1 e2 e3 hx hb ho ht hcall hl
      go_enter Try.func12, Try.ntmps12
      go_wp2_with (first
        | (go_at_call 33; refine (wnone_any H.out).mono ?_; rintro r w1 ⟨rfl, rfl⟩)
        | (go_at_call 34; refine (within_any _ _ _ _).mono ?_; rintro r w1 ⟨rfl, rfl⟩; rw [hdt]))
      refine HC.out.mono ?_
      rintro r w1 ⟨rfl, rfl⟩
      go_wp2_with fail
      go_ret3
      exact ⟨rfl, H.out, Upd.refl _ _⟩
    · obtain ⟨ty2, a2, f2, hv2, hm2, hc2, hcall2⟩ := bget hx ho hb t hl ht
      cases hv2
      have HC2 := Lib.hid hcall2
      have e0 : recvE s t = 0 := by unfold recvE; rw [if_pos ht, if_neg hl]
      rw [e0]
      have hz : ((s.L.length : Int) == 0) = false := beq_eq_false_iff_ne.mpr (by omega)
      have e4 : (recvS s t).size = s.size := by unfold recvS; split <;> rfl
      have HE4 := Lib.hid e4
      clear e0 e4 hx hb ho ht hcall hcall2 hl
      go_enter Try.func12, Try.ntmps12
      go_wp2_with (first
        | (go_at_call 33; refine (wnone_any H.out).mono ?_; rintro r w1 ⟨rfl, rfl⟩)
        | (go_at_call 34; refine (within_any _ _ _ _).mono ?_; rintro r w1 ⟨rfl, rfl⟩; rw [hdt]))
      refine HC.out.mono ?_
      rintro r w1 ⟨rfl, rfl⟩
      go_wp2_with fail
      refine HC2.out.mono ?_
      rintro r w1 ⟨rfl, hb, hu⟩
      have HB := Lib.hid (And.intro hb hu)
      clear hb hu
      go_wp2_with fail
      go_ret3
      refine ⟨rfl, ⟨_, hF, ?_, HB.out.1⟩, HB.out.2.mono fun k hk => hk.1⟩
      rw [HE4.out]
      exact HX.out.2.1.upd HB.out.2 fun hk => hk.2 rfl
  · have hdt : decide (0 ≤ t ∧ t ≤ 1099511627776) = false := decide_eq_false ht
    have e0 : recvE s t = 2 := by unfold recvE; rw [if_neg ht]
    have e1 : recvM s t = emptyS := by unfold recvM; rw [if_neg (by rw [e0]; decide)]
    have e2 : recvB s t = false := by unfold recvB; rw [if_neg (by rw [e0]; decide)]
    have e3 : recvS s t = s := by unfold recvS; rw [if_neg (fun h => by rw [e0] at h; exact absurd h.1 (by decide))]
    rw [e0, e1, e2, e3]
    clear e0 e1 e2 e3 hx hb ho ht
    go_enter Try.func12, Try.ntmps12
    go_wp2_with (first
      | (go_at_call 33; refine (wnone_any H.out).mono ?_; rintro r w1 ⟨rfl, rfl⟩)
      | (go_at_call 34; refine (within_any _ _ _ _).mono ?_; rintro r w1 ⟨rfl, rfl⟩; rw [hdt]))
    go_ret3
    exact ⟨rfl, H.out, Upd.refl _ _⟩

theorem ta1 (p : Option Addr) (w : World) : Sem.run Try.prog (Instr.typeAssert (.iface 68 (.pointer p)) 47 68 true) w = .ok (.tuple #[.pointer p, .bool true]) w := by kernel_rfl
theorem ta2 (p : Option Addr) (w : World) : Sem.run Try.prog (Instr.typeAssert (.iface 71 (.pointer p)) 47 68 true) w = .ok (.tuple #[.pointer none, .bool false]) w := by kernel_rfl
theorem ta3 (p : Option Addr) (w : World) : Sem.run Try.prog (Instr.typeAssert (.iface 71 (.pointer p)) 47 71 true) w = .ok (.tuple #[.pointer p, .bool true]) w := by kernel_rfl

set_option maxRecDepth 100000 in
set_option maxHeartbeats 2000000 in
theorem wclear_any {w : World} {F : Nat → Prop} {g : Nat} {s : WS} (h : WayP w F g s) :
    Calls Try.prog 20 #[.pointer (some ⟨g, 0, none⟩)] w fun r w' => r = .returned (.tuple #[]) ∧ WayP w' F g (clearS s) ∧ Upd F w w' := by
  have H := Lib.hid h
  obtain ⟨v, hF, hb, hx⟩ := h
  have c1 := hb.cell 1
  simp at c1
  have HX := Lib.hid (And.intro hF (And.intro hb hx))
  rcases hx with ⟨hk, gs, m0, a, b, rfl, hFs, hs, h1, h0⟩ | ⟨hk, gq, rv, rfl, hFq, hq, hrow⟩
  · have c0 := hs.cell 0
    have d1 := hs.cell 1
    have d2 := hs.cell 2
    have d3 := hs.cell 3
    have f0 := hs.frozen 0
    have f1 := hs.frozen 1
    have f2 := hs.frozen 2
    have f3 := hs.frozen 3
    simp at c0 d1 d2 d3
    have HS := Lib.hid hs
    have hne : g ≠ gs := hb.ne_ hs (by decide)
    clear hs hb h1 h0
    have t1 := ta1
    go_enter Try.func20, Try.ntmps20
    go_wp2_with (first
      | (go_at_call 33; refine (wnone_any H.out).mono ?_; rintro r w1 ⟨rfl, rfl⟩))
    refine bodyPost_end (v := .tuple #[]) (by simp [results, Try.results20]) rfl ⟨rfl, ⟨_, hF, ?_, Or.inl ⟨hk, gs, emptyS, 0, false, rfl, hFs, ?_, (fun h => by cases h), fun _ => rfl⟩⟩, ?_⟩
    · exact (((HX.out.2.1.far (p := ⟨gs, 0, none⟩) hne _).far (p := ⟨gs, 1, none⟩) hne _).far (p := ⟨gs, 2, none⟩) hne _).far (p := ⟨gs, 3, none⟩) hne _
    · simpa [emptyS, clearS] using (((HS.out.set_ 0 (.string emptyS)).set_ 1 (.int .i64 0)).set_ 2 (.int .i64 s.lim)).set_ 3 (.bool false)
    · exact ((((Upd.refl _ _).setCell (p := ⟨gs, 0, none⟩) (fun _ => hFs) _).setCell (p := ⟨gs, 1, none⟩) (fun _ => hFs) _).setCell (p := ⟨gs, 2, none⟩) (fun _ => hFs) _).setCell (p := ⟨gs, 3, none⟩) (fun _ => hFs) _
  · have c0 := hq.cell 0
    have f0 := hq.frozen 0
    simp at c0
    have HQ := Lib.hid hq
    have hne : g ≠ gq := hb.ne_ hq (by decide)
    clear hq hb
    have t2 := ta2
    have t3 := ta3
    go_enter Try.func20, Try.ntmps20
    go_wp2_with (first
      | (go_at_call 33; refine (wnone_any H.out).mono ?_; rintro r w1 ⟨rfl, rfl⟩))
    refine bodyPost_end (v := .tuple #[]) (by simp [results, Try.results20]) rfl ⟨rfl, ⟨_, hF, ?_, Or.inr ⟨hk, gq, .slice none 0 0, rfl, hFq, ?_, Or.inl ⟨rfl, rfl⟩⟩⟩, ?_⟩
    · exact HX.out.2.1.far (p := ⟨gq, 0, none⟩) hne _
    · simpa [clearS] using HQ.out.set_ 0 (.slice none 0 0)
    · exact (Upd.refl _ _).setCell (p := ⟨gq, 0, none⟩) (fun _ => hFq) _
end Go.Proofs.Ytlaakcgipecldaa
