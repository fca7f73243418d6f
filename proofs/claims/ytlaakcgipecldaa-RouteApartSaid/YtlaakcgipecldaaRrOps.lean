/- The document's answer for all ports of a system, at ports that lie in memory. Conditions: the ports are sound. -/
import Derived.Test.YtlaakcgipecldaaRtClear
namespace Go.Proofs.Ytlaakcgipecldaa
set_option linter.all false
open Go.RowKit

section
variable {w : World} {S : Nat → Prop} {F : Nat → Nat → Prop} {rp : Nat} {L : List RE} {A : Option Addr} {gs : Nat → Nat}

theorem rway (h : RlP w S F rp L A gs) (k : Nat) (hk : k < L.length) : w.cell? ⟨gs k, 1, none⟩ = some (.int .i64 L[k].f) ∧ w.cell? ⟨gs k, 2, none⟩ = some (.int .i64 L[k].t) := by
  obtain ⟨d, a, rv, at_, _, hb, _⟩ := h.way k hk
  exact ⟨hb.cell 1, hb.cell 2⟩

set_option maxHeartbeats 2000000 in
theorem rsend_no (h : RlP w S F rp L A gs) (part p t : Int) (m : ByteArray) (hp : ∀ i (hi : i < L.length), p = i → L[i].f ≠ part) :
    Calls Try.prog 36 #[.pointer (some ⟨rp, 0, none⟩), .int .i64 part, .int .i64 p, .string m, .int .i64 t] w fun e w' => e = .returned (.int .i64 220) ∧ w' = w := by
  obtain ⟨c, hc⟩ := h.rt
  have c0 := hc.cell 0
  simp at c0
  by_cases hin : 0 ≤ p ∧ p < L.length
  · obtain ⟨k, rfl⟩ : ∃ k : Nat, p = k := ⟨p.toNat, by omega⟩
    have hk : k < L.length := by omega
    have hne := hp k hk rfl
    obtain ⟨c1, _⟩ := rway h k hk
    obtain ⟨b, o, rfl, _, c3⟩ := h.row k hk
    obtain ⟨fr, hfr⟩ : ∃ x, L[k].f = x := ⟨_, rfl⟩
    rw [hfr] at hne c1
    obtain ⟨n, hn⟩ : ∃ n, L.length = n := ⟨_, rfl⟩
    rw [hn] at hk c0
    clear h hc hp hin hfr hn
    have d1 : decide (k < n) = true := decide_eq_true hk
    have d3 : decide (n ≤ k) = false := decide_eq_false (by omega)
    have d2 : (fr != part) = true := by simpa using hne
    go_enter Try.func36, Try.ntmps36
    go_wp2_with fail
    all_goals (go_ret; simp)
  · obtain ⟨n, hn⟩ : ∃ n, L.length = n := ⟨_, rfl⟩
    rw [hn] at hin c0
    clear h hc hp hn
    by_cases h0 : p < 0
    · have d0 : decide (p < 0) = true := decide_eq_true h0
      go_enter Try.func36, Try.ntmps36
      go_wp2_with fail
      all_goals (go_ret; simp)
    · have d0 : decide (p < 0) = false := decide_eq_false h0
      have d1 : decide ((n : Int) ≤ p) = true := decide_eq_true (by omega)
      go_enter Try.func36, Try.ntmps36
      go_wp2_with fail
      all_goals (go_ret; simp)

set_option maxHeartbeats 2000000 in
theorem rsend_ok (h : RlP w S F rp L A gs) (ho : Sound L) (k : Nat) (hk : k < L.length) (t : Int) (m : ByteArray) (hm : m.size ≤ maxLen) :
    Calls Try.prog 36 #[.pointer (some ⟨rp, 0, none⟩), .int .i64 L[k].f, .int .i64 (k : Int), .string m, .int .i64 t] w fun e w' =>
      e = .returned (.int .i64 (sendE L[k].s m.size t)) ∧ ∃ F', RlP w' S F' rp (onE L k (sendS L[k].s m t)) A gs ∧ Mv w w' F F' L.length := by
  obtain ⟨c, hc⟩ := h.rt
  have c0 := hc.cell 0
  simp at c0
  obtain ⟨c1, _⟩ := rway h k hk
  obtain ⟨b, o, hA, _, c3⟩ := h.row k hk
  subst hA
  have H := Lib.hid h
  have HO := Lib.hid (ho k hk).1
  have HW := Lib.hid (h.way k hk)
  have HM := Lib.hid hm
  clear h ho hm hc
  have d1 : decide (k < L.length) = true := decide_eq_true hk
  have d3 : decide (L.length ≤ k) = false := decide_eq_false (by omega)
  obtain ⟨fr, hfr⟩ : ∃ x, L[k].f = x := ⟨_, rfl⟩
  rw [hfr] at c1 ⊢
  clear hfr
  go_enter Try.func36, Try.ntmps36
  go_wp2_with (go_at_call 18; refine (qsend_any HW.out HO.out m t HM.out).mono ?_; rintro e w2 ⟨rfl, hp, hu⟩; have HP := Lib.hid (And.intro (H.out.on hk hp (fun _ h => h) hu) (Mv.one hk (fun _ h => h) hu)); clear hp hu)
  all_goals (go_ret; exact ⟨rfl, _, HP.out.1, HP.out.2⟩)

set_option maxHeartbeats 2000000 in
theorem rrecv_no (h : RlP w S F rp L A gs) (part p t : Int) (hp : ∀ i (hi : i < L.length), p = i → L[i].t ≠ part) :
    Calls Try.prog 37 #[.pointer (some ⟨rp, 0, none⟩), .int .i64 part, .int .i64 p, .int .i64 t] w fun e w' => e = .returned (.tuple #[.string emptyS, .bool false, .int .i64 220]) ∧ w' = w := by
  obtain ⟨c, hc⟩ := h.rt
  have c0 := hc.cell 0
  simp at c0
  by_cases hin : 0 ≤ p ∧ p < L.length
  · obtain ⟨k, rfl⟩ : ∃ k : Nat, p = k := ⟨p.toNat, by omega⟩
    have hk : k < L.length := by omega
    have hne := hp k hk rfl
    obtain ⟨_, c1⟩ := rway h k hk
    obtain ⟨b, o, rfl, _, c3⟩ := h.row k hk
    obtain ⟨fr, hfr⟩ : ∃ x, L[k].t = x := ⟨_, rfl⟩
    rw [hfr] at hne c1
    obtain ⟨n, hn⟩ : ∃ n, L.length = n := ⟨_, rfl⟩
    rw [hn] at hk c0
    clear h hc hp hin hfr hn
    have d1 : decide (k < n) = true := decide_eq_true hk
    have d3 : decide (n ≤ k) = false := decide_eq_false (by omega)
    have d2 : (fr != part) = true := by simpa using hne
    go_enter Try.func37, Try.ntmps37
    go_wp2_with fail
    all_goals (go_ret3; simp [emptyS])
  · obtain ⟨n, hn⟩ : ∃ n, L.length = n := ⟨_, rfl⟩
    rw [hn] at hin c0
    clear h hc hp hn
    by_cases h0 : p < 0
    · have d0 : decide (p < 0) = true := decide_eq_true h0
      go_enter Try.func37, Try.ntmps37
      go_wp2_with fail
      all_goals (go_ret3; simp [emptyS])
    · have d0 : decide (p < 0) = false := decide_eq_false h0
      have d1 : decide ((n : Int) ≤ p) = true := decide_eq_true (by omega)
      go_enter Try.func37, Try.ntmps37
      go_wp2_with fail
      all_goals (go_ret3; simp [emptyS])

set_option maxHeartbeats 2000000 in
theorem rrecv_ok (h : RlP w S F rp L A gs) (ho : Sound L) (k : Nat) (hk : k < L.length) (t : Int) :
    Calls Try.prog 37 #[.pointer (some ⟨rp, 0, none⟩), .int .i64 L[k].t, .int .i64 (k : Int), .int .i64 t] w fun e w' =>
      e = .returned (.tuple #[.string (recvM L[k].s t), .bool (recvB L[k].s t), .int .i64 (recvE L[k].s t)]) ∧ ∃ F', RlP w' S F' rp (onE L k (recvS L[k].s t)) A gs ∧ Mv w w' F F' L.length := by
  obtain ⟨c, hc⟩ := h.rt
  have c0 := hc.cell 0
  simp at c0
  obtain ⟨_, c1⟩ := rway h k hk
  obtain ⟨b, o, hA, _, c3⟩ := h.row k hk
  subst hA
  have H := Lib.hid h
  have HO := Lib.hid (ho k hk).1
  have HW := Lib.hid (h.way k hk)
  clear h ho hc
  have d1 : decide (k < L.length) = true := decide_eq_true hk
  have d3 : decide (L.length ≤ k) = false := decide_eq_false (by omega)
  obtain ⟨fr, hfr⟩ : ∃ x, L[k].t = x := ⟨_, rfl⟩
  rw [hfr] at c1 ⊢
  clear hfr
  go_enter Try.func37, Try.ntmps37
  go_wp2_with (go_at_call 19; refine (qrecv_any HW.out HO.out t).mono ?_; rintro e w2 ⟨rfl, hp, hu⟩; have HP := Lib.hid (And.intro (H.out.on hk hp (fun _ h => Or.inl h) hu) (Mv.one hk (fun _ h => Or.inl h) hu)); clear hp hu)
  all_goals (go_ret3; exact ⟨rfl, _, HP.out.1, HP.out.2⟩)

theorem rlen_out (h : RlP w S F rp L A gs) (p : Int) (hin : ¬ (0 ≤ p ∧ p < L.length)) :
    Calls Try.prog 27 #[.pointer (some ⟨rp, 0, none⟩), .int .i64 p] w fun e w' => e = .returned (.int .i64 0) ∧ w' = w := by
  obtain ⟨c, hc⟩ := h.rt
  have c0 := hc.cell 0
  simp at c0
  obtain ⟨n, hn⟩ : ∃ n, L.length = n := ⟨_, rfl⟩
  rw [hn] at hin c0
  clear h hc hn
  by_cases h0 : p < 0
  · have d0 : decide (p < 0) = true := decide_eq_true h0
    go_enter Try.func27, Try.ntmps27
    go_wp2_with fail
    all_goals (go_ret; simp)
  · have d0 : decide (p < 0) = false := decide_eq_false h0
    have d1 : decide ((n : Int) ≤ p) = true := decide_eq_true (by omega)
    go_enter Try.func27, Try.ntmps27
    go_wp2_with fail
    all_goals (go_ret; simp)
theorem rlen_in (h : RlP w S F rp L A gs) (ho : Sound L) (k : Nat) (hk : k < L.length) :
    Calls Try.prog 27 #[.pointer (some ⟨rp, 0, none⟩), .int .i64 (k : Int)] w fun e w' => e = .returned (.int .i64 L[k].s.L.length) ∧ w' = w := by
  obtain ⟨c, hc⟩ := h.rt
  have c0 := hc.cell 0
  simp at c0
  obtain ⟨b, o, hA, _, c3⟩ := h.row k hk
  subst hA
  have HO := Lib.hid ((ho k hk).1.l4 (ho k hk).2.1)
  have HW := Lib.hid (h.way k hk)
  clear h ho hc
  have d1 : decide (k < L.length) = true := decide_eq_true hk
  have d3 : decide (L.length ≤ k) = false := decide_eq_false (by omega)
  go_enter Try.func27, Try.ntmps27
  go_wp2_with (go_at_call 22; refine (qlen_any HW.out HO.out).mono ?_; rintro e w' ⟨rfl, rfl⟩)
  all_goals (go_ret; exact ⟨rfl, rfl⟩)
end
end Go.Proofs.Ytlaakcgipecldaa
