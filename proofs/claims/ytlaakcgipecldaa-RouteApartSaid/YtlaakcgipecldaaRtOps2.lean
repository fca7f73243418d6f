/- The calls of package route at ports that lie in memory: those that reach a way. Conditions: the ports are sound (WOk). -/
import Derived.Test.YtlaakcgipecldaaRtOps
namespace Go.Proofs.Ytlaakcgipecldaa
set_option linter.all false
open Go.RowKit

section
variable {w : World} {S : Nat → Prop} {F : Nat → Nat → Prop} {rp : Nat} {L : List RE} {A : Option Addr} {hs gs : Nat → Nat}

theorem way3 (h : RtP w S F rp L A hs gs) (k : Nat) (hk : k < L.length) : w.cell? ⟨hs k, 0, none⟩ = some (.pointer (some ⟨gs k, 0, none⟩)) ∧ w.cell? ⟨hs k, 1, none⟩ = some (.int .i64 L[k].f) ∧ w.cell? ⟨hs k, 2, none⟩ = some (.int .i64 L[k].t) := by
  obtain ⟨_, h5, _⟩ := h.way k hk
  exact ⟨h5.cell 0, h5.cell 1, h5.cell 2⟩

set_option maxHeartbeats 2000000 in
theorem send_ok (h : RtP w S F rp L A hs gs) (ho : Sound L) (k : Nat) (hk : k < L.length) (t : Int) (m : ByteArray) (hm : m.size ≤ maxLen) :
    Calls Try.prog 30 #[.pointer (some ⟨rp, 0, none⟩), .int .i64 L[k].f, .int .i64 (k : Int), .string m, .int .i64 t] w fun e w' =>
      e = .returned (.int .i64 (sendE L[k].s m.size t)) ∧ ∃ F', RtP w' S F' rp (onE L k (sendS L[k].s m t)) A hs gs ∧ Mv w w' F F' L.length := by
  obtain ⟨c0, c1, c2⟩ := way3 h k hk
  have H := Lib.hid h
  have HO := Lib.hid (ho k hk).1
  have HW := Lib.hid (h.way k hk).2.2
  have HM := Lib.hid hm
  clear h ho hm
  obtain ⟨fr, hfr⟩ : ∃ x, L[k].f = x := ⟨_, rfl⟩
  rw [hfr] at c1 ⊢
  go_enter Try.func30, Try.ntmps30
  go_wp2_with (first
    | (go_at_call 44; refine (none_p H.out).mono ?_; rintro e w' ⟨rfl, rfl⟩)
    | (go_at_call 42; refine (of_in H.out k hk).mono ?_; rintro e w' ⟨rfl, rfl⟩)
    | (go_at_call 13; refine (wsend_any HW.out HO.out m t HM.out).mono ?_; rintro e w2 ⟨rfl, hp, hu⟩; have HP := Lib.hid (And.intro (H.out.on hk hp (fun _ h => h) hu) (Mv.one hk (fun _ h => h) hu)); clear hp hu))
  all_goals (go_ret; exact ⟨rfl, _, HP.out.1, HP.out.2⟩)

set_option maxHeartbeats 2000000 in
theorem recv_no (h : RtP w S F rp L A hs gs) (part p t : Int) (hp : ∀ i (hi : i < L.length), p = i → L[i].t ≠ part) :
    Calls Try.prog 31 #[.pointer (some ⟨rp, 0, none⟩), .int .i64 part, .int .i64 p, .int .i64 t] w fun e w' => e = .returned (.tuple #[.string emptyS, .bool false, .int .i64 220]) ∧ w' = w := by
  by_cases hin : 0 ≤ p ∧ p < L.length
  · obtain ⟨k, rfl⟩ : ∃ k : Nat, p = k := ⟨p.toNat, by omega⟩
    have hk : k < L.length := by omega
    have hne := hp k hk rfl
    obtain ⟨_, _, c1⟩ := way3 h k hk
    obtain ⟨fr, hfr⟩ : ∃ x, L[k].t = x := ⟨_, rfl⟩
    rw [hfr] at hne c1
    have d1 : (fr == part) = false := by simpa using hne
    have d2 : (fr != part) = true := by simpa using hne
    have H := Lib.hid h
    clear h hp hin
    go_enter Try.func31, Try.ntmps31
    go_wp2_with (first
      | (go_at_call 44; refine (none_p H.out).mono ?_; rintro e w' ⟨rfl, rfl⟩)
      | (go_at_call 42; refine (of_in H.out k hk).mono ?_; rintro e w' ⟨rfl, rfl⟩))
    all_goals (go_ret3; simp [emptyS])
  · have H := Lib.hid h
    clear h
    go_enter Try.func31, Try.ntmps31
    go_wp2_with (first
      | (go_at_call 44; refine (none_p H.out).mono ?_; rintro e w' ⟨rfl, rfl⟩)
      | (go_at_call 42; refine (of_out H.out p hin).mono ?_; rintro e w' ⟨rfl, rfl⟩))
    all_goals (go_ret3; simp [emptyS])

set_option maxHeartbeats 2000000 in
theorem recv_ok (h : RtP w S F rp L A hs gs) (ho : Sound L) (k : Nat) (hk : k < L.length) (t : Int) :
    Calls Try.prog 31 #[.pointer (some ⟨rp, 0, none⟩), .int .i64 L[k].t, .int .i64 (k : Int), .int .i64 t] w fun e w' =>
      e = .returned (.tuple #[.string (recvM L[k].s t), .bool (recvB L[k].s t), .int .i64 (recvE L[k].s t)]) ∧ ∃ F', RtP w' S F' rp (onE L k (recvS L[k].s t)) A hs gs ∧ Mv w w' F F' L.length := by
  obtain ⟨c0, c1, c2⟩ := way3 h k hk
  have H := Lib.hid h
  have HO := Lib.hid (ho k hk).1
  have HW := Lib.hid (h.way k hk).2.2
  clear h ho
  obtain ⟨fr, hfr⟩ : ∃ x, L[k].t = x := ⟨_, rfl⟩
  rw [hfr] at c2 ⊢
  go_enter Try.func31, Try.ntmps31
  go_wp2_with (first
    | (go_at_call 44; refine (none_p H.out).mono ?_; rintro e w' ⟨rfl, rfl⟩)
    | (go_at_call 42; refine (of_in H.out k hk).mono ?_; rintro e w' ⟨rfl, rfl⟩)
    | (go_at_call 12; refine (wrecv_any HW.out HO.out t).mono ?_; rintro e w2 ⟨rfl, hp, hu⟩; have HP := Lib.hid (And.intro (H.out.on hk hp (fun _ h => Or.inl h) hu) (Mv.one hk (fun _ h => Or.inl h) hu)); clear hp hu))
  all_goals (go_ret3; exact ⟨rfl, _, HP.out.1, HP.out.2⟩)

theorem len_out (h : RtP w S F rp L A hs gs) (p : Int) (hp : ¬ (0 ≤ p ∧ p < L.length)) :
    Calls Try.prog 26 #[.pointer (some ⟨rp, 0, none⟩), .int .i64 p] w fun e w' => e = .returned (.int .i64 0) ∧ w' = w := by
  go_enter Try.func26, Try.ntmps26
  go_wp2_with (go_at_call 42; refine (of_out h p hp).mono ?_; rintro e w' ⟨rfl, rfl⟩)
  all_goals (go_ret; simp)
theorem len_in (h : RtP w S F rp L A hs gs) (ho : Sound L) (k : Nat) (hk : k < L.length) :
    Calls Try.prog 26 #[.pointer (some ⟨rp, 0, none⟩), .int .i64 (k : Int)] w fun e w' => e = .returned (.int .i64 L[k].s.L.length) ∧ w' = w := by
  obtain ⟨c0, c1, c2⟩ := way3 h k hk
  have H := Lib.hid h
  have HO := Lib.hid (ho k hk).1
  have HW := Lib.hid (h.way k hk).2.2
  clear h ho c1 c2
  go_enter Try.func26, Try.ntmps26
  go_wp2_with (first
    | (go_at_call 42; refine (of_in H.out k hk).mono ?_; rintro e w' ⟨rfl, rfl⟩)
    | (go_at_call 14; refine (wlen_any HW.out HO.out).mono ?_; rintro e w' ⟨rfl, rfl⟩))
  all_goals (go_ret; exact ⟨rfl, rfl⟩)

/-- What Clear leaves of a port. -/
def clr (part : Int) (e : RE) : RE := if e.t = part then { e with s := clearS e.s } else e
/-- .. of the ports ahead of k. -/
def clrL (part : Int) (L : List RE) (k : Nat) : List RE := (L.take k).map (clr part) ++ L.drop k
/-- How many it has taken away. -/
def clrN (part : Int) : List RE → Int
  | [] => 0
  | e :: L => (if e.t = part then (e.s.L.length : Int) else 0) + clrN part L

theorem clrL_length (part : Int) (L : List RE) (k : Nat) : (clrL part L k).length = L.length := by
  simp [clrL]; omega
theorem clrL_get (part : Int) (L : List RE) (k : Nat) (h : k < L.length) : (clrL part L k)[k]? = L[k]? := by
  unfold clrL
  rw [List.getElem?_append_right (by simp; omega), List.length_map, List.length_take, List.getElem?_drop]
  congr 1
  omega
theorem clrL_at (part : Int) (L : List RE) (k : Nat) (hk : k < (clrL part L k).length) : (clrL part L k)[k] = L[k]'(by rw [clrL_length] at hk; exact hk) := by
  have h2 : k < L.length := by rw [clrL_length] at hk; exact hk
  have := clrL_get part L k h2
  rw [List.getElem?_eq_getElem hk, List.getElem?_eq_getElem h2] at this
  exact Option.some.inj this
theorem clrL_succ (part : Int) (L : List RE) (k : Nat) (hk : k < L.length) : clrL part L (k + 1) = (clrL part L k).set k (clr part L[k]) := by
  unfold clrL
  rw [List.take_succ_eq_append_getElem hk, List.map_append, List.append_assoc, List.set_append_right _ _ (by simp; omega)]
  congr 1
  simp only [List.map_cons, List.map_nil, List.length_map, List.length_take]
  rw [show k - min k L.length = 0 by omega, List.drop_eq_getElem_cons hk]
  rfl
theorem clrN_succ (part : Int) : ∀ (L : List RE) (k : Nat) (hk : k < L.length), clrN part (L.take (k + 1)) = clrN part (L.take k) + (if L[k].t = part then (L[k].s.L.length : Int) else 0)
  | e :: L, 0, _ => by simp [clrN]
  | e :: L, k + 1, hk => by
    have := clrN_succ part L k (by simpa using hk)
    simp only [List.take_succ_cons, clrN, List.getElem_cons_succ]
    rw [this]
    omega
end
end Go.Proofs.Ytlaakcgipecldaa
