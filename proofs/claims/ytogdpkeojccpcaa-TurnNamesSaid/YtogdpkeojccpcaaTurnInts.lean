/- Rows of numbers: EqInts and CopyInts; a row that the call has built reads as numbers. -/
import Derived.Test.YtogdpkeojccpcaaTurnPlan2
namespace Go.Proofs.Ytogdpkeojccpcaa
set_option linter.all false
open Go.RowKit

theorem ints_own {w : World} {B n c : Nat} {A : Option Addr} {l : List Int} (h : w.ownsRow B 3 1 (.slice A n c) n (l.map (Value.int .i64))) : IntsW w A n (fun i => l.getD i 0) := by
  refine ⟨fun i hi => ?_⟩
  rcases h.2 with ⟨_, h0⟩ | ⟨g, cap, cur, hv, _, hb, h1, h2, h3, h4⟩
  · omega
  · injection hv with hA
    refine ⟨g, 0, hA, Blk.lt hb, ?_⟩
    have hl : l.length = n := by have := h.1; rw [List.length_map] at this; omega
    have hil : i < l.length := by omega
    rw [Nat.zero_add, Blk.cell hb]
    have e : cur[i]? = (cur.toList.take (n * 1))[i]? := by rw [List.getElem?_take, if_pos (by omega), Array.getElem?_toList]
    rw [e, h4, List.getElem?_map, List.getElem?_eq_getElem hil, List.getD_eq_getElem?_getD, List.getElem?_eq_getElem hil]
    rfl
theorem ints_blk {w : World} {g : Nat} {t : TypeId} {l : List Int} (hb : Blk w g t (l.map (Value.int .i64)).toArray) : IntsW w (some ⟨g, 0, none⟩) l.length (fun i => l.getD i 0) :=
  ⟨fun i hi => ⟨g, 0, rfl, hb.lt, by
    rw [Nat.zero_add, hb.cell]
    simp [hi]⟩⟩
theorem IntsW.nil (w : World) (A : Option Addr) (S : Nat → Int) : IntsW w A 0 S := ⟨fun i hi => absurd hi (by omega)⟩

set_option maxHeartbeats 2000000 in
theorem eqints_true {w : World} {A A' : Option Addr} {n : Nat} {S S' : Nat → Int} (h : IntsW w A n S) (h' : IntsW w A' n S') (c c' : Nat) (hS : ∀ i, i < n → S i = S' i) (hn : n ≤ maxLen) :
    Calls Try.prog 47 #[.slice A n c, .slice A' n c'] w fun r w' => r = .returned (.bool true) ∧ Below w.heap.size w w' := by
  have hnI : (n : Int) ≤ 9223372036854775807 := by simp [maxLen] at hn; omega
  have H := Lib.hid h
  have H' := Lib.hid h'
  have HS := Lib.hid hS
  clear h h' hS hn
  go_enter Try.func47, Try.ntmps47
  go_wp2_with fail
  go_loopw [5] (fun vi wr => ∃ k : Nat, k ≤ n ∧ vi = .int .i64 (k : Int) ∧ Hid (Below w.heap.size w wr)) (fun vi _ => n - (intOf vi).toNat)
  case atStart => exact ⟨0, by omega, rfl, Below.refl _ _⟩
  case round =>
    obtain ⟨k, hk, rfl, hb⟩ := hrel
    by_cases hkn : k < n
    · have hx0 : (0 : Int) ≤ k := by omega
      have hx1 : (k : Int) < n := by omega
      have w1 : IntKind.i64.wrap ((k : Int) + 1) = (k : Int) + 1 := IntWalk.i64_in _ (by omega)
      obtain ⟨b1, o1, rfl, hl1, d1⟩ := H.out.at_ k hkn
      obtain ⟨b2, o2, rfl, hl2, d2⟩ := H'.out.at_ k hkn
      rw [← hb.out.cell (p := ⟨b1, _, none⟩) hl1] at d1
      rw [← hb.out.cell (p := ⟨b2, _, none⟩) hl2] at d2
      rw [← HS.out k hkn] at d2
      obtain ⟨z, hz⟩ : ∃ z, S k = z := ⟨_, rfl⟩
      rw [hz] at d1 d2
      clear hz hl1 hl2
      go_wp2_with fail
      go_quiet (fail)
      go_wp2_with fail
      exact ⟨⟨k + 1, by omega, by go_num, belowN hb.out _⟩, by simp [intOf]; try omega⟩
    · obtain rfl : k = n := by omega
      go_wp2_with fail
      go_ret
      exact ⟨rfl, hb.out⟩

set_option maxRecDepth 100000 in
set_option maxHeartbeats 2000000 in
theorem copyints_any {w : World} {A : Option Addr} {n : Nat} {S : Nat → Int} (h : IntsW w A n S) (c : Nat) (hn : n ≤ maxLen) (h8 : n * 8 ≤ 140737488355328) :
    Calls Try.prog 44 #[.slice A n c] w fun r w' => (∃ A' c', r = .returned (.slice A' n c') ∧ IntsW w' A' n S) ∧ Below w.heap.size w w' := by
  have H := Lib.hid h
  have HN := Lib.hid hn
  have H8 := Lib.hid h8
  clear h hn h8
  obtain ⟨i0, hi0, hz0, hz1, hz2⟩ := info_parts infoInt
  by_cases h0 : n = 0
  · subst h0
    clear HN H8 hi0 hz0 hz1 hz2
    cases A with
    | none =>
      go_enter Try.func44, Try.ntmps44
      go_wp2_with fail
      go_ret
      exact ⟨⟨none, 0, rfl, IntsW.nil _ _ _⟩, Below.refl _ _⟩
    | some a =>
      go_enter Try.func44, Try.ntmps44
      go_wp2_with fail
      go_ret
      exact ⟨⟨none, 0, rfl, IntsW.nil _ _ _⟩, Below.refl _ _⟩
  · obtain ⟨b, off, rfl, hlt, _⟩ := H.out.at_ 0 (by omega)
    have hnews : ∀ (j : Nat) (u : Value), ((List.range n).map (fun i => Value.int .i64 (S i)))[j]? = some u → w.cell? ((⟨b, off, none⟩ : Addr).add j) = some u := by
      intro j u hj
      by_cases hjn : j < n
      · rw [List.getElem?_map, List.getElem?_range hjn] at hj
        obtain ⟨b', off', e, _, h3⟩ := H.out.at_ j hjn
        cases e
        rw [show (⟨b, off, none⟩ : Addr).add j = ⟨b, off + j, none⟩ from by unfold Addr.add; split <;> simp_all]
        rw [h3]
        exact hj
      · rw [List.getElem?_eq_none (by simp; omega)] at hj
        cases hj
    have HNW := Lib.hid hnews
    have h63 := Lib.hid (show 0 + n ≤ maxLen by rw [Nat.zero_add]; exact HN.out)
    have h88 := Lib.hid (show (0 + n) * 8 ≤ 140737488355328 by rw [Nat.zero_add]; exact H8.out)
    have hpos := Lib.hid (show 0 < n by omega)
    clear hnews h0
    go_enter Try.func44, Try.ntmps44
    go_wp2_with (at_builtin
                 refine wpList_append_lies _ (by rfl) _ _ 29 (by rfl) w.heap.size 3 i0 _ 1 8 Try.underlying29 hi0 hz0 hz1 hz2 (by rfl) (by decide) (.slice none 0 0) 0 [] (by rfl) (World.ownsRow_nil _ _ _ _) ⟨b, off, none⟩ n c ((List.range n).map (fun i => Value.int .i64 (S i))) (by rfl) (by simp) HNW.out (by intro u hu; simp at hu; obtain ⟨_, _, rfl⟩ := hu; rfl) hpos.out h63.out h88.out (Nat.le_refl _) w.heap.size rfl ?_
                 intro g cap w2 hown1 hgrow hat hlt1
                 have HF := Lib.hid (And.intro hown1 hgrow)
                 clear hown1 hgrow hat hlt1)
    go_ret
    refine ⟨⟨some ⟨g, 0, none⟩, cap, rfl, ⟨fun i hi => ?_⟩⟩, (Below.refl _ _).grown HF.out.2 (Nat.le_refl _) (fun k hk => by simp [Value.ownBlock] at hk)⟩
    obtain ⟨ho, _⟩ := HF.out
    rw [Nat.zero_add, List.nil_append] at ho
    have e : (List.range n).map (fun i => Value.int .i64 (S i)) = ((List.range n).map S).map (Value.int .i64) := by rw [List.map_map]; rfl
    rw [e] at ho
    obtain ⟨b', off', h1, h2, h3⟩ := (ints_own ho).at_ i hi
    refine ⟨b', off', h1, h2, h3.trans ?_⟩
    simp [hi]
end Go.Proofs.Ytogdpkeojccpcaa
