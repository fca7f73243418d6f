/- Servers that may be, made out of any. -/
import Derived.Test.YtogdpkeojccpcaaShareServ
import Derived.Test.YtogdpkeojccpcaaBring
namespace Go.Proofs.Ytogdpkeojccpcaa
set_option linter.all false
open Go.RowKit

def mdP (M : Int) (P : Nat → Int) (i : Nat) : Int := 1 + P i % M
def mdB (M : Int) (P B : Nat → Int) (i : Nat) : Int := 1 + B i % (1 + P i % M)
theorem md_ok {M : Int} (h1 : 1 ≤ M) (h2 : M ≤ 64) (P B : Nat → Int) (i : Nat) : OkP (mdP M P i) (mdB M P B i) ∧ mdP M P i ≤ M := by
  have a := Int.emod_nonneg (P i) (b := M) (by omega)
  have b := Int.emod_lt_of_pos (P i) (b := M) (by omega)
  have c := Int.emod_nonneg (B i) (b := 1 + P i % M) (by omega)
  have d := Int.emod_lt_of_pos (B i) (b := 1 + P i % M) (by omega)
  unfold mdP mdB OkP
  omega

set_option maxRecDepth 100000 in
set_option maxHeartbeats 4000000 in
theorem made_any {w : World} {A : Option Addr} {n : Nat} {P B : Nat → Int} (h : Pts w A n P B) (hI : ∀ i, i < n → I64 (P i) ∧ I64 (B i)) (c : Nat) :
    Calls Try.prog 21 #[.slice A n c] w fun r w' =>
      (∃ v, r = .returned v ∧ w'.ownsRow w.heap.size 36 3 v (min n 4) (ptC (mdP 24 P) (mdB 24 P B) (min n 4))) ∧ Below w.heap.size w w' := by
  obtain ⟨Z, hr, hP⟩ := h.rd
  have hn := h.len
  have HR := Lib.hid hr
  have HP := Lib.hid hP
  have HI := Lib.hid hI
  have hm : (n : Int) ≤ 9223372036854775807 := by simp [maxLen] at hn; omega
  clear hr hP hI hn h
  obtain ⟨N, hN⟩ : ∃ N, min n 4 = N := ⟨_, rfl⟩
  rw [hN]
  have HN := Lib.hid hN
  have hN4 : N ≤ 4 := by omega
  have hNn : N ≤ n := by omega
  clear hN
  obtain ⟨i0, hi0, hz0, hz1, hz2⟩ := info_parts infoPart
  go_enter Try.func21, Try.ntmps21
  go_wp2_with fail
  go_loopw [3, 4] (fun v j wr => ∃ (k : Nat), k ≤ N ∧ j = .int .i64 (k : Int) ∧ Hid (wr.ownsRow w.heap.size 36 3 v k (ptC (mdP 24 P) (mdB 24 P B) k)) ∧ Hid (Below w.heap.size w wr)) (fun _ j _ => N - (intOf j).toNat)
  case atStart => exact ⟨0, by omega, rfl, World.ownsRow_nil _ _ _ _, Below.refl _ _⟩
  case round =>
    obtain ⟨k, hk, rfl, hown, hb⟩ := hrel
    by_cases hc : k < N
    · obtain ⟨b, off, rfl, hlt, hcell⟩ := HR.out k (by omega)
      obtain ⟨p0, p1⟩ := HP.out k (by omega)
      obtain ⟨⟨pb1, pb2⟩, ⟨bb1, bb2⟩⟩ := HI.out k (by omega)
      obtain ⟨c0, _⟩ := hcell 0 _ rfl
      obtain ⟨c1, _⟩ := hcell 1 _ rfl
      rw [p0] at c0
      rw [p1] at c1
      rw [← hb.out.cell (p := ⟨b, _, none⟩) hlt] at c0 c1
      simp [← Nat.add_assoc] at c0 c1
      obtain ⟨pk, hpk⟩ : ∃ x, P k = x := ⟨_, rfl⟩
      obtain ⟨bk, hbk⟩ : ∃ x, B k = x := ⟨_, rfl⟩
      rw [hpk] at c0 pb1 pb2
      rw [hbk] at c1 bb1 bb2
      have HK := Lib.hid (And.intro hpk hbk)
      clear hpk hbk p0 p1 hcell
      have q0 := Int.emod_nonneg pk (b := 24) (by decide)
      have q1 := Int.emod_lt_of_pos pk (b := 24) (by decide)
      obtain ⟨p, hp⟩ : ∃ p, 1 + pk % 24 = p := ⟨_, rfl⟩
      have q2 := Int.emod_nonneg bk (b := p) (by omega)
      have q3 := Int.emod_lt_of_pos bk (b := p) (by omega)
      obtain ⟨q, hq⟩ : ∃ q, 1 + bk % p = q := ⟨_, rfl⟩
      have wp : IntKind.i64.wrap (1 + pk % 24) = p := by rw [IntWalk.i64_in _ (by omega)]; exact hp
      have wq : IntKind.i64.wrap (1 + bk % p) = q := by rw [IntWalk.i64_in _ (by omega)]; exact hq
      have HPQ := Lib.hid (And.intro hp hq)
      have hp1 : 1 ≤ p := by omega
      have hp2 : p ≤ 24 := by omega
      clear hp hq
      have hx0 : (0 : Int) ≤ k := by omega
      have hx1 : (k : Int) < n := by omega
      have hx4 : (k : Int) < 4 := by omega
      have HB1 : Hid (k + 1 ≤ maxLen) := (by simp only [maxLen]; omega : k + 1 ≤ maxLen)
      have HB2 : Hid ((k + 1) * 40 ≤ 140737488355328) := (by omega : (k + 1) * 40 ≤ 140737488355328)
      have hsz := hb.out.size
      have hne : ∀ b, b < w.heap.size → some b ≠ u3.ownBlock := by
        intro b hb e
        rcases hown.out.2 with ⟨h, _⟩ | ⟨g, cap, cur, h, hg, _⟩
        · rw [h] at e; simp [Value.ownBlock] at e
        · rw [h] at e; simp [Value.ownBlock] at e; omega
      have HNE := Lib.hid hne
      have T1 := Lib.hid True.intro
      clear hne
      go_wp2_with (first
        | (go_at_call 22; first
            | (have _tk := T1; refine (bring_any pk 24 _ ⟨by omega, by omega⟩ ⟨by decide, by decide⟩).mono ?_; rintro r x1 ⟨rfl, -, rfl⟩; clear T1 _tk)
            | (refine (bring_any bk p _ ⟨by omega, by omega⟩ ⟨by omega, by omega⟩).mono ?_; rintro r x1 ⟨rfl, -, rfl⟩))
        | (at_builtin
           refine wpList_append_lies _ (by rfl) _ _ 22 (by rfl) w.heap.size 36 i0 _ 3 40 Try.underlying22 hi0 hz0 hz1 hz2 partCells (by decide) u3 k (ptC (mdP 24 P) (mdB 24 P B) k) (by rfl) (hown.out.alloc _) ⟨wr.heap.size, 0, none⟩ 1 1 [.int .i64 p, .int .i64 q, .slice none 0 0] (by rfl) (by rfl) (World.news_of_block (cs := #[.int .i64 p, .int .i64 q, .slice none 0 0]) (t := 36) (fr := (0, 0)) (heap_alloc_new wr _)) (by simp [Value.oneCell']) (by decide) HB1.out HB2.out (by simp; omega) (wr.heap.size + 1) (by simp) ?_
           intro g cap w1 hown1 hgrow hat hlt1))
      have e3 : ptC (mdP 24 P) (mdB 24 P B) k ++ [Value.int IntKind.i64 p, Value.int IntKind.i64 q, Value.slice none 0 0] = ptC (mdP 24 P) (mdB 24 P B) (k + 1) := by
        rw [ptC]
        unfold mdP mdB
        rw [HK.out.1, HK.out.2, HPQ.out.1, HPQ.out.2]
      rw [e3] at hown1
      refine ⟨⟨k + 1, by omega, by go_num, hown1, ?_⟩, by simp [intOf]; omega⟩
      exact (hb.out.alloc (by omega) _).grown hgrow (by simp; omega) (fun i hi => by
        rcases Nat.lt_or_ge i w.heap.size with h | h
        · exact absurd hi.symm (HNE.out i h)
        · exact h)
    · obtain rfl : k = N := by omega
      by_cases hkn : k < n
      · have h4 : ¬ (k : Int) < 4 := by have := HN.out; omega
        have hx1 : (k : Int) < n := by omega
        go_wp2_with fail
        go_ret
        exact ⟨⟨_, rfl, hown.out⟩, hb.out⟩
      · have hx1 : ¬ (k : Int) < n := by omega
        go_wp2_with fail
        go_ret
        exact ⟨⟨_, rfl, hown.out⟩, hb.out⟩
end Go.Proofs.Ytogdpkeojccpcaa
