/- Which plans there may be: the walks of asked, the program's and the document's. -/
import Derived.Test.YtogdpkeojccpcaaShareW
import Derived.Test.YtogdpkeojccpcaaPurseNames
import Derived.Deep.CutRange
namespace Go.Proofs.Ytogdpkeojccpcaa
set_option linter.all false
open Go.RowKit

/-- A row of numbers. -/
structure IntsW (w : World) (A : Option Addr) (n : Nat) (S : Nat → Int) : Prop where
  at_ : ∀ i, i < n → ∃ b off, A = some ⟨b, off, none⟩ ∧ b < w.heap.size ∧ w.cell? ⟨b, off + i, none⟩ = some (.int .i64 (S i))
theorem IntsW.keep {w w' : World} {A : Option Addr} {n : Nat} {S : Nat → Int} (h : IntsW w A n S) (hb : Below w.heap.size w w') : IntsW w' A n S :=
  ⟨fun i hi => by
    obtain ⟨b, off, h1, h2, h3⟩ := h.at_ i hi
    exact ⟨b, off, h1, Nat.lt_of_lt_of_le h2 hb.size, (hb.cell (p := ⟨b, off + i, none⟩) h2).trans h3⟩⟩

def AskOk (P B S : Nat → Int) (m : Nat) : Prop := ∀ i, i < m → OkP (P i) (B i) ∧ 0 ≤ S i ∧ S i ≤ 1000
/-- What is answered for a plan. -/
def AskIs (P B S : Nat → Int) (m mb : Nat) (n E : Int) : Prop :=
  (E = 5 ∧ (4 < m ∨ n < 0 ∨ 1000 < n)) ∨ ((m ≤ 4 ∧ 0 ≤ n ∧ n ≤ 1000) ∧ ((E = 2 ∧ (mb ≠ m ∨ ¬ AskOk P B S m)) ∨ (E = 0 ∧ mb = m ∧ AskOk P B S m)))
theorem AskIs.fun_ {P B S : Nat → Int} {m mb : Nat} {n E E' : Int} (h : AskIs P B S m mb n E) (h' : AskIs P B S m mb n E') : E = E' := by
  unfold AskIs at h h'
  rcases h with ⟨h1, h2⟩ | ⟨h0, ⟨h1, h2⟩ | ⟨h1, h2, h3⟩⟩ <;> rcases h' with ⟨k1, k2⟩ | ⟨k0, ⟨k1, k2⟩ | ⟨k1, k2, k3⟩⟩
  · omega
  · omega
  · omega
  · omega
  · omega
  · rcases h2 with h2 | h2
    · exact absurd k2 h2
    · exact absurd k3 h2
  · omega
  · rcases k2 with k2 | k2
    · exact absurd h2 k2
    · exact absurd h3 k2
  · omega
theorem newE_ok {p b : Int} (h : OkP p b) : newE p b 0 = 0 := by unfold newE; rw [if_pos ⟨h, by omega⟩, if_pos (by omega)]
theorem newE_no {p b : Int} (h : ¬ OkP p b) : newE p b 0 = 2 := by unfold newE; rw [if_neg (fun e => h e.1)]

set_option maxRecDepth 100000 in
set_option maxHeartbeats 8000000 in
theorem ask_any {w : World} {A A2 : Option Addr} {m mb : Nat} {P B S : Nat → Int} (h : Pts w A m P B) (hI : ∀ i, i < m → I64 (P i) ∧ I64 (B i)) (h2 : IntsW w A2 mb S) (c c2 : Nat) (n : Int) :
    Calls Try.prog 61 #[.slice A m c, .slice A2 mb c2, .int .i64 n] w fun r w' => (∃ E, r = .returned (.int .i64 E) ∧ AskIs P B S m mb n E) ∧ Below w.heap.size w w' := by
  obtain ⟨Z, hr, hP⟩ := h.rd
  have HR := Lib.hid hr
  have HP := Lib.hid hP
  have H2 := Lib.hid h2
  have HI := Lib.hid hI
  clear hr hP h2 hI h
  by_cases h4 : 4 < m ∨ n < 0 ∨ 1000 < n
  · have HN : Hid (AskIs P B S m mb n 5) := Or.inl ⟨rfl, h4⟩
    by_cases a1 : 4 < m
    · have a1' : (4 : Int) < m := by omega
      clear h4
      go_enter Try.func61, Try.ntmps61
      go_wp2_with fail
      go_ret
      exact ⟨⟨5, rfl, HN.out⟩, Below.refl _ _⟩
    · have a1' : (m : Int) ≤ 4 := by omega
      by_cases a2 : n < 0
      · clear h4
        go_enter Try.func61, Try.ntmps61
        go_wp2_with fail
        go_ret
        exact ⟨⟨5, rfl, HN.out⟩, Below.refl _ _⟩
      · have a3 : 1000 < n := by omega
        clear h4
        go_enter Try.func61, Try.ntmps61
        go_wp2_with fail
        go_ret
        exact ⟨⟨5, rfl, HN.out⟩, Below.refl _ _⟩
  · have b1 : (m : Int) ≤ 4 := by omega
    have b2 : 0 ≤ n := by omega
    have b3 : n ≤ 1000 := by omega
    have HB3 : Hid (m ≤ 4 ∧ 0 ≤ n ∧ n ≤ 1000) := ⟨by omega, b2, b3⟩
    clear h4
    by_cases hm : mb = m
    · subst hm
      go_enter Try.func61, Try.ntmps61
      go_wp2_with fail
      go_loopw [29] (fun vi wr => ∃ k : Nat, k ≤ mb ∧ vi = .int .i64 (k : Int) ∧ Hid (AskOk P B S k ∧ Below w.heap.size w wr)) (fun vi _ => mb - (intOf vi).toNat)
      case atStart => exact ⟨0, by omega, rfl, fun i hi => by omega, Below.refl _ _⟩
      case round =>
        obtain ⟨k, hk, rfl, HK⟩ := hrel
        by_cases hkm : k < mb
        · have hx0 : (0 : Int) ≤ k := by omega
          have hx1 : (k : Int) < mb := by omega
          have w1 : IntKind.i64.wrap ((k : Int) + 1) = (k : Int) + 1 := IntWalk.i64_in _ (by omega)
          obtain ⟨gb, off, rfl, hlt, hcell⟩ := HR.out k hkm
          obtain ⟨p0, p1⟩ := HP.out k hkm
          obtain ⟨c0, _⟩ := hcell 0 _ rfl
          obtain ⟨c1, _⟩ := hcell 1 _ rfl
          obtain ⟨c2, s0, s1, s2, hs⟩ := hcell 2 _ rfl
          rw [p0] at c0
          rw [p1] at c1
          rw [hs] at c2
          have hsz := HK.out.2.size
          rw [← HK.out.2.cell (p := ⟨gb, _, none⟩) hlt] at c0 c1 c2
          simp [← Nat.add_assoc] at c0 c1 c2
          obtain ⟨gs, offs, rfl, hlts, d0⟩ := H2.out.at_ k hkm
          rw [← HK.out.2.cell (p := ⟨gs, _, none⟩) hlts] at d0
          obtain ⟨pk, hpk⟩ : ∃ x, P k = x := ⟨_, rfl⟩
          obtain ⟨bk, hbk⟩ : ∃ x, B k = x := ⟨_, rfl⟩
          obtain ⟨sk, hsk⟩ : ∃ x, S k = x := ⟨_, rfl⟩
          have hik := (HI.out k hkm).1
          rw [hpk] at c0 hik
          rw [hbk] at c1
          rw [hsk] at d0
          have HKE := Lib.hid (And.intro hpk (And.intro hbk hsk))
          have HIK := Lib.hid hik
          clear hpk hbk hsk hs p0 p1 hcell hik
          by_cases hok : OkP pk bk
          · have HE := Lib.hid (newE_ok hok)
            have HOK := Lib.hid hok
            clear hok
            by_cases hs0 : sk < 0
            · have hd1 : decide (sk < 0) = true := decide_eq_true hs0
              go_wp2_with (go_at_call 27; refine (new_any pk bk 0 _ HIK.out ⟨by decide, by decide⟩).mono ?_; rintro r x1 ⟨a, rfl, hb, -, -⟩; rw [HE.out]; have d1 := (hb.cell (p := ⟨gs, offs + k, none⟩) (by simp; omega)).trans ((Below.refl wr.heap.size wr).alloc (Nat.le_refl _) _ |>.cell (p := ⟨gs, offs + k, none⟩) (by simp; omega) |>.trans d0); have HB := Lib.hid hb; clear hb)
              go_ret
              refine ⟨⟨2, rfl, Or.inr ⟨HB3.out, Or.inl ⟨rfl, Or.inr fun h => ?_⟩⟩⟩, (HK.out.2.alloc (by omega) _).trans (HB.out.mono (by simp; omega))⟩
              have := (h k hkm).2.1
              rw [HKE.out.2.2] at this
              omega
            · have hd1 : decide (sk < 0) = false := decide_eq_false hs0
              by_cases hs1 : sk > 1000
              · have hd2 : decide (sk > 1000) = true := decide_eq_true hs1
                go_wp2_with (go_at_call 27; refine (new_any pk bk 0 _ HIK.out ⟨by decide, by decide⟩).mono ?_; rintro r x1 ⟨a, rfl, hb, -, -⟩; rw [HE.out]; have d1 := (hb.cell (p := ⟨gs, offs + k, none⟩) (by simp; omega)).trans ((Below.refl wr.heap.size wr).alloc (Nat.le_refl _) _ |>.cell (p := ⟨gs, offs + k, none⟩) (by simp; omega) |>.trans d0); have HB := Lib.hid hb; clear hb)
                go_ret
                refine ⟨⟨2, rfl, Or.inr ⟨HB3.out, Or.inl ⟨rfl, Or.inr fun h => ?_⟩⟩⟩, (HK.out.2.alloc (by omega) _).trans (HB.out.mono (by simp; omega))⟩
                have := (h k hkm).2.2
                rw [HKE.out.2.2] at this
                omega
              · have hd2 : decide (sk > 1000) = false := decide_eq_false hs1
                have HS : Hid (0 ≤ sk ∧ sk ≤ 1000) := ⟨by omega, by omega⟩
                go_wp2_with (go_at_call 27; refine (new_any pk bk 0 _ HIK.out ⟨by decide, by decide⟩).mono ?_; rintro r x1 ⟨a, rfl, hb, -, -⟩; rw [HE.out]; have d1 := (hb.cell (p := ⟨gs, offs + k, none⟩) (by simp; omega)).trans ((Below.refl wr.heap.size wr).alloc (Nat.le_refl _) _ |>.cell (p := ⟨gs, offs + k, none⟩) (by simp; omega) |>.trans d0); have HB := Lib.hid hb; clear hb)
                refine ⟨⟨k + 1, by omega, by go_num, ⟨fun i hi => ?_, (HK.out.2.alloc (by omega) _).trans (HB.out.mono (by simp; omega))⟩⟩, by simp [intOf]; try omega⟩
                by_cases hik : i = k
                · subst hik
                  rw [HKE.out.1, HKE.out.2.1, HKE.out.2.2]
                  exact ⟨HOK.out, HS.out⟩
                · exact HK.out.1 i (by omega)
          · have HE := Lib.hid (newE_no hok)
            have HOK := Lib.hid hok
            clear hok
            go_wp2_with (go_at_call 27; refine (new_any pk bk 0 _ HIK.out ⟨by decide, by decide⟩).mono ?_; rintro r x1 ⟨a, rfl, hb, -, -⟩; rw [HE.out]; have HB := Lib.hid hb; clear hb)
            go_ret
            refine ⟨⟨2, rfl, Or.inr ⟨HB3.out, Or.inl ⟨rfl, Or.inr fun h => ?_⟩⟩⟩, (HK.out.2.alloc (by omega) _).trans (HB.out.mono (by simp; omega))⟩
            have := (h k hkm).1
            rw [HKE.out.1, HKE.out.2.1] at this
            exact HOK.out this
        · obtain rfl : k = mb := by omega
          go_wp2_with fail
          go_ret
          exact ⟨⟨0, rfl, Or.inr ⟨HB3.out, Or.inr ⟨rfl, rfl, HK.out.1⟩⟩⟩, HK.out.2⟩
    · have HN : Hid (AskIs P B S m mb n 2) := Or.inr ⟨HB3.out, Or.inl ⟨rfl, Or.inl hm⟩⟩
      have hd : ((mb : Int) != (m : Int)) = true := by simp; omega
      have hd2 : ¬ ((mb : Int) = (m : Int)) := by omega
      go_enter Try.func61, Try.ntmps61
      go_wp2_with fail
      go_ret
      exact ⟨⟨2, rfl, HN.out⟩, Below.refl _ _⟩
end Go.Proofs.Ytogdpkeojccpcaa
