/- The walk of the document's Who. -/
import Derived.Test.YtogdpkeojccpcaaTurnLaw
import Derived.Test.YtogdpkeojccpcaaPurseRef
namespace Go.Proofs.Ytogdpkeojccpcaa
set_option linter.all false
open Go.RowKit

def RSlotP (w : World) (v : Value) (x : SlotV) : Prop :=
  (v = .pointer none ∧ x = ⟨false, 0, 0⟩) ∨ ∃ g s, v = .pointer (some ⟨g, 0, none⟩) ∧ RfP w g s ∧ x = ⟨s.gn, s.l, s.e⟩
theorem RSlotP.below {w w' : World} {v : Value} {x : SlotV} (h : RSlotP w v x) (hb : Below w.heap.size w w') : RSlotP w' v x := by
  rcases h with h | ⟨g, s, h1, h2, h3⟩
  · exact Or.inl h
  · exact Or.inr ⟨g, s, h1, h2.below hb, h3⟩
structure RowR (w : World) (A : Option Addr) (n : Nat) (vs : Nat → Value) (f : Nat → SlotV) : Prop where
  at_ : ∀ i, i < n → ∃ g, A = some ⟨g, 0, none⟩ ∧ g < w.heap.size ∧ w.cell? ⟨g, i, none⟩ = some (vs i)
  slot : ∀ i, i < n → i < 4 → RSlotP w (vs i) (f i)
theorem RowR.below {w w' : World} {A : Option Addr} {n : Nat} {vs : Nat → Value} {f : Nat → SlotV} (h : RowR w A n vs f) (hb : Below w.heap.size w w') : RowR w' A n vs f :=
  ⟨fun i hi => by
    obtain ⟨g, h1, h2, h3⟩ := h.at_ i hi
    exact ⟨g, h1, Nat.lt_of_lt_of_le h2 hb.size, (hb.cell (p := ⟨g, i, none⟩) h2).trans h3⟩, fun i hi h4 => (h.slot i hi h4).below hb⟩
def whoV (o : Option Nat) : Value := .tuple #[.int .i64 (o.getD 0 : Nat), .bool o.isSome]
def firV (o : Option Nat) : Int := match o with | none => -1 | some j => (j : Nat)
theorem whoF_succ (f : Nat → SlotV) (n : Nat) : whoF f (n + 1) = (match whoF f n with
    | none => if candW (f n) then some n else none
    | some j => if candW (f n) ∧ (f n).e < (f j).e then some n else some j) := rfl
theorem who_skip {f : Nat → SlotV} {k : Nat} (h : ¬ candW (f k)) : whoF f (k + 1) = whoF f k := by
  rw [whoF_succ]
  cases hw : whoF f k with
  | none => simp [h]
  | some j => simp [h]

set_option maxRecDepth 100000 in
set_option maxHeartbeats 4000000 in
theorem rwho_any {w : World} {A : Option Addr} {n c : Nat} {vs : Nat → Value} {f : Nat → SlotV} (h : RowR w A n vs f) :
    Calls Try.prog 50 #[.slice A n c] w fun r w' => r = .returned (whoV (whoF f (min n 4))) ∧ Below w.heap.size w w' := by
  obtain ⟨m, hm⟩ : ∃ m, min n 4 = m := ⟨_, rfl⟩
  rw [hm]
  have HR := Lib.hid h
  have HM := Lib.hid hm
  clear h hm
  go_enter Try.func50, Try.ntmps50
  go_wp2_with fail
  go_loopw [4, 5] (fun vf vi wr => ∃ k, k ≤ m ∧ vi = .int .i64 (k : Int) ∧ vf = .int .i64 (firV (whoF f k)) ∧ Hid (Below w.heap.size w wr)) (fun _ vi _ => m - (intOf vi).toNat)
  case atStart => exact ⟨0, by omega, rfl, rfl, Below.refl _ _⟩
  case round =>
    obtain ⟨k, hk, rfl, rfl, hb⟩ := hrel
    have HM' := HM.out
    have HR' := Lib.hid (HR.out.below hb.out)
    by_cases hkm : k < m
    · have hx0 : (0 : Int) ≤ k := by omega
      have hx1 : (k : Int) < n := by omega
      have hx2 : (k : Int) < 4 := by omega
      have w1 : IntKind.i64.wrap ((k : Int) + 1) = (k : Int) + 1 := IntWalk.i64_in _ (by omega)
      obtain ⟨ga, rfl, hga, ck⟩ := HR'.out.at_ k (by omega)
      obtain ⟨v, hv⟩ : ∃ v, vs k = v := ⟨_, rfl⟩
      rw [hv] at ck
      have hsl := HR'.out.slot k (by omega) (by omega)
      rw [hv] at hsl
      have HM := Lib.hid HM'
      clear HM' hv
      obtain ⟨fv, hfv⟩ : ∃ fv, firV (whoF f k) = fv := ⟨_, rfl⟩
      have HFV := Lib.hid hfv
      rcases hsl with ⟨rfl, hx⟩ | ⟨g, s, rfl, hs, hx⟩
      · have hc : ¬ candW (f k) := by rw [hx]; unfold candW; simp
        rw [hfv]
        have HX := Lib.hid (And.intro hx hc)
        clear hx hfv hc hga
        go_wp2_with fail
        go_quiet (fail)
        go_wp2_with fail
        refine ⟨⟨k + 1, by omega, by go_num, by rw [who_skip HX.out.2, HFV.out], belowN hb.out _⟩, by simp [intOf]; try omega⟩
      · obtain ⟨np, nb, hbk, _⟩ := hs
        have c2 := hbk.cell 2
        have c3 := hbk.cell 3
        have c7 := hbk.cell 7
        simp at c2 c3 c7
        obtain ⟨gn, hgn⟩ : ∃ x, s.gn = x := ⟨_, rfl⟩
        obtain ⟨l, hl⟩ : ∃ x, s.l = x := ⟨_, rfl⟩
        obtain ⟨e, he⟩ : ∃ x, s.e = x := ⟨_, rfl⟩
        rw [hgn] at c7
        rw [hl] at c2
        rw [he] at c3
        rw [hgn, hl, he] at hx
        clear hbk hgn hl he hga
        have HX := Lib.hid hx
        cases gn with
        | true =>
          have hc : ¬ candW (f k) := by rw [hx]; unfold candW; simp
          have HC := Lib.hid hc
          rw [hfv]
          clear hx hfv hc
          go_wp2_with fail
          go_quiet (fail)
          go_wp2_with fail
          refine ⟨⟨k + 1, by omega, by go_num, by rw [who_skip HC.out, HFV.out], belowN hb.out _⟩, by simp [intOf]; try omega⟩
        | false =>
          by_cases hl0 : 0 < l
          · have hc : candW (f k) := by rw [hx]; exact ⟨rfl, hl0⟩
            have HC := Lib.hid hc
            have hd0 : decide (l > 0) = true := by simp; omega
            cases hw : whoF f k with
            | none =>
              have hfv0 : fv = -1 := by rw [← hfv, hw]; rfl
              have HW := Lib.hid hw
              subst hfv0
              clear hx hfv hc hw
              have hfe : firV none = -1 := rfl
              rw [hfe]
              go_wp2_with fail
              go_quiet (fail)
              go_wp2_with fail
              refine ⟨⟨k + 1, by omega, by go_num, ?_, belowN hb.out _⟩, by simp [intOf]; try omega⟩
              rw [whoF_succ, HW.out]
              simp only [if_pos HC.out]
              try rfl
            | some j =>
              obtain ⟨j1, j2, _⟩ := whoF_some hw
              have hfv0 : fv = (j : Int) := by rw [← hfv, hw]; rfl
              have HW := Lib.hid hw
              subst hfv0
              clear hx hfv hc hw HFV
              have hfe : firV (some j) = (j : Int) := rfl
              rw [hfe]
              have hy0 : (0 : Int) ≤ j := by omega
              have hy1 : (j : Int) < n := by have := HM.out; omega
              have hy2 : decide ((j : Int) < 0) = false := decide_eq_false (by omega)
              obtain ⟨ga', hga', _, cj⟩ := HR'.out.at_ j (by have := HM.out; omega)
              cases hga'
              obtain ⟨vj, hvj⟩ : ∃ v, vs j = v := ⟨_, rfl⟩
              have hsj := HR'.out.slot j (by have := HM.out; omega) (by have := HM.out; omega)
              rw [hvj] at cj hsj
              rcases hsj with ⟨_, h2⟩ | ⟨g', s', rfl, hs', h2⟩
              · rw [h2] at j2; unfold candW at j2; simp at j2
              · obtain ⟨np', nb', hbk', _⟩ := hs'
                have c3' := hbk'.cell 3
                simp at c3'
                obtain ⟨e', he'⟩ : ∃ x, s'.e = x := ⟨_, rfl⟩
                rw [he'] at c3'
                have HE : Hid ((f j).e = e' ∧ (f k).e = e) := ⟨by rw [h2, ← he'], by rw [HX.out]⟩
                clear hbk' h2 he' hvj j2
                by_cases hlt : e < e'
                · go_wp2_with fail
                  go_quiet (fail)
                  go_wp2_with fail
                  refine ⟨⟨k + 1, by omega, by go_num, ?_, belowN hb.out _⟩, by simp [intOf]; try omega⟩
                  rw [whoF_succ, HW.out]
                  simp only [HE.out.1, HE.out.2, if_pos (And.intro HC.out hlt)]
                  try rfl
                · go_wp2_with fail
                  go_quiet (fail)
                  go_wp2_with fail
                  refine ⟨⟨k + 1, by omega, by go_num, ?_, belowN hb.out _⟩, by simp [intOf]; try omega⟩
                  rw [whoF_succ, HW.out]
                  simp only [HE.out.1, HE.out.2, if_neg (fun h : candW (f k) ∧ e < e' => absurd h.2 (by omega))]
                  try rfl
          · have hc : ¬ candW (f k) := by rw [hx]; unfold candW; simp; omega
            have HC := Lib.hid hc
            have hd0 : decide (l > 0) = false := by simp; omega
            rw [hfv]
            clear hx hfv hc
            go_wp2_with fail
            go_quiet (fail)
            go_wp2_with fail
            refine ⟨⟨k + 1, by omega, by go_num, by rw [who_skip HC.out, HFV.out], belowN hb.out _⟩, by simp [intOf]; try omega⟩
    · obtain rfl : k = m := by omega
      have HM'' := Lib.hid HM'
      clear HM'
      cases hw : whoF f k with
      | none =>
        have hfe : firV none = -1 := rfl
        have HW := Lib.hid hw
        clear hw
        rw [hfe]
        have hm : (k = n ∧ n ≤ 4) ∨ (k = 4 ∧ 4 < n) := by have := HM''.out; omega
        rcases hm with ⟨rfl, h4⟩ | ⟨rfl, h4⟩
        · go_wp2_with fail
          go_ret2
          exact ⟨by rw [HW.out]; rfl, hb.out⟩
        · have h5 : (4 : Int) < n := by omega
          go_wp2_with fail
          go_ret2
          exact ⟨by rw [HW.out]; rfl, hb.out⟩
      | some j =>
        have hfe : firV (some j) = (j : Int) := rfl
        have HW := Lib.hid hw
        clear hw
        rw [hfe]
        have hm : (k = n ∧ n ≤ 4) ∨ (k = 4 ∧ 4 < n) := by have := HM''.out; omega
        have hmx : max (j : Int) 0 = j := by omega
        have hge : decide ((j : Int) ≥ 0) = true := by simp
        rcases hm with ⟨rfl, h4⟩ | ⟨rfl, h4⟩
        · go_wp2_with fail
          go_ret2
          exact ⟨by rw [HW.out]; rfl, hb.out⟩
        · have h5 : (4 : Int) < n := by omega
          go_wp2_with fail
          go_ret2
          exact ⟨by rw [HW.out]; rfl, hb.out⟩
end Go.Proofs.Ytogdpkeojccpcaa
