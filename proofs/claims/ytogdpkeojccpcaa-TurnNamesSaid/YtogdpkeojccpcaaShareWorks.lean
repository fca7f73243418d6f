/- The examples of the chapter on shares. -/
import Derived.Test.YtogdpkeojccpcaaShareServ
namespace Go.Proofs.Ytogdpkeojccpcaa
set_option linter.all false
open Go.RowKit

instance (z : Int) : Decidable (I64 z) := by unfold I64; infer_instance
def Pz (zs : List Int) (k : Nat) : Int := zs.getD (2 * k + 1) 0
def Bz (zs : List Int) (k : Nat) : Int := zs.getD (2 * k) 0

theorem Pts.nil (w : World) (P B : Nat → Int) : Pts w none 0 P B := ⟨⟨fun _ _ => undef, fun i hi => absurd hi (by omega), fun i hi => absurd hi (by omega)⟩, by omega⟩

structure SPts (w : World) (A : Option Addr) (n : Nat) (zs : List Int) : Prop where
  h : Pts w A n (Pz zs) (Bz zs)
structure SmIs (zs : List Int) (n : Nat) (a b : Int) : Prop where
  h : smT (Pz zs) (Bz zs) n = a ∧ smD (Pz zs) (Bz zs) n = b ∧ smE (Pz zs) (Bz zs) n = 0
structure TsIs (zs : List Int) (n : Nat) (v : Int) : Prop where
  h : smV (Pz zs) (Bz zs) n = v
theorem servers_list (zs : List Int) (N : Nat) {n g : Nat} {c : Nat} {t : TypeId} {w : World} (hl : zs.length = n) (hn : n = 2 * N) (hN : N ≤ 100) (hz : ∀ z, z ∈ zs → I64 z) (hb : Blk w g t (zs.map (Value.int .i64)).toArray) :
    Calls Try.prog 24 #[.slice (some ⟨g, 0, none⟩) n c] w fun r w' =>
      (∃ A c', r = .returned (.slice A N c') ∧ SPts w' A N zs ∧ (1 ≤ N → (N : Int) ≤ c' ∧ ∃ g', A = some ⟨g', 0, none⟩)) ∧ Below w.heap.size w w' := by
  subst hn
  refine (servers_any g N c (fun i => zs.getD i 0) w hN hb.lt fun i hi => ?_).mono ?_
  · have hlt : i < zs.length := by omega
    constructor
    · rw [hb.cell i]
      simp [hlt]
    · rw [List.getD_eq_getElem?_getD, List.getElem?_eq_getElem hlt]
      exact hz _ (List.getElem_mem hlt)
  · rintro r w' ⟨⟨v, rfl, hown⟩, hbel⟩
    have hform : 1 ≤ N → ∃ g' c', v = .slice (some ⟨g', 0, none⟩) N c' ∧ N ≤ c' := by
      intro h1
      rcases hown.2 with ⟨_, h2⟩ | ⟨g', cap, _, hv, _, _, hle, _⟩
      · omega
      · exact ⟨g', cap, hv, hle⟩
    obtain ⟨A, c', rfl⟩ := own_form hown
    refine ⟨⟨A, c', rfl, ⟨pts_own hown (fun i hi => ?_) (by unfold maxLen; omega)⟩, fun h1 => ?_⟩, hbel⟩
    rotate_left
    · obtain ⟨g', c'', hv, hle⟩ := hform h1
      cases hv
      exact ⟨by omega, g', rfl⟩
    have h1 : 2 * i < zs.length := by omega
    have h2 : 2 * i + 1 < zs.length := by omega
    constructor
    · show I64 (zs.getD _ 0)
      rw [List.getD_eq_getElem?_getD, List.getElem?_eq_getElem h2]
      exact hz _ (List.getElem_mem h2)
    · show I64 (zs.getD _ 0)
      rw [List.getD_eq_getElem?_getD, List.getElem?_eq_getElem h1]
      exact hz _ (List.getElem_mem h1)

set_option maxHeartbeats 1000000 in
theorem sums_true {A : Option Addr} {n c : Nat} {P B : Nat → Int} {a b : Int} {w : World} (h : Pts w A n P B) (hv : smT P B n = a ∧ smD P B n = b ∧ smE P B n = 0) :
    Calls Try.prog 25 #[.slice A n c, .int .i64 a, .int .i64 b] w fun r w' => r = .returned (.bool true) ∧ Below w.heap.size w w' := by
  have H := Lib.hid h
  have HV := Lib.hid hv
  clear h hv
  go_enter Try.func25, Try.ntmps25
  go_wp2_with (go_at_call 16; refine (Sum_any H.out c).mono ?_; rintro r w1 ⟨rfl, hb⟩; rw [HV.out.1, HV.out.2.1, HV.out.2.2]; have HB := Lib.hid hb; clear hb)
  go_ret
  exact ⟨ret_bool (by simp), HB.out⟩

set_option maxHeartbeats 1000000 in
theorem test_is {A : Option Addr} {n c : Nat} {P B : Nat → Int} {v : Int} {w : World} (h : Pts w A n P B) (hv : smV P B n = v) :
    Calls Try.prog 18 #[.slice A n c] w fun r w' => r = .returned (.int .i64 v) ∧ Below w.heap.size w w' := by
  subst hv
  exact Test_any h c

theorem sums_sp {A : Option Addr} {n c : Nat} {zs : List Int} {a b : Int} {w : World} (h : SPts w A n zs) (hv : SmIs zs n a b) :
    Calls Try.prog 25 #[.slice A n c, .int .i64 a, .int .i64 b] w fun r w' => r = .returned (.bool true) ∧ Below w.heap.size w w' := sums_true h.h hv.h
theorem test_sp {A : Option Addr} {n c : Nat} {zs : List Int} {v : Int} {w : World} (h : SPts w A n zs) (hv : TsIs zs n v) :
    Calls Try.prog 18 #[.slice A n c] w fun r w' => r = .returned (.int .i64 v) ∧ Below w.heap.size w w' := test_is h.h hv.h
theorem SPts.keep {w w' : World} {A : Option Addr} {n : Nat} {zs : List Int} (h : SPts w A n zs) (hb : Below w.heap.size w w') : SPts w' A n zs := by
  obtain ⟨Z, h1, h2⟩ := h.h.rd
  exact ⟨⟨⟨Z, h1.keep hb, h2⟩, h.h.len⟩⟩
theorem s1 : smT (fun _ => 0) (fun _ => 0) 0 = 0 ∧ smD (fun _ => 0) (fun _ => 0) 0 = 1 ∧ smE (fun _ => 0) (fun _ => 0) 0 = 0 := by decide
theorem s2 : SmIs [1, 2, 1, 3] 2 5 6 := ⟨by decide⟩
theorem s3 : SmIs [2, 4, 1, 2] 2 1 1 := ⟨by decide⟩
theorem s4 : TsIs [1, 2, 1, 2] 2 0 := ⟨by decide⟩
theorem s5 : TsIs [1, 2, 1, 2, 1, 64] 3 120 := ⟨by decide⟩
theorem s6 : TsIs [3, 2] 1 2 := ⟨by decide⟩

set_option maxRecDepth 100000 in
set_option maxHeartbeats 2000000 in
theorem share_works (w : World) : Calls Try.prog 20 #[] w fun r w' => r = .returned (.bool true) ∧ Below w.heap.size w w' := by
  have HW := Lib.hid (Below.refl w.heap.size w)
  have T1 := Lib.hid True.intro
  have T2 := Lib.hid True.intro
  have T3 := Lib.hid True.intro
  have T4 := Lib.hid True.intro
  have T5 := Lib.hid True.intro
  have U1 := Lib.hid True.intro
  have U2 := Lib.hid True.intro
  have U3 := Lib.hid True.intro
  have U4 := Lib.hid True.intro
  have U5 := Lib.hid True.intro
  have U6 := Lib.hid True.intro
  go_enter Try.func20, Try.ntmps20
  go_wp2_with (first
    | (go_at_call 25; first
        | (have _tk := U1; refine (sums_true (Pts.nil _ _ _) s1).mono ?_; rintro r x1 ⟨rfl, hb⟩; have HW := Lib.hid (HW.out.trans (hb.mono HW.out.size)); clear hb U1 _tk)
        | (have _tk := U2; refine (sums_sp HP.out s2).mono ?_; rintro r x1 ⟨rfl, hb⟩; have HW := Lib.hid (HW.out.trans (hb.mono HW.out.size)); clear hb U2 _tk)
        | (have _tk := U3; refine (sums_sp HP.out s3).mono ?_; rintro r x1 ⟨rfl, hb⟩; have HW := Lib.hid (HW.out.trans (hb.mono HW.out.size)); clear hb U3 _tk))
    | (go_at_call 18; first
        | (have _tk := U4; refine (test_sp HP.out s4).mono ?_; rintro r x1 ⟨rfl, hb⟩; have HW := Lib.hid (HW.out.trans (hb.mono HW.out.size)); clear hb U4 _tk)
        | (have _tk := U5; refine (test_sp HP.out s5).mono ?_; rintro r x1 ⟨rfl, hb⟩; have HW := Lib.hid (HW.out.trans (hb.mono HW.out.size)); clear hb U5 _tk)
        | (have _tk := U6; refine (test_sp HP.out s6).mono ?_; rintro r x1 ⟨rfl, hb⟩; have HW := Lib.hid (HW.out.trans (hb.mono HW.out.size)); clear hb U6 _tk))
    | (go_at_call 24; first
        | (have _tk := T1; refine (servers_list [1, 2, 1, 3] 2 (by rfl) (by rfl) (by decide) (by decide) (Blk.new _ _ _)).mono ?_; rintro r x1 ⟨⟨A, c, rfl, hp, _⟩, hb⟩; have HW := Lib.hid ((HW.out.alloc HW.out.size _).trans (hb.mono (by have := HW.out.size; simp; omega))); have HP := Lib.hid hp; clear hb hp T1 _tk)
        | (have _tk := T2; refine (servers_list [2, 4, 1, 2] 2 (by rfl) (by rfl) (by decide) (by decide) (Blk.new _ _ _)).mono ?_; rintro r x1 ⟨⟨A, c, rfl, hp, _⟩, hb⟩; have HW := Lib.hid ((HW.out.alloc HW.out.size _).trans (hb.mono (by have := HW.out.size; simp; omega))); have HP := Lib.hid hp; clear hb hp T2 _tk)
        | (have _tk := T3; refine (servers_list [1, 2, 1, 2] 2 (by rfl) (by rfl) (by decide) (by decide) (Blk.new _ _ _)).mono ?_; rintro r x1 ⟨⟨A, c, rfl, hp, _⟩, hb⟩; have HW := Lib.hid ((HW.out.alloc HW.out.size _).trans (hb.mono (by have := HW.out.size; simp; omega))); have HP := Lib.hid hp; clear hb hp T3 _tk)
        | (have _tk := T4; refine (servers_list [1, 2, 1, 2, 1, 64] 3 (by rfl) (by rfl) (by decide) (by decide) (Blk.new _ _ _)).mono ?_; rintro r x1 ⟨⟨A, c, rfl, hp, _⟩, hb⟩; have HW := Lib.hid ((HW.out.alloc HW.out.size _).trans (hb.mono (by have := HW.out.size; simp; omega))); have HP := Lib.hid hp; clear hb hp T4 _tk)
        | (have _tk := T5; refine (servers_list [3, 2] 1 (by rfl) (by rfl) (by decide) (by decide) (Blk.new _ _ _)).mono ?_; rintro r x1 ⟨⟨A, c, rfl, hp, _⟩, hb⟩; have HW := Lib.hid ((HW.out.alloc HW.out.size _).trans (hb.mono (by have := HW.out.size; simp; omega))); have HP := Lib.hid hp; clear hb hp T5 _tk)))
  go_ret
  exact ⟨rfl, HW.out⟩

theorem Pts.keep {w w' : World} {A : Option Addr} {n : Nat} {P B : Nat → Int} (h : Pts w A n P B) (hb : Below w.heap.size w w') : Pts w' A n P B := by
  obtain ⟨Z, h1, h2⟩ := h.rd
  exact ⟨⟨Z, h1.keep hb, h2⟩, h.len⟩

theorem pts_of_rd {w : World} {A : Option Addr} {n : Nat} {Z : Nat → Nat → Value} (hn : n ≤ maxLen) (hr : Rd w A n [.int .i64, .int .i64, .any] Z) : ∃ P B, Pts w A n P B ∧ ∀ i, i < n → I64 (P i) ∧ I64 (B i) := by
  have key : ∀ i, i < n → (∃ p : Int, Z i 0 = .int .i64 p ∧ I64 p) ∧ ∃ b : Int, Z i 1 = .int .i64 b ∧ I64 b := by
    intro i hi
    obtain ⟨b, off, _, _, hcell⟩ := hr i hi
    obtain ⟨_, p, hp, hwp⟩ := hcell 0 _ rfl
    obtain ⟨_, q, hq, hwq⟩ := hcell 1 _ rfl
    exact ⟨⟨p, hp, wf_bounds hwp⟩, ⟨q, hq, wf_bounds hwq⟩⟩
  refine ⟨fun i => intOf (Z i 0), fun i => intOf (Z i 1), ⟨⟨Z, hr, fun i hi => ?_⟩, hn⟩, fun i hi => ?_⟩
  · obtain ⟨⟨p, hp, _⟩, q, hq, _⟩ := key i hi
    rw [hp, hq]; exact ⟨rfl, rfl⟩
  · obtain ⟨⟨p, hp, h1⟩, q, hq, h2⟩ := key i hi
    show I64 (intOf (Z i 0)) ∧ I64 (intOf (Z i 1)); rw [hp, hq]; exact ⟨h1, h2⟩

set_option maxRecDepth 100000 in
set_option maxHeartbeats 2000000 in
theorem shareSums_core (w : World) (A : Option Addr) (n c : Nat) (Z : Nat → Nat → Value) (hn : n ≤ maxLen) (hr : Rd w A n [.int .i64, .int .i64, .any] Z) :
    Calls Try.prog 3 #[.slice A n c] w (Holds w) := by
  obtain ⟨P, B, hp, _⟩ := pts_of_rd hn hr
  have HP := Lib.hid hp
  have HW := Lib.hid (Below.refl w.heap.size w)
  clear hr hn hp
  go_enter Try.func3, Try.ntmps3
  go_wp2_with (first
    | (go_at_call 16; refine (Sum_any HP.out c).mono ?_; rintro r x1 ⟨rfl, hb⟩; have HP := Lib.hid (HP.out.keep hb); have HW := Lib.hid (HW.out.trans (hb.mono HW.out.size)); clear hb)
    | (go_at_call 17; refine (refSum_any HP.out c).mono ?_; rintro r x1 ⟨rfl, hb⟩; have HP := Lib.hid (HP.out.keep hb); have HW := Lib.hid (HW.out.trans (hb.mono HW.out.size)); clear hb)
    | (go_at_call 18; refine (Test_any HP.out c).mono ?_; rintro r x1 ⟨rfl, hb⟩; have HP := Lib.hid (HP.out.keep hb); have HW := Lib.hid (HW.out.trans (hb.mono HW.out.size)); clear hb)
    | (go_at_call 19; refine (refTest_any HP.out c).mono ?_; rintro r x1 ⟨rfl, hb⟩; have HP := Lib.hid (HP.out.keep hb); have HW := Lib.hid (HW.out.trans (hb.mono HW.out.size)); clear hb)
    | (go_at_call 20; refine (share_works _).mono ?_; rintro r x1 ⟨rfl, hb⟩; have HW := Lib.hid (HW.out.trans (hb.mono HW.out.size)); clear hb))
  go_ret
  exact ⟨ret_bool (by simp), HW.out⟩
end Go.Proofs.Ytogdpkeojccpcaa
