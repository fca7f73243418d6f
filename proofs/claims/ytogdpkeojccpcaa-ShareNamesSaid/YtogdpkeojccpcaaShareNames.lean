/- ShareNames: the walk of the closed law. -/
import Derived.Test.YtogdpkeojccpcaaShareWorks
namespace Go.Proofs.Ytogdpkeojccpcaa
set_option linter.all false
open Go.RowKit

/-- A slice of a slice of servers. -/
theorem SPts.sub {w : World} {g n o m : Nat} {zs : List Int} (h : SPts w (some ⟨g, 0, none⟩) n zs) (hm : o + m ≤ n) : Pts w (some ⟨g, o * 3, none⟩) m (fun i => Pz zs (o + i)) (fun i => Bz zs (o + i)) := by
  obtain ⟨Z, h1, h2⟩ := h.h.rd
  refine ⟨⟨fun i j => Z (o + i) j, fun i hi => ?_, fun i hi => h2 (o + i) (by omega)⟩, by have := h.h.len; omega⟩
  obtain ⟨b, off, hA, hlt, hc⟩ := h1 (o + i) (by omega)
  cases hA
  refine ⟨g, o * 3, rfl, hlt, fun j l hj => ?_⟩
  have := hc j l hj
  simp only [List.length_cons, List.length_nil] at this ⊢
  rw [show o * 3 + (i * 3 + j) = 0 + ((o + i) * 3 + j) from by omega]
  exact this

theorem b1 : ∀ k, k < 5 → smV (fun i => Pz [0, 1, 1, 0, 2, 1, 1, 65, -1, 5] (k + i)) (fun i => Bz [0, 1, 1, 0, 2, 1, 1, 65, -1, 5] (k + i)) 1 = 2 := by decide
theorem b2 : TsIs [1, 9, 1, 9, 1, 9, 1, 9, 1, 9] 5 2 := ⟨by decide⟩
theorem b3 : smV (fun i => Pz [1, 9, 1, 9, 1, 9, 1, 9, 1, 9] (0 + i)) (fun i => Bz [1, 9, 1, 9, 1, 9, 1, 9, 1, 9] (0 + i)) 4 = 0 := by decide
theorem b4 : SmIs [1, 64, 1, 63, 1, 61, 1, 59] 4 940913 14511168 := ⟨by decide⟩
theorem b5 : SmIs [64, 64, 64, 64, 64, 64, 64, 64] 4 4 1 := ⟨by decide⟩
theorem b6 : TsIs [1, 2, 1, 3, 1, 6] 3 0 := ⟨by decide⟩
theorem b7 : TsIs [1, 2, 1, 3, 1, 5] 3 120 := ⟨by decide⟩
theorem b8 : smV (fun _ => 0) (fun _ => 0) 0 = 0 := by decide

theorem servers_at (K : Int) (zs : List Int) (N : Nat) {n g : Nat} {c : Nat} {t : TypeId} {w : World} (hl : zs.length = n) (hn : n = 2 * N) (hN : N ≤ 100) (hz : ∀ z, z ∈ zs → I64 z) (h1 : 1 ≤ N) (hK : K ≤ N) (hb : Blk w g t (zs.map (Value.int .i64)).toArray) :
    Calls Try.prog 24 #[.slice (some ⟨g, 0, none⟩) n c] w fun r w' =>
      (∃ g' c' : Nat, r = .returned (.slice (some ⟨g', 0, none⟩) N c') ∧ SPts w' (some ⟨g', 0, none⟩) N zs ∧ K ≤ c') ∧ Below w.heap.size w w' := by
  refine (servers_list zs N hl hn hN hz hb).mono ?_
  rintro r w' ⟨⟨A, c', rfl, hp, hf⟩, hb'⟩
  obtain ⟨h2, g', rfl⟩ := hf h1
  exact ⟨⟨g', c', rfl, hp, by omega⟩, hb'⟩

theorem Sum_sp {A : Option Addr} {n c : Nat} {zs : List Int} {a b : Int} {w : World} (h : SPts w A n zs) (hv : SmIs zs n a b) :
    Calls Try.prog 16 #[.slice A n c] w fun r w' => r = .returned (.tuple #[.int .i64 a, .int .i64 b, .int .i64 0]) ∧ Below w.heap.size w w' := by
  refine (Sum_any h.h c).mono ?_
  rintro r w' ⟨rfl, hb⟩
  rw [hv.h.1, hv.h.2.1, hv.h.2.2]
  exact ⟨rfl, hb⟩

set_option maxRecDepth 100000 in
set_option maxHeartbeats 4000000 in
theorem shareNames_core (w : World) : Calls Try.prog 6 #[] w (Holds w) := by
  have T1 := Lib.hid True.intro
  have T2 := Lib.hid True.intro
  have T3 := Lib.hid True.intro
  have T4 := Lib.hid True.intro
  have T5 := Lib.hid True.intro
  have T6 := Lib.hid True.intro
  have V2 := Lib.hid True.intro
  have V3 := Lib.hid True.intro
  have V6 := Lib.hid True.intro
  have V7 := Lib.hid True.intro
  have V8 := Lib.hid True.intro
  have HW := Lib.hid (Below.refl w.heap.size w)
  go_enter Try.func6, Try.ntmps6
  go_wp2_with (first
    | (go_at_call 24; go_loud (have _tk := T1; refine (servers_list [0, 1, 1, 0, 2, 1, 1, 65, -1, 5] 5 (by rfl) (by rfl) (by decide) (by decide) (Blk.new _ _ _)).mono ?_; rintro r x1 ⟨⟨A, c, rfl, hp, hf⟩, hb⟩; have HW := Lib.hid ((HW.out.alloc HW.out.size _).trans (hb.mono (by have := HW.out.size; simp <;> omega))); have HP := Lib.hid hp; clear hb hp T1 _tk)))
  obtain ⟨hc1, gb, rfl⟩ := hf (by decide)
  clear hf
  have hc5 : (5 : Int) ≤ c := hc1
  go_loopw [2] (fun i wr => ∃ k : Nat, k ≤ 5 ∧ i = .int .i64 k ∧ Hid (Below w.heap.size w wr) ∧ Hid (SPts wr (some ⟨gb, 0, none⟩) 5 [0, 1, 1, 0, 2, 1, 1, 65, -1, 5])) (fun i _ => 5 - (intOf i).toNat)
  case atStart => exact ⟨0, by omega, rfl, HW.out, HP.out⟩
  case round =>
    obtain ⟨k, hk, rfl, hb, hs⟩ := hrel
    clear HW HP
    by_cases hk5 : k < 5
    · have hx0 : (0 : Int) ≤ k := by omega
      have hx1 : (k : Int) < 5 := by omega
      have hx2 : (k : Int) + 1 ≤ c := by omega
      have hx3 : (k : Int) ≤ (k : Int) + 1 := by omega
      have hx4 : ((k : Int) + 1 - (k : Int)).toNat = 1 := by omega
      have hx5 : ((k : Int) + 1).toNat = k + 1 := by omega
      have hx6 : k + 1 - k = 1 := by omega
      have HT := Lib.hid (test_is (c := c - k) (hs.out.sub (o := k) (m := 1) (by omega)) (b1 k hk5))
      go_wp2_with (go_at_call 18; refine HT.out.mono ?_; rintro r x1 ⟨rfl, hy⟩; have HY := Lib.hid hy; clear hy)
      exact ⟨⟨k + 1, by omega, by go_num, hb.out.trans (HY.out.mono hb.out.size), hs.out.keep HY.out⟩, by simp [intOf]; omega⟩
    · obtain rfl : k = 5 := by omega
      have HW := hb
      clear hs hb
      go_wp2_with (first
        | (go_at_call 24; first
            | (have _tk := T2; refine (servers_at 4 [1, 9, 1, 9, 1, 9, 1, 9, 1, 9] 5 (by rfl) (by rfl) (by decide) (by decide) (by decide) (by decide) (Blk.new _ _ _)).mono ?_; rintro r xf ⟨⟨g5, c2, rfl, hp, hc4⟩, hb⟩; have HW := Lib.hid ((HW.out.alloc HW.out.size _).trans (hb.mono (by have := HW.out.size; simp <;> omega))); have HF := Lib.hid hp; have HX := Lib.hid (Below.refl xf.heap.size xf); clear hb hp T2 _tk)
            | (have _tk := T3; refine (servers_list [1, 64, 1, 63, 1, 61, 1, 59] 4 (by rfl) (by rfl) (by decide) (by decide) (Blk.new _ _ _)).mono ?_; rintro r x1 ⟨⟨A, c3, rfl, hp, _⟩, hb⟩; have HW := Lib.hid ((HW.out.alloc HW.out.size _).trans (hb.mono (by have := HW.out.size; simp <;> omega))); have HX := Lib.hid ((HX.out.alloc HX.out.size _).trans (hb.mono (by have := HX.out.size; simp <;> omega))); have HP := Lib.hid hp; clear hb hp T3 _tk)
            | (have _tk := T4; refine (servers_list [64, 64, 64, 64, 64, 64, 64, 64] 4 (by rfl) (by rfl) (by decide) (by decide) (Blk.new _ _ _)).mono ?_; rintro r x1 ⟨⟨A, c3, rfl, hp, _⟩, hb⟩; have HW := Lib.hid ((HW.out.alloc HW.out.size _).trans (hb.mono (by have := HW.out.size; simp <;> omega))); have HX := Lib.hid ((HX.out.alloc HX.out.size _).trans (hb.mono (by have := HX.out.size; simp <;> omega))); have HP := Lib.hid hp; clear hb hp T4 _tk)
            | (have _tk := T5; refine (servers_list [1, 2, 1, 3, 1, 6] 3 (by rfl) (by rfl) (by decide) (by decide) (Blk.new _ _ _)).mono ?_; rintro r x1 ⟨⟨A, c3, rfl, hp, _⟩, hb⟩; have HW := Lib.hid ((HW.out.alloc HW.out.size _).trans (hb.mono (by have := HW.out.size; simp <;> omega))); have HX := Lib.hid ((HX.out.alloc HX.out.size _).trans (hb.mono (by have := HX.out.size; simp <;> omega))); have HP := Lib.hid hp; clear hb hp T5 _tk)
            | (have _tk := T6; refine (servers_list [1, 2, 1, 3, 1, 5] 3 (by rfl) (by rfl) (by decide) (by decide) (Blk.new _ _ _)).mono ?_; rintro r x1 ⟨⟨A, c3, rfl, hp, _⟩, hb⟩; have HW := Lib.hid ((HW.out.alloc HW.out.size _).trans (hb.mono (by have := HW.out.size; simp <;> omega))); have HX := Lib.hid ((HX.out.alloc HX.out.size _).trans (hb.mono (by have := HX.out.size; simp <;> omega))); have HP := Lib.hid hp; clear hb hp T6 _tk))
        | (go_at_call 16; refine (Sum_sp HP.out b4).mono ?_; rintro r x1 ⟨rfl, hb⟩; have HW := Lib.hid (HW.out.trans (hb.mono HW.out.size)); have HX := Lib.hid (HX.out.trans (hb.mono HX.out.size)); clear hb)
        | (go_at_call 20; refine (share_works _).mono ?_; rintro r x1 ⟨rfl, hb⟩; have HW := Lib.hid (HW.out.trans (hb.mono HW.out.size)); have HX := Lib.hid (HX.out.trans (hb.mono HX.out.size)); clear hb)
        | (go_at_call 25; refine (sums_sp HP.out b5).mono ?_; rintro r x1 ⟨rfl, hb⟩; have HW := Lib.hid (HW.out.trans (hb.mono HW.out.size)); have HX := Lib.hid (HX.out.trans (hb.mono HX.out.size)); clear hb)
        | (go_at_call 18; first
            | (have _tk := V2; refine (test_sp (HF.out.keep HX.out) b2).mono ?_; rintro r x1 ⟨rfl, hb⟩; have HW := Lib.hid (HW.out.trans (hb.mono HW.out.size)); have HX := Lib.hid (HX.out.trans (hb.mono HX.out.size)); clear hb V2 _tk)
            | (have _tk := V3; refine (test_is ((HF.out.keep HX.out).sub (o := 0) (m := 4) (by omega)) b3).mono ?_; rintro r x1 ⟨rfl, hb⟩; have HW := Lib.hid (HW.out.trans (hb.mono HW.out.size)); have HX := Lib.hid (HX.out.trans (hb.mono HX.out.size)); clear hb V3 _tk)
            | (have _tk := V6; refine (test_sp HP.out b6).mono ?_; rintro r x1 ⟨rfl, hb⟩; have HW := Lib.hid (HW.out.trans (hb.mono HW.out.size)); have HX := Lib.hid (HX.out.trans (hb.mono HX.out.size)); clear hb V6 _tk)
            | (have _tk := V7; refine (test_sp HP.out b7).mono ?_; rintro r x1 ⟨rfl, hb⟩; have HW := Lib.hid (HW.out.trans (hb.mono HW.out.size)); have HX := Lib.hid (HX.out.trans (hb.mono HX.out.size)); clear hb V7 _tk)
            | (have _tk := V8; refine (test_is (Pts.nil _ _ _) b8).mono ?_; rintro r x1 ⟨rfl, hb⟩; have HW := Lib.hid (HW.out.trans (hb.mono HW.out.size)); have HX := Lib.hid (HX.out.trans (hb.mono HX.out.size)); clear hb V8 _tk)))
      go_ret
      exact ⟨rfl, HW.out⟩
end Go.Proofs.Ytogdpkeojccpcaa
