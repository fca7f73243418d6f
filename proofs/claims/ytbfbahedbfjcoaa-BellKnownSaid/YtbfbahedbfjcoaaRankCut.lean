/- Package rank: the walk of cut, Remove, Pop, Key, Len. -/
import Derived.Test.YtbfbahedbfjcoaaRankDown
namespace Go.Proofs.Ytbfbahedbfjcoaa
set_option linter.all false
open Go.RowKit

theorem HpP.cutL {w : World} {h gl n cap : Nat} {I K Pl : Nat → Int} (hp : HpP w h gl (n + 1) cap I K Pl) : HpP (w.setCell ⟨h, 0, none⟩ (.slice (some ⟨gl, 0, none⟩) n cap)) h gl n cap I K Pl := by
  have hne := hp.ne
  obtain ⟨hb, ⟨cur, hc, hx, hs⟩, h1, h2⟩ := hp
  exact ⟨by rw [← hpA_set0]; exact hb.set_ 0 _, ⟨cur, hc.far (p := ⟨h, 0, none⟩) (fun e => hne e.symm) _, fun i hi => hx i (by omega), hs⟩, by omega, h2⟩
structure CutPost (w w' : World) (h gl n cap : Nat) (M : Nat → Option Int) (s : HS) : Prop where
  hp : HpS w' h gl n cap s
  rep : RepP n s M
  heap : HeapP n s
  u : Upd (fun q => q = h ∨ q = gl) w w'

set_option maxRecDepth 100000 in
set_option maxHeartbeats 8000000 in
theorem cut_any {w : World} {h gl n cap : Nat} {s : HS} {M : Nat → Option Int} (hp : HpS w h gl (n + 1) cap s) (a : Nat) (ha : a < n + 1) (hn : n < 64) (hrep : RepP (n + 1) s M) (hheap : HeapP (n + 1) s) :
    Calls Try.prog 38 #[.pointer (some ⟨h, 0, none⟩), .int .i64 a] w fun r w' => r = .returned (.tuple #[]) ∧ ∃ s', CutPost w w' h gl n cap (fun z => if z = (s.I a).toNat then none else M z) s' := by
  have HP := Lib.hid hp
  have HC := Lib.hid (And.intro hrep hheap)
  have e0 : w.cell? ⟨h, 0, none⟩ = some (.slice (some ⟨gl, 0, none⟩) (n + 1) cap) := by rw [hp.p.hb.cell]; exact hpA_0 _ _
  obtain ⟨c0, c1⟩ := hp.p.cells (show n < n + 1 by omega)
  obtain ⟨a0, a1⟩ := hp.p.cells ha
  obtain ⟨x, hx64, hx, _, _⟩ := hrep.at_ n (by omega)
  obtain ⟨y, hy64, hy, _, _⟩ := hrep.at_ a ha
  obtain ⟨k, hk⟩ : ∃ z, s.K n = z := ⟨_, rfl⟩
  obtain ⟨ka, hka⟩ : ∃ z, s.K a = z := ⟨_, rfl⟩
  rw [hx] at c0
  rw [hk] at c1
  rw [hy] at a0
  rw [hka] at a1
  have d0 : w.cell? ⟨h, 1 + y, none⟩ = some (.int .i64 (s.Pl y)) := by rw [hp.p.hb.cell]; exact hpA_at _ _ _ hy64
  have f0 := hp.p.hb.frozen (1 + y)
  have f1 := hp.p.hb.frozen 0
  have hx0 : (0 : Int) ≤ a := by omega
  have hx1 : (a : Int) < (n : Int) + 1 := by omega
  have hx2 : (0 : Int) ≤ n := by omega
  have hx3 : (n : Int) < (n : Int) + 1 := by omega
  have hy0 : (0 : Int) ≤ y := by omega
  have hy1 : (y : Int) < 64 := by omega
  have hcp := hp.p.hcap.1
  have hcp1 : (n : Int) ≤ cap := by omega
  have hlt := hp.p.hb.lt
  have hltg : gl < w.heap.size := by obtain ⟨cur, hb, _⟩ := hp.p.row; exact hb.lt
  have hne := hp.p.ne
  have w1 : IntKind.i64.wrap ((n : Int) + 1 - 1) = (n : Int) := by rw [show (n : Int) + 1 - 1 = n from by omega]; exact IntWalk.i64_in _ (by omega)
  have HX := Lib.hid (And.intro hx (And.intro hk hy))
  have HY : Hid ((s.I a).toNat = y) := (by omega : (s.I a).toNat = y)
  rw [HY.out]
  clear hp hrep hheap hx hk hy hka
  go_enter Try.func38, Try.ntmps38
  go_wp2_with fail
  go_region
  all_goals
    have hP1 : HpP (((w.setCell ⟨h, 1 + y, none⟩ (.int .i64 0)).alloc (.cells #[.int .i64 x, .int .i64 k] 69)).drew) h gl (n + 1) cap s.I s.K (updP s.Pl y 0) := ((HP.out.p.setPl y 0).alloc _).drew
    have hB1 : Blk (((w.setCell ⟨h, 1 + y, none⟩ (.int .i64 0)).alloc (.cells #[.int .i64 x, .int .i64 k] 69)).drew) w.heap.size 69 #[.int .i64 x, .int .i64 k] := by
      have := (Blk.new (w.setCell ⟨h, 1 + y, none⟩ (.int .i64 0)) 69 #[.int .i64 x, .int .i64 k]).drew
      simpa using this
    have hU1 : Upd (fun q => q = h ∨ q = gl) w (((w.setCell ⟨h, 1 + y, none⟩ (.int .i64 0)).alloc (.cells #[.int .i64 x, .int .i64 k] 69)).drew) := (((Upd.refl _ _).setCell (p := ⟨h, 1 + y, none⟩) (fun _ => Or.inl rfl) _).alloc _).drew
    generalize (((w.setCell ⟨h, 1 + y, none⟩ (.int .i64 0)).alloc (.cells #[.int .i64 x, .int .i64 k] 69)).drew) = z1 at hP1 hB1 hU1 ⊢
    have HP1 := Lib.hid hP1
    have HB1 := Lib.hid hB1
    have HU1 := Lib.hid hU1
    clear hP1 hB1 hU1 e0 c0 c1 a0 a1 d0 f0 f1
    have e0 : z1.cell? ⟨h, 0, none⟩ = some (.slice (some ⟨gl, 0, none⟩) (n + 1) cap) := by rw [HP1.out.hb.cell]; exact hpA_0 _ _
    have f0 := HP1.out.hb.frozen 0
    have b0 := HB1.out.cell 0
    have b1 := HB1.out.cell 1
    simp at b0 b1
    have hP2 := HP1.out.cutL
    have hU2 := HU1.out.setCell (p := ⟨h, 0, none⟩) (fun _ => Or.inl rfl) (.slice (some ⟨gl, 0, none⟩) n cap)
    have hB2 : Blk (z1.setCell ⟨h, 0, none⟩ (.slice (some ⟨gl, 0, none⟩) n cap)) w.heap.size 69 #[.int .i64 x, .int .i64 k] := HB1.out.far (p := ⟨h, 0, none⟩) (by show w.heap.size ≠ h; omega) _
    have HZ := Lib.hid (And.intro hP2 (And.intro hU2 hB2))
    clear hP2 hU2 hB2
    by_cases han : a = n
    · subst han
      go_wp2_with fail
      refine bodyPost_ret (v := .tuple #[]) (by simp [results, Try.results38]) rfl ⟨rfl, ⟨s.I, s.K, updP s.Pl y 0⟩, ⟨⟨HZ.out.1⟩, ?_, heap_cut HC.out.2 rfl rfl, HZ.out.2.1⟩⟩
      have := rep_cut_last HC.out.1
      rw [HY.out] at this
      exact this
    · have han' : a < n := by omega
      have hd : ((a : Int) == (n : Int)) = false := by simp; omega
      have HL1 : Hid (RepP n (layS a x k ⟨s.I, s.K, updP s.Pl y 0⟩) (fun z => if z = y then none else M z) ∧ UpI False n a (layS a x k ⟨s.I, s.K, updP s.Pl y 0⟩)) := by
        have h1 := rep_cut HC.out.1 han'
        rw [HX.out.1, HX.out.2.1, HY.out] at h1
        exact ⟨h1, up_cut _ _ HC.out.2 rfl rfl⟩
      have HN : Hid (n ≤ 64 ∧ a < n) := ⟨by omega, han'⟩
      have eL : layS a (x : Int) k ⟨s.I, s.K, updP s.Pl y 0⟩ = ⟨updP s.I a x, updP s.K a k, updP (updP s.Pl y 0) x (a + 1)⟩ := by unfold layS; rw [Int.toNat_natCast]
      have HEL := Lib.hid eL
      clear eL
      go_wp2_with (first
        | (go_at_call 45; refine (lay_any HZ.out.1 a x k HN.out.2 hx64 HN.out.1).mono ?_; rintro r z2 ⟨rfl, hp, hu⟩
           have HS2 : Hid (HpS z2 h gl n cap (layS a (x : Int) k ⟨s.I, s.K, updP s.Pl y 0⟩)) := ⟨by rw [HEL.out]; exact hp⟩
           have HU3 := Lib.hid (And.intro (HZ.out.2.1.trans hu) (HZ.out.2.2.upd hu (by omega)))
           clear hp hu)
        | (go_at_call 40; refine (up_any HS2.out a HN.out.2 HN.out.1 (by rw [layS_same HL1.out.1 HN.out.2]; exact HL1.out.1) (by rw [layS_same HL1.out.1 HN.out.2]; exact HL1.out.2)).mono ?_; rintro r z3 ⟨rfl, s2, hp⟩
           have HP3 := Lib.hid hp
           have HB3 := Lib.hid (HU3.out.2.upd hp.u (by omega))
           clear hp))
      obtain ⟨a', ha', hxa, hdn⟩ := HP3.out.d
      rw [layS_I, if_pos rfl] at hxa
      obtain ⟨x', hx'64, hx', _, hPl⟩ := HP3.out.rep.at_ a' ha'
      obtain rfl : x = x' := by omega
      have HD := Lib.hid hdn
      have ha64 : a' < 64 := by have := HN.out.1; omega
      clear e0 f0 b0 b1 hdn
      have b0 := HB3.out.cell 0
      simp at b0
      have p0 : z3.cell? ⟨h, 1 + x, none⟩ = some (.int .i64 ((a' : Int) + 1)) := by rw [HP3.out.hp.p.hb.cell, ← hPl]; exact hpA_at _ _ _ hx64
      have hxx0 : (0 : Int) ≤ x := by omega
      have hxx1 : (x : Int) < 64 := by omega
      have wa : IntKind.i64.wrap ((a' : Int) + 1 - 1) = (a' : Int) := by rw [show (a' : Int) + 1 - 1 = a' from by omega]; exact IntWalk.i64_in _ (by omega)
      have HA' := Lib.hid ha'
      clear hxa hx' hPl
      go_still_tail 9, (by kernel_rfl)
      change wpList _ _ _ _ _ z3.drew
      have HS4 : Hid (HpS z3.drew h gl n cap s2) := ⟨HP3.out.hp.p.drew⟩
      have HU4 : Hid (Upd (fun q => q = h ∨ q = gl) w z3.drew) := (HU3.out.1.trans HP3.out.u).drew
      generalize z3.drew = zd at HS4 HU4 ⊢
      clear b0 p0
      go_wp2_with (go_at_call 46; refine (down_any HS4.out a' HA'.out HN.out.1 HP3.out.rep HD.out).mono ?_; rintro r z5 ⟨rfl, s3, hp⟩; have HP5 := Lib.hid hp; clear hp)
      refine bodyPost_end (v := .tuple #[]) (by simp [results, Try.results38]) rfl ⟨rfl, s3, ⟨HP5.out.hp, HP5.out.rep, HP5.out.heap, HU4.out.trans HP5.out.u⟩⟩
end Go.Proofs.Ytbfbahedbfjcoaa
