/- Package rank: the walk of up. -/
import Derived.Test.YtbfbahedbfjcoaaRankLaw
namespace Go.Proofs.Ytbfbahedbfjcoaa
set_option linter.all false
open Go.RowKit

theorem HpP.below {w w' : World} {h gl n cap : Nat} {I K Pl : Nat → Int} (hp : HpP w h gl n cap I K Pl) (hb : Below w.heap.size w w') : HpP w' h gl n cap I K Pl := by
  obtain ⟨cur, hc, hr⟩ := hp.row
  exact ⟨hp.hb.below hb hp.hb.lt, ⟨cur, hc.below hb hc.lt, hr⟩, hp.hcap⟩
theorem HpP.drewN {w : World} {h gl n cap : Nat} {I K Pl : Nat → Int} (hp : HpP w h gl n cap I K Pl) (k : Nat) : HpP (w.drewN k) h gl n cap I K Pl := by
  obtain ⟨cur, hc, hr⟩ := hp.row
  exact ⟨hp.hb.drewN k, ⟨cur, hc.drewN k, hr⟩, hp.hcap⟩
/-- A heap with its ids. -/
structure HpS (w : World) (h gl n cap : Nat) (s : HS) : Prop where
  p : HpP w h gl n cap s.I s.K s.Pl
theorem layS_same {n a : Nat} {s : HS} {M : Nat → Option Int} (h : RepP n s M) (ha : a < n) : layS a (s.I a) (s.K a) s = s := by
  obtain ⟨x, h1, h2, h3, h4⟩ := h.at_ a ha
  obtain ⟨I, K, Pl⟩ := s
  unfold layS
  simp only at h2 h4 ⊢
  have e1 : updP I a (I a) = I := by
    funext j; unfold updP; split
    · next e => rw [e]
    · rfl
  have e2 : updP K a (K a) = K := by
    funext j; unfold updP; split
    · next e => rw [e]
    · rfl
  have e3 : updP Pl (I a).toNat ((a : Int) + 1) = Pl := by
    funext j; unfold updP; split
    · next e => rw [e, h2, Int.toNat_natCast]; exact h4.symm
    · rfl
  rw [e1, e2, e3]
theorem Upd.mono_ge {S : Nat → Prop} {w w' : World} {B : Nat} (h : Upd (fun k => w.heap.size ≤ k) w w') (_ : B ≤ w.heap.size) : Upd S w w' :=
  ⟨h.os, h.tape, h.output, h.size, fun k hk _ => h.block k hk (by omega)⟩
/-- What stands behind up. -/
structure UpPost (w w' : World) (h gl n cap : Nat) (M : Nat → Option Int) (x : Int) (st : Prop) (s : HS) : Prop where
  hp : HpS w' h gl n cap s
  rep : RepP n s M
  d : ∃ a, a < n ∧ s.I a = x ∧ DownI n a s
  st : st → HeapP n s
  u : Upd (fun q => q = h ∨ q = gl) w w'
/-- What stands in the rounds of up. -/
structure UpRound (w wr : World) (h gl n cap : Nat) (M : Nat → Option Int) (x : Nat) (k : Int) (st : Prop) (a : Nat) (s : HS) : Prop where
  hp : HpS wr h gl n cap s
  blk : Blk wr w.heap.size 69 #[.int .i64 x, .int .i64 k]
  u : Upd (fun q => q = h ∨ q = gl) w wr
  rep : RepP n (layS a x k s) M
  up : ∃ st' : Prop, (st → st') ∧ UpI st' n a (layS a x k s)

theorem lay_to {w : World} {h gl n cap : Nat} {I K Pl : Nat → Int} {iv idv : Int} (i id : Nat) (k : Int) (hp : HpP w h gl n cap I K Pl) (hiv : iv = i) (hidv : idv = id) (hi : i < n) (hid : id < 64) (hn : n ≤ 64) :
    Calls Try.prog 45 #[.pointer (some ⟨h, 0, none⟩), .int .i64 iv, .agg #[.int .i64 idv, .int .i64 k]] w fun r w' => r = .returned (.tuple #[]) ∧ HpP w' h gl n cap (updP I i id) (updP K i k) (updP Pl id (i + 1)) ∧ Upd (fun q => q = h ∨ q = gl) w w' := by
  subst hiv hidv
  exact lay_any hp i id k hi hid hn

set_option maxRecDepth 100000 in
set_option maxHeartbeats 4000000 in
theorem up_any {w : World} {h gl n cap : Nat} {s0 : HS} {M : Nat → Option Int} {st : Prop} (hp : HpS w h gl n cap s0) (i : Nat) (hi : i < n) (hn : n ≤ 64) (hrep : RepP n (layS i (s0.I i) (s0.K i) s0) M) (hup : UpI st n i (layS i (s0.I i) (s0.K i) s0)) :
    Calls Try.prog 40 #[.pointer (some ⟨h, 0, none⟩), .int .i64 i] w fun r w' => r = .returned (.tuple #[]) ∧ ∃ s, UpPost w w' h gl n cap M (s0.I i) st s := by
  have HP := Lib.hid hp
  have e0 : w.cell? ⟨h, 0, none⟩ = some (.slice (some ⟨gl, 0, none⟩) n cap) := by rw [hp.p.hb.cell]; exact hpA_0 _ _
  obtain ⟨c0, c1⟩ := hp.p.cells hi
  obtain ⟨x, hx64, hx, hxM, _⟩ := hrep.at_ i hi
  rw [layS_I, if_pos rfl] at hx
  obtain ⟨k, hk⟩ : ∃ x, s0.K i = x := ⟨_, rfl⟩
  have hstart : RepP n (layS i x k s0) M ∧ ∃ st' : Prop, (st → st') ∧ UpI st' n i (layS i x k s0) := by
    rw [← hx, ← hk]
    exact ⟨hrep, st, id, hup⟩
  rw [hx] at c0 ⊢
  rw [hk] at c1
  have HS0 := Lib.hid hstart
  have hx0 : (0 : Int) ≤ i := by omega
  have hx1 : (i : Int) < n := by omega
  have hlt := hp.p.hb.lt
  have hltg : gl < w.heap.size := by obtain ⟨cur, hb, _⟩ := hp.p.row; exact hb.lt
  clear hp hx hk hrep hup hstart hxM
  go_enter Try.func40, Try.ntmps40
  go_wp2_with fail
  have HR0 : Hid (UpRound w (w.alloc (.cells #[.int .i64 x, .int .i64 k] 69)) h gl n cap M x k st i s0) :=
    ⟨⟨HP.out.p.alloc _⟩, Blk.new _ _ _, (Upd.refl _ _).alloc _, HS0.out.1, HS0.out.2⟩
  clear e0 c0 c1
  go_loopw [1] (fun va wr => ∃ (a : Nat) (s : HS), a ≤ i ∧ va = .int .i64 a ∧ Hid (UpRound w wr h gl n cap M x k st a s)) (fun va _ => (intOf va).toNat)
  case atStart => exact ⟨i, s0, Nat.le_refl _, rfl, HR0⟩
  case round =>
    obtain ⟨a, s, ha, rfl, HR⟩ := hrel
    clear HR0 HP HS0
    have b0 := HR.out.blk.cell 0
    have b1 := HR.out.blk.cell 1
    simp at b0 b1
    by_cases ha0 : a = 0
    · subst ha0
      go_wp2_with fail
      go_quiet (fail)
      have HPN : Hid (HpP (wr.drewN nq) h gl n cap s.I s.K s.Pl) := HR.out.hp.p.drewN nq
      go_wp2_with (go_at_call 45; refine (lay_any HPN.out 0 x k (by omega) hx64 hn).mono ?_; rintro r y ⟨rfl, hp, hu⟩; have HL := Lib.hid (And.intro hp hu); clear hp hu)
      refine bodyPost_end (v := .tuple #[]) (by simp [results, Try.results40]) rfl ⟨rfl, layS 0 x k s, ?_⟩
      obtain ⟨st', h1, h2⟩ := HR.out.up
      obtain ⟨h3, h4⟩ := up_end h2 (fun h => absurd h (by omega))
      exact ⟨⟨HL.out.1⟩, HR.out.rep, ⟨0, by omega, rfl, h3⟩, fun h => h4 (h1 h), (HR.out.u.drewN nq).trans HL.out.2⟩
    · have hap : 0 < a := by omega
      obtain ⟨p, hp⟩ : ∃ p, (a - 1) / 2 = p := ⟨_, rfl⟩
      have hpa : p < n := by omega
      have e0 : wr.cell? ⟨h, 0, none⟩ = some (.slice (some ⟨gl, 0, none⟩) n cap) := by rw [HR.out.hp.p.hb.cell]; exact hpA_0 _ _
      obtain ⟨c0, c1⟩ := HR.out.hp.p.cells hpa
      obtain ⟨av, hav⟩ : ∃ z : Int, (a : Int) = z := ⟨_, rfl⟩
      obtain ⟨bv, hbv⟩ : ∃ z : Int, av - 1 = z := ⟨_, rfl⟩
      have w1 : IntKind.i64.wrap (av - 1) = bv := by rw [hbv]; exact IntWalk.i64_in _ (by omega)
      have w2 : IntKind.i64.wrap (bv.tdiv 2) = (p : Int) := by
        have : bv.tdiv 2 = (p : Int) := by rw [Int.tdiv_eq_ediv_of_nonneg (by omega)]; omega
        rw [this]; exact IntWalk.i64_in _ (by omega)
      have hx2 : (0 : Int) ≤ p := by omega
      have hx3 : (p : Int) < n := by omega
      have hag2 : (0 : Int) < av := by omega
      rw [hav]
      have HAV := Lib.hid (And.intro hav hbv)
      clear hav hbv hap
      obtain ⟨q0, hq0⟩ : ∃ z, s.I p = z := ⟨_, rfl⟩
      obtain ⟨q1, hq1⟩ : ∃ z, s.K p = z := ⟨_, rfl⟩
      rw [hq0] at c0
      rw [hq1] at c1
      have HQ := Lib.hid (And.intro hq0 (And.intro hq1 hp))
      clear hq0 hq1 hp
      go_wp2_with fail
      go_region_held3 (fun w' => w'.cell? ⟨w.heap.size, 0, none⟩ = some (.int .i64 x) ∧ w'.cell? ⟨w.heap.size, 1, none⟩ = some (.int .i64 k) ∧ w'.cell? ⟨h, 0, none⟩ = some (.slice (some ⟨gl, 0, none⟩) n cap) ∧ w'.cell? ⟨gl, p * 2, none⟩ = some (.int .i64 q0) ∧ w'.cell? ⟨gl, p * 2 + 1, none⟩ = some (.int .i64 q1)) (first | go_keep | (exact E1.out))
        (first | (go_at_call 47; refine (ahead_one _ _ _ _ _).mono ?_; rintro r y ⟨rfl, hb⟩
                  have HP1 := Lib.hid (HR.out.hp.p.drew.below hb)
                  have HB1 := Lib.hid (HR.out.blk.drew.below hb HR.out.blk.lt)
                  have E1 : Hid (y.cell? ⟨w.heap.size, 0, none⟩ = some (.int .i64 x) ∧ y.cell? ⟨w.heap.size, 1, none⟩ = some (.int .i64 k) ∧ y.cell? ⟨h, 0, none⟩ = some (.slice (some ⟨gl, 0, none⟩) n cap) ∧ y.cell? ⟨gl, p * 2, none⟩ = some (.int .i64 q0) ∧ y.cell? ⟨gl, p * 2 + 1, none⟩ = some (.int .i64 q1)) := by
                    refine ⟨by simpa using HB1.out.cell 0, by simpa using HB1.out.cell 1, by rw [HP1.out.hb.cell]; exact hpA_0 _ _, ?_, ?_⟩
                    · rw [(HP1.out.cells hpa).1, HQ.out.1]
                    · rw [(HP1.out.cells hpa).2, HQ.out.2.1]
                  have HU1 := Lib.hid hb
                  clear hb))
      obtain ⟨y0, hy64, hy0, _, _⟩ : ∃ z : Nat, z < 64 ∧ q0 = z ∧ True ∧ True := by
        obtain ⟨z, h1, h2, _, _⟩ := HR.out.rep.at_ p hpa
        rw [layS_I, if_neg (by have := HQ.out.2.2; omega)] at h2
        exact ⟨z, h1, by rw [← HQ.out.1]; exact h2, trivial, trivial⟩
      have HY0 := Lib.hid hy0
      clear hy0
      by_cases hA : AheadP (x : Int) k q0 q1
      · rw [decide_eq_true hA]
        have HA := Lib.hid hA
        clear hA
        go_wp2_with (go_at_call 45; refine (lay_to a y0 q1 HP1.out HAV.out.1.symm HY0.out (by omega) hy64 hn).mono ?_; rintro r y2 ⟨rfl, hp, hu⟩; have HL := Lib.hid (And.intro hp hu); clear hp hu)
        obtain ⟨hq0, hq1, hpe⟩ := HQ.out
        have hA' := HA.out
        obtain ⟨e1, e2⟩ := HAV.out
        have hs' : layS a q0 q1 s = ⟨updP s.I a y0, updP s.K a q1, updP s.Pl y0 (a + 1)⟩ := by unfold layS; rw [HY0.out, Int.toNat_natCast]
        have hu : Upd (fun q => q = h ∨ q = gl) w y2 := ((HR.out.u.drew.trans (Upd.of_below HU1.out |>.mono_ge HR.out.u.size)).trans HL.out.2)
        have hne1 : w.heap.size ≠ h ∧ w.heap.size ≠ gl := by omega
        refine ⟨⟨p, layS a q0 q1 s, by omega, rfl, ⟨⟨by rw [hs']; exact HL.out.1⟩, HB1.out.upd HL.out.2 (by omega), hu, ?_, True, fun _ => trivial, ?_⟩⟩, ?_⟩
        · rw [← hq0, ← hq1]
          exact rep_swap HR.out.rep hpa (by omega) (by omega)
        · obtain ⟨st', _, h2⟩ := HR.out.up
          have := up_step h2 (by omega) (by omega) (by rw [hpe, hq0, hq1]; exact hA')
          rw [hpe, hq0, hq1] at this
          exact this
        · show (p : Int).toNat < av.toNat
          omega
      · rw [decide_eq_false hA]
        have HA := Lib.hid hA
        clear hA
        go_wp2_with (go_at_call 45; refine (lay_to a x k HP1.out HAV.out.1.symm rfl (by omega) hx64 hn).mono ?_; rintro r y2 ⟨rfl, hp, hu⟩; have HL := Lib.hid (And.intro hp hu); clear hp hu)
        obtain ⟨hq0, hq1, hpe⟩ := HQ.out
        have hA' := HA.out
        refine bodyPost_end (v := .tuple #[]) (by simp [results, Try.results40]) rfl ⟨rfl, layS a x k s, ?_⟩
        obtain ⟨st', h1, h2⟩ := HR.out.up
        obtain ⟨h3, h4⟩ := up_end h2 (fun _ => by rw [hpe, hq0, hq1]; exact hA')
        have hu : Upd (fun q => q = h ∨ q = gl) w y2 := ((HR.out.u.drew.trans (Upd.of_below HU1.out |>.mono_ge HR.out.u.size)).trans HL.out.2)
        exact ⟨⟨HL.out.1⟩, HR.out.rep, ⟨a, by omega, by rw [layS_I, if_pos rfl], h3⟩, fun h => h4 (h1 h), hu⟩
end Go.Proofs.Ytbfbahedbfjcoaa
