/- Small servers of the law, and the chapter's examples. -/
import Derived.Test.YtogdpkeojccpcaaTurnInts
import Derived.Test.YtogdpkeojccpcaaShareWorks
import Derived.Test.YtogdpkeojccpcaaShareMade
namespace Go.Proofs.Ytogdpkeojccpcaa
set_option linter.all false
open Go.RowKit

set_option maxRecDepth 100000 in
set_option maxHeartbeats 2000000 in
theorem servers20_any (g N c : Nat) (z : Nat → Int) (w : World) (hN : N ≤ 100) (hg : g < w.heap.size) (hz : ∀ i, i < 2 * N → w.cell? ⟨g, i, none⟩ = some (.int .i64 (z i)) ∧ I64 (z i)) :
    Calls Try.prog 52 #[.slice (some ⟨g, 0, none⟩) (2 * N) c] w fun r w' =>
      (∃ v, r = .returned v ∧ w'.ownsRow w.heap.size 36 3 v N (ptC (fun k => z (2 * k + 1)) (fun k => z (2 * k)) N)) ∧ Below w.heap.size w w' := by
  have HZ := Lib.hid hz
  clear hz
  obtain ⟨P, hP⟩ : ∃ P : Nat → Int, P = fun k => z (2 * k + 1) := ⟨_, rfl⟩
  obtain ⟨B, hB⟩ : ∃ B : Nat → Int, B = fun k => z (2 * k) := ⟨_, rfl⟩
  rw [← hP, ← hB]
  have HP := Lib.hid (And.intro hP hB)
  clear hP hB
  obtain ⟨i0, hi0, hz0, hz1, hz2⟩ := info_parts infoPart
  obtain ⟨n, hn⟩ : ∃ n : Nat, n = 2 * N := ⟨_, rfl⟩
  rw [← hn]
  go_enter Try.func52, Try.ntmps52
  go_wp2_with fail
  go_loopw [3, 4] (fun v j wr => ∃ (k : Nat), k ≤ N ∧ j = .int .i64 ((2 * k : Nat) : Int) ∧ Hid (wr.ownsRow w.heap.size 36 3 v k (ptC P B k)) ∧ Hid (Below w.heap.size w wr)) (fun _ j _ => n - (intOf j).toNat)
  case atStart => exact ⟨0, by omega, rfl, World.ownsRow_nil _ _ _ _, Below.refl _ _⟩
  case round =>
    obtain ⟨k, hk, rfl, hown, hb⟩ := hrel
    by_cases hc : k < N
    · have z0 := HZ.out (2 * k) (by omega)
      have z1 := HZ.out (2 * k + 1) (by omega)
      rw [← hb.out.cell (p := ⟨g, _, none⟩) hg] at z0 z1
      obtain ⟨c0, b0, b0'⟩ := z0
      obtain ⟨c1, b1, b1'⟩ := z1
      have hB2 : B k = z (2 * k) := by rw [HP.out.2]
      have hP2 : P k = z (2 * k + 1) := by rw [HP.out.1]
      rw [← hB2] at c0
      rw [← hP2] at c1
      obtain ⟨pk, hpk⟩ : ∃ x, P k = x := ⟨_, rfl⟩
      obtain ⟨bk, hbk⟩ : ∃ x, B k = x := ⟨_, rfl⟩
      rw [hbk] at c0
      rw [hpk] at c1
      have HK := Lib.hid (And.intro hpk hbk)
      clear hB2 hP2 hpk hbk
      obtain ⟨m, hm⟩ : ∃ m : Nat, m = 2 * k := ⟨_, rfl⟩
      rw [← hm] at c0 c1 ⊢
      have hx0 : (0 : Int) ≤ (m : Int) := by omega
      have hx1 : (m : Int) + 1 < n := by omega
      have hx2 : (m : Int) < n := by omega
      have hx3 : (m : Int) + 1 ≤ 9223372036854775807 := by omega
      have h63 := Lib.hid (show k + 1 ≤ maxLen by unfold maxLen; omega)
      clear b0 b0' b1 b1'
      have HM := Lib.hid (And.intro hm hn)
      clear hm hn
      have hsz := hb.out.size
      go_wp2_with fail
      obtain ⟨vv, hvv⟩ : ∃ v, u3 = v := ⟨_, rfl⟩
      have H1 := hown.out
      have hne' : ∀ b, b < w.heap.size → some b ≠ u3.ownBlock := by
        intro b hb e
        rcases H1.2 with ⟨h, _⟩ | ⟨g, cap, cur, h, hg, _⟩
        · rw [h] at e; simp [Value.ownBlock] at e
        · rw [h] at e; simp [Value.ownBlock] at e; omega
      have hne := Lib.hid hne'
      clear hne' hvv
      have w1 : IntKind.i64.wrap ((m : Int) + 1) = (m : Int) + 1 := IntWalk.i64_in _ (by omega)
      have hx5 : (m : Int) + 2 ≤ 9223372036854775807 := by have := HM.out; omega
      have hx4 : (0 : Int) ≤ (m : Int) + 1 := by omega
      have ht : ((m : Int) + 1).toNat = m + 1 := by omega
      go_region_held3 (fun w' => w'.cell? ⟨g, m, none⟩ = some (.int .i64 bk) ∧ w'.cell? ⟨g, m + 1, none⟩ = some (.int .i64 pk)) (first | go_keep | (constructor <;> (rw [hgrow.cell_far _ (by simp; omega) (hne.out _ hg)]; first | assumption | exact hS.1 | exact hS.2 | simp_all)))
        ((refine step_append_lies _ (by rfl) _ _ _ (by rfl) w.heap.size 36 i0 _ 3 40 Try.underlying22 hi0 hz0 hz1 hz2 partCells (by omega) u3 k (ptC P B k) (by rfl) ((H1.alloc _).drew)
            ⟨wr.heap.size, 0, none⟩ 1 1 [.int .i64 pk, .int .i64 bk, .slice none 0 0] (by rfl) (by rfl) (World.news_of_block (cs := #[.int .i64 pk, .int .i64 bk, .slice none 0 0]) (t := 36) (fr := (0, 0)) (heap_alloc_new wr _)) (by simp [Value.oneCell'])
            (by omega) h63.out (by omega) (by simp; omega) (wr.heap.size + 1) (by simp) ?_; intro gg cap w1 hown1 hgrow hat hlt))
      clear c0 c1
      have w2 : IntKind.i64.wrap ((m : Int) + 2) = (m : Int) + 2 := IntWalk.i64_in _ (by omega)
      go_wp2
      have e3 : ptC P B k ++ [Value.int IntKind.i64 pk, Value.int IntKind.i64 bk, Value.slice none 0 0] = ptC P B (k + 1) := by rw [ptC, HK.out.1, HK.out.2]
      rw [e3] at hown1
      have hm := HM.out.1
      have hn := HM.out.2
      refine ⟨⟨k + 1, by omega, by go_num, hown1, ?_⟩, by simp [intOf]; omega⟩
      exact ((hb.out.alloc (by omega) _).drew).grown hgrow (by simp; omega) (fun i hi => by
        rcases Nat.lt_or_ge i w.heap.size with h | h
        · exact absurd hi.symm (hne.out i h)
        · exact h)
    · obtain rfl : k = N := by omega
      go_wp2_with fail
      go_ret
      exact ⟨⟨_, rfl, hown.out⟩, hb.out⟩
theorem servers20_list (zs : List Int) (N : Nat) {n g : Nat} {c : Nat} {t : TypeId} {w : World} (hl : zs.length = n) (hn : n = 2 * N) (hN : N ≤ 100) (hz : ∀ z, z ∈ zs → I64 z) (hb : Blk w g t (zs.map (Value.int .i64)).toArray) :
    Calls Try.prog 52 #[.slice (some ⟨g, 0, none⟩) n c] w fun r w' =>
      (∃ A c', r = .returned (.slice A N c') ∧ SPts w' A N zs ∧ (1 ≤ N → (N : Int) ≤ c' ∧ ∃ g', A = some ⟨g', 0, none⟩)) ∧ Below w.heap.size w w' := by
  subst hn
  refine (servers20_any g N c (fun i => zs.getD i 0) w hN hb.lt fun i hi => ?_).mono ?_
  · have hlt : i < zs.length := by omega
    constructor
    · rw [hb.cell i]
      simp [hlt]
    · rw [List.getD_eq_getElem?_getD, List.getElem?_eq_getElem hlt]
      exact hz _ (List.getElem_mem hlt)
  · rintro r w' ⟨⟨v, rfl, hown⟩, hbel⟩
    have hform : 1 ≤ N → ∃ g' c', v = .slice (some ⟨g', 0, none⟩) N c' ∧ N ≤ c' := by
      intro h1
      rcases hown.2 with ⟨_, h2⟩ | ⟨g', cap, _, hv, _, _, hle, _⟩
      · omega
      · exact ⟨g', cap, hv, hle⟩
    obtain ⟨A, c', rfl⟩ := own_form hown
    refine ⟨⟨A, c', rfl, ⟨pts_own hown (fun i hi => ?_) (by unfold maxLen; omega)⟩, fun h1 => ?_⟩, hbel⟩
    rotate_left
    · obtain ⟨g', c'', hv, hle⟩ := hform h1
      cases hv
      exact ⟨by omega, g', rfl⟩
    have h1 : 2 * i < zs.length := by omega
    have h2 : 2 * i + 1 < zs.length := by omega
    constructor
    · show I64 (zs.getD _ 0)
      rw [List.getD_eq_getElem?_getD, List.getElem?_eq_getElem h2]
      exact hz _ (List.getElem_mem h2)
    · show I64 (zs.getD _ 0)
      rw [List.getD_eq_getElem?_getD, List.getElem?_eq_getElem h1]
      exact hz _ (List.getElem_mem h1)

set_option maxRecDepth 100000 in
set_option maxHeartbeats 4000000 in
theorem made20_any {w : World} {A : Option Addr} {n : Nat} {P B : Nat → Int} (h : Pts w A n P B) (hI : ∀ i, i < n → I64 (P i) ∧ I64 (B i)) (c : Nat) :
    Calls Try.prog 51 #[.slice A n c] w fun r w' =>
      (∃ v, r = .returned v ∧ w'.ownsRow w.heap.size 36 3 v (min n 4) (ptC (mdP 20 P) (mdB 20 P B) (min n 4))) ∧ Below w.heap.size w w' := by
  obtain ⟨Z, hr, hP⟩ := h.rd
  have hn := h.len
  have HR := Lib.hid hr
  have HP := Lib.hid hP
  have HI := Lib.hid hI
  have hm : (n : Int) ≤ 9223372036854775807 := by simp [maxLen] at hn; omega
  clear hr hP hI hn h
  obtain ⟨N, hN⟩ : ∃ N, min n 4 = N := ⟨_, rfl⟩
  rw [hN]
  have HN := Lib.hid hN
  have hN4 : N ≤ 4 := by omega
  have hNn : N ≤ n := by omega
  clear hN
  obtain ⟨i0, hi0, hz0, hz1, hz2⟩ := info_parts infoPart
  go_enter Try.func51, Try.ntmps51
  go_wp2_with fail
  go_loopw [3, 4] (fun v j wr => ∃ (k : Nat), k ≤ N ∧ j = .int .i64 (k : Int) ∧ Hid (wr.ownsRow w.heap.size 36 3 v k (ptC (mdP 20 P) (mdB 20 P B) k)) ∧ Hid (Below w.heap.size w wr)) (fun _ j _ => N - (intOf j).toNat)
  case atStart => exact ⟨0, by omega, rfl, World.ownsRow_nil _ _ _ _, Below.refl _ _⟩
  case round =>
    obtain ⟨k, hk, rfl, hown, hb⟩ := hrel
    by_cases hc : k < N
    · obtain ⟨b, off, rfl, hlt, hcell⟩ := HR.out k (by omega)
      obtain ⟨p0, p1⟩ := HP.out k (by omega)
      obtain ⟨⟨pb1, pb2⟩, ⟨bb1, bb2⟩⟩ := HI.out k (by omega)
      obtain ⟨c0, _⟩ := hcell 0 _ rfl
      obtain ⟨c1, _⟩ := hcell 1 _ rfl
      rw [p0] at c0
      rw [p1] at c1
      rw [← hb.out.cell (p := ⟨b, _, none⟩) hlt] at c0 c1
      simp [← Nat.add_assoc] at c0 c1
      obtain ⟨pk, hpk⟩ : ∃ x, P k = x := ⟨_, rfl⟩
      obtain ⟨bk, hbk⟩ : ∃ x, B k = x := ⟨_, rfl⟩
      rw [hpk] at c0 pb1 pb2
      rw [hbk] at c1 bb1 bb2
      have HK := Lib.hid (And.intro hpk hbk)
      clear hpk hbk p0 p1 hcell
      have q0 := Int.emod_nonneg pk (b := 20) (by decide)
      have q1 := Int.emod_lt_of_pos pk (b := 20) (by decide)
      obtain ⟨p, hp⟩ : ∃ p, 1 + pk % 20 = p := ⟨_, rfl⟩
      have q2 := Int.emod_nonneg bk (b := p) (by omega)
      have q3 := Int.emod_lt_of_pos bk (b := p) (by omega)
      obtain ⟨q, hq⟩ : ∃ q, 1 + bk % p = q := ⟨_, rfl⟩
      have wp : IntKind.i64.wrap (1 + pk % 20) = p := by rw [IntWalk.i64_in _ (by omega)]; exact hp
      have wq : IntKind.i64.wrap (1 + bk % p) = q := by rw [IntWalk.i64_in _ (by omega)]; exact hq
      have HPQ := Lib.hid (And.intro hp hq)
      have hp1 : 1 ≤ p := by omega
      have hp2 : p ≤ 20 := by omega
      clear hp hq
      have hx0 : (0 : Int) ≤ k := by omega
      have hx1 : (k : Int) < n := by omega
      have hx4 : (k : Int) < 4 := by omega
      have HB1 : Hid (k + 1 ≤ maxLen) := (by simp only [maxLen]; omega : k + 1 ≤ maxLen)
      have HB2 : Hid ((k + 1) * 40 ≤ 140737488355328) := (by omega : (k + 1) * 40 ≤ 140737488355328)
      have hsz := hb.out.size
      have hne : ∀ b, b < w.heap.size → some b ≠ u3.ownBlock := by
        intro b hb e
        rcases hown.out.2 with ⟨h, _⟩ | ⟨g, cap, cur, h, hg, _⟩
        · rw [h] at e; simp [Value.ownBlock] at e
        · rw [h] at e; simp [Value.ownBlock] at e; omega
      have HNE := Lib.hid hne
      have T1 := Lib.hid True.intro
      clear hne
      go_wp2_with (first
        | (go_at_call 22; first
            | (have _tk := T1; refine (bring_any pk 20 _ ⟨by omega, by omega⟩ ⟨by decide, by decide⟩).mono ?_; rintro r x1 ⟨rfl, -, rfl⟩; clear T1 _tk)
            | (refine (bring_any bk p _ ⟨by omega, by omega⟩ ⟨by omega, by omega⟩).mono ?_; rintro r x1 ⟨rfl, -, rfl⟩))
        | (at_builtin
           refine wpList_append_lies _ (by rfl) _ _ 22 (by rfl) w.heap.size 36 i0 _ 3 40 Try.underlying22 hi0 hz0 hz1 hz2 partCells (by decide) u3 k (ptC (mdP 20 P) (mdB 20 P B) k) (by rfl) (hown.out.alloc _) ⟨wr.heap.size, 0, none⟩ 1 1 [.int .i64 p, .int .i64 q, .slice none 0 0] (by rfl) (by rfl) (World.news_of_block (cs := #[.int .i64 p, .int .i64 q, .slice none 0 0]) (t := 36) (fr := (0, 0)) (heap_alloc_new wr _)) (by simp [Value.oneCell']) (by decide) HB1.out HB2.out (by simp; omega) (wr.heap.size + 1) (by simp) ?_
           intro g cap w1 hown1 hgrow hat hlt1))
      have e3 : ptC (mdP 20 P) (mdB 20 P B) k ++ [Value.int IntKind.i64 p, Value.int IntKind.i64 q, Value.slice none 0 0] = ptC (mdP 20 P) (mdB 20 P B) (k + 1) := by
        rw [ptC]
        unfold mdP mdB
        rw [HK.out.1, HK.out.2, HPQ.out.1, HPQ.out.2]
      rw [e3] at hown1
      refine ⟨⟨k + 1, by omega, by go_num, hown1, ?_⟩, by simp [intOf]; omega⟩
      exact (hb.out.alloc (by omega) _).grown hgrow (by simp; omega) (fun i hi => by
        rcases Nat.lt_or_ge i w.heap.size with h | h
        · exact absurd hi.symm (HNE.out i h)
        · exact h)
    · obtain rfl : k = N := by omega
      by_cases hkn : k < n
      · have h4 : ¬ (k : Int) < 4 := by have := HN.out; omega
        have hx1 : (k : Int) < n := by omega
        go_wp2_with fail
        go_ret
        exact ⟨⟨_, rfl, hown.out⟩, hb.out⟩
      · have hx1 : ¬ (k : Int) < n := by omega
        go_wp2_with fail
        go_ret
        exact ⟨⟨_, rfl, hown.out⟩, hb.out⟩

theorem runT_bound (P B S : Nat → Int) (m t : Nat) : ∀ i, i < t → -1 ≤ (runT P B S m t).2.getD i 0 ∧ (runT P B S m t).2.getD i 0 < m := by
  induction t with
  | zero => intro i hi; omega
  | succ t ih =>
    intro i hi
    have hl := runT_len P B S m t
    rw [runT]
    simp only [List.getD_eq_getElem?_getD]
    by_cases h : i < t
    · rw [List.getElem?_append_left (by omega), ← List.getD_eq_getElem?_getD]
      exact ih i h
    · obtain rfl : i = t := by omega
      rw [List.getElem?_append_right (by omega), hl, Nat.sub_self]
      show -1 ≤ (tickT P B S m i (runT P B S m i).1).2 ∧ (tickT P B S m i (runT P B S m i).1).2 < m
      unfold tickT
      cases hw : whoF (vOf (stT P B S i (runT P B S m i).1 m)) m with
      | none => simp only; omega
      | some j => have := (whoF_some hw).1; simp only; omega

/-- What a plan is asked, and what it answers. -/
structure PlanIs (P B S : Nat → Int) (m mb K : Nat) (W : Nat → Int) : Prop where
  ask : AskIs P B S m mb K 0
  run : ∀ i, i < K → (runT P B S m K).2.getD i 0 = W i
set_option maxHeartbeats 2000000 in
theorem plans_true {w : World} {A A2 A3 : Option Addr} {m mb K : Nat} {P B S W : Nat → Int} (h : Pts w A m P B) (hI : ∀ i, i < m → I64 (P i) ∧ I64 (B i)) (h2 : IntsW w A2 mb S) (h3 : IntsW w A3 K W) (hp : PlanIs P B S m mb K W) (c c2 c3 : Nat) :
    Calls Try.prog 63 #[.slice A m c, .slice A2 mb c2, .slice A3 K c3] w fun r w' => r = .returned (.bool true) ∧ Below w.heap.size w w' := by
  have H := Lib.hid h
  have HI := Lib.hid hI
  have H2 := Lib.hid h2
  have H3 := Lib.hid h3
  have HP := Lib.hid hp
  have hK : K ≤ 1000 := by
    rcases hp.ask with ⟨h, _⟩ | ⟨h, _⟩
    · cases h
    · omega
  have hK2 := Lib.hid (show K ≤ maxLen by unfold maxLen; omega)
  clear h hI h2 h3 hp
  go_enter Try.func63, Try.ntmps63
  go_wp2_with (first
    | (go_at_call 45; refine (plan_any H.out HI.out H2.out c c2 K).mono ?_; rintro r x1 ⟨⟨v, E, rfl, hE, _, ho⟩, hb⟩; obtain rfl := hE.fun_ HP.out.ask
       have ho := ho rfl
       rw [Int.toNat_natCast] at ho
       obtain ⟨A', c', rfl⟩ := own_form ho
       have HO := Lib.hid (And.intro (ints_own ho) (And.intro (H3.out.keep hb) hb))
       clear hE hb ho)
    | (go_at_call 47; refine (eqints_true HO.out.1 HO.out.2.1 _ _ HP.out.run hK2.out).mono ?_; rintro r x2 ⟨rfl, hb⟩; have HB := Lib.hid (HO.out.2.2.trans (hb.mono HO.out.2.2.size)); clear hb))
  go_ret
  exact ⟨rfl, HB.out⟩

def Lz (zs : List Int) (i : Nat) : Int := zs.getD i 0
/-- A closed example. -/
structure ExIs (zs bs ws : List Int) (m : Nat) : Prop where
  p : PlanIs (Pz zs) (Bz zs) (Lz bs) m bs.length ws.length (Lz ws)
  i : ∀ i, i < m → I64 (Pz zs i) ∧ I64 (Bz zs i)
instance (P B S : Nat → Int) (m : Nat) : Decidable (AskOk P B S m) := by unfold AskOk; infer_instance
theorem ex_is {zs bs ws : List Int} {m : Nat} (h1 : m ≤ 4) (h2 : ws.length ≤ 1000) (h3 : bs.length = m) (h4 : AskOk (Pz zs) (Bz zs) (Lz bs) m) (h5 : (runT (Pz zs) (Bz zs) (Lz bs) m ws.length).2 = ws) (h6 : ∀ i, i < m → I64 (Pz zs i) ∧ I64 (Bz zs i)) : ExIs zs bs ws m :=
  ⟨⟨Or.inr ⟨⟨h1, by omega, by omega⟩, Or.inr ⟨rfl, h3, h4⟩⟩, fun i _ => by rw [h5]; rfl⟩, h6⟩
theorem x1 : ExIs [1, 2, 2, 4] [0, 0] [0, 1, 0, 1, 0, 1, 0, 1] 2 := ex_is (by decide) (by decide) rfl (by decide) (by kernel_rfl) (by decide)
theorem x2 : ExIs [1, 3, 1, 2] [0, 1] [0, 1, -1, 1, 0, 1, 0] 2 := ex_is (by decide) (by decide) rfl (by decide) (by kernel_rfl) (by decide)
theorem x3 : ExIs [] [] [-1, -1] 0 := ex_is (by decide) (by decide) rfl (by decide) (by kernel_rfl) (by decide)
theorem plans_ex {w : World} {A : Option Addr} {m g2 g3 n2 n3 : Nat} {t2 t3 : TypeId} {zs bs ws : List Int} (h : SPts w A m zs) (h2 : Blk w g2 t2 (bs.map (Value.int .i64)).toArray) (h3 : Blk w g3 t3 (ws.map (Value.int .i64)).toArray) (hx : ExIs zs bs ws m) (e2 : bs.length = n2) (e3 : ws.length = n3) (c c2 c3 : Nat) :
    Calls Try.prog 63 #[.slice A m c, .slice (some ⟨g2, 0, none⟩) n2 c2, .slice (some ⟨g3, 0, none⟩) n3 c3] w fun r w' => r = .returned (.bool true) ∧ Below w.heap.size w w' := by
  subst e2 e3
  exact plans_true h.h hx.i (ints_blk h2) (ints_blk h3) hx.p c c2 c3
theorem plans_nil {w : World} {g3 n3 : Nat} {t3 : TypeId} {ws : List Int} (h3 : Blk w g3 t3 (ws.map (Value.int .i64)).toArray) (hx : ExIs [] [] ws 0) (e3 : ws.length = n3) (c3 : Nat) :
    Calls Try.prog 63 #[.slice none 0 0, .slice none 0 0, .slice (some ⟨g3, 0, none⟩) n3 c3] w fun r w' => r = .returned (.bool true) ∧ Below w.heap.size w w' := by
  subst e3
  exact plans_true (Pts.nil _ _ _) hx.i (IntsW.nil _ _ _) (ints_blk h3) hx.p 0 0 c3
theorem blk_new2 (w : World) (o : Obj) (t : TypeId) (cs : Array Value) : Blk ((w.alloc o).alloc (.cells cs t)) (w.heap.size + 1) t cs := by
  have := Blk.new (w.alloc o) t cs
  simpa using this
theorem below_alloc2 (w : World) (o o' : Obj) : Below w.heap.size w ((w.alloc o).alloc o') := ((Below.refl _ _).alloc (Nat.le_refl _) _).alloc (by simp) _

set_option maxRecDepth 100000 in
set_option maxHeartbeats 4000000 in
theorem turn_works (w : World) : Calls Try.prog 48 #[] w fun r w' => r = .returned (.bool true) ∧ Below w.heap.size w w' := by
  have HW := Lib.hid (Below.refl w.heap.size w)
  have T1 := Lib.hid True.intro
  have T2 := Lib.hid True.intro
  have U1 := Lib.hid True.intro
  have U2 := Lib.hid True.intro
  have U3 := Lib.hid True.intro
  go_enter Try.func48, Try.ntmps48
  go_wp2_with (first
    | (go_at_call 63; first
        | (have _tk := U1; refine (plans_ex (HP.out.keep (below_alloc2 _ _ _)) ((Blk.new _ _ _).alloc _) (blk_new2 _ _ _ _) x1 rfl rfl _ _ _).mono ?_; rintro r y1 ⟨rfl, hb⟩; have HW := Lib.hid (HW.out.trans ((below_alloc2 _ _ _).mono HW.out.size |>.trans (hb.mono (by have := HW.out.size; simp; try omega)))); clear hb U1 _tk)
        | (have _tk := U2; refine (plans_ex (HP.out.keep (below_alloc2 _ _ _)) ((Blk.new _ _ _).alloc _) (blk_new2 _ _ _ _) x2 rfl rfl _ _ _).mono ?_; rintro r y1 ⟨rfl, hb⟩; have HW := Lib.hid (HW.out.trans ((below_alloc2 _ _ _).mono HW.out.size |>.trans (hb.mono (by have := HW.out.size; simp; try omega)))); clear hb U2 _tk)
        | (have _tk := U3; refine (plans_nil (Blk.new _ _ _) x3 rfl _).mono ?_; rintro r y1 ⟨rfl, hb⟩; have HW := Lib.hid ((HW.out.alloc HW.out.size _).trans (hb.mono (by have := HW.out.size; simp; try omega))); clear hb U3 _tk))
    | (go_at_call 52; first
        | (have _tk := T1; refine (servers20_list [1, 2, 2, 4] 2 (by rfl) (by rfl) (by decide) (by decide) (Blk.new _ _ _)).mono ?_; rintro r y1 ⟨⟨A, c, rfl, hp, _⟩, hb⟩; have HW := Lib.hid ((HW.out.alloc HW.out.size _).trans (hb.mono (by have := HW.out.size; simp; try omega))); have HP := Lib.hid hp; clear hb hp T1 _tk)
        | (have _tk := T2; refine (servers20_list [1, 3, 1, 2] 2 (by rfl) (by rfl) (by decide) (by decide) (Blk.new _ _ _)).mono ?_; rintro r y1 ⟨⟨A, c, rfl, hp, _⟩, hb⟩; have HW := Lib.hid ((HW.out.alloc HW.out.size _).trans (hb.mono (by have := HW.out.size; simp; try omega))); have HP := Lib.hid hp; clear hb hp T2 _tk)))
  go_ret
  exact ⟨rfl, HW.out⟩
end Go.Proofs.Ytogdpkeojccpcaa
