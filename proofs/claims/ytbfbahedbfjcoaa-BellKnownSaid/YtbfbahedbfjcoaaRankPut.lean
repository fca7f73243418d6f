/- Package rank: the walk of Put and of First. -/
import Derived.Test.YtbfbahedbfjcoaaRankUp
import Derived.Deep.RegionLaw
import Derived.Deep.CutRange
import Derived.OwnWalk
namespace Go.Proofs.Ytbfbahedbfjcoaa
set_option linter.all false
open Go.RowKit

def growR (F : Nat → Prop) (w w' : World) : Nat → Prop := fun k => F k ∨ (w.heap.size ≤ k ∧ k < w'.heap.size)
/-- A rank of n ids, whose memory is in F. -/
structure HpO (w : World) (F : Nat → Prop) (g h n : Nat) (s : HS) : Prop where
  rk : RkAt w g h
  fh : F h
  row : ∃ v xs, Blk w h 63 (hpA v s.Pl) ∧ w.ownsRow 0 69 2 v n xs ∧ (∀ b, v.ownBlock = some b → F b) ∧ ∀ i, i < n → xs[i * 2]? = some (.int .i64 (s.I i)) ∧ xs[i * 2 + 1]? = some (.int .i64 (s.K i))

theorem HpO.toS {w : World} {F : Nat → Prop} {g h n : Nat} {s : HS} (hp : HpO w F g h n s) (hn : 0 < n) : ∃ gl cap, F gl ∧ HpS w h gl n cap s := by
  obtain ⟨v, xs, hb, ho, hF, hx⟩ := hp.row
  obtain ⟨hl, h0 | ⟨gl, cap, cur, rfl, _, hc, h1, h2, h3, h4⟩⟩ := ho
  · omega
  · refine ⟨gl, cap, hF gl rfl, ⟨⟨hb, ⟨cur, hc, fun i hi => ?_, h3⟩, h1, h2⟩⟩⟩
    obtain ⟨x1, x2⟩ := hx i hi
    rw [← h4] at x1 x2
    have e1 : i * 2 < n * 2 := by omega
    have e2 : i * 2 + 1 < n * 2 := by omega
    rw [List.getElem?_take, if_pos e1] at x1
    rw [List.getElem?_take, if_pos e2] at x2
    simp only [Array.getElem?_toList] at x1 x2
    exact ⟨x1, x2⟩
theorem HpS.toO {w : World} {F : Nat → Prop} {g h gl n cap : Nat} {s : HS} (hp : HpS w h gl n cap s) (hr : RkAt w g h) (h1 : F h) (h2 : F gl) : HpO w F g h n s := by
  obtain ⟨hb, ⟨cur, hc, hx, hs⟩, hc1, hc2⟩ := hp.p
  refine ⟨hr, h1, _, cur.toList.take (n * 2), hb, ⟨?_, Or.inr ⟨gl, cap, cur, rfl, Nat.zero_le _, hc, hc1, hc2, hs, rfl⟩⟩, fun b hb => ?_, fun i hi => ?_⟩
  · rw [List.length_take, Array.length_toList, hs]; omega
  · have : some gl = some b := hb
    cases this
    exact h2
  · obtain ⟨x1, x2⟩ := hx i hi
    have e1 : i * 2 < n * 2 := by omega
    have e2 : i * 2 + 1 < n * 2 := by omega
    rw [List.getElem?_take, if_pos e1, List.getElem?_take, if_pos e2]
    simp only [Array.getElem?_toList]
    exact ⟨x1, x2⟩
theorem HpO.upd {w w' : World} {F S : Nat → Prop} {g h n : Nat} {s : HS} (hp : HpO w F g h n s) (hu : Upd S w w') (hd : ∀ k, S k → ¬ F k) (hg : ¬ S g) : HpO w' F g h n s := by
  obtain ⟨v, xs, hb, ho, hF, hx⟩ := hp.row
  refine ⟨hp.rk.upd hu hg, hp.fh, v, xs, hb.upd hu (fun e => hd _ e hp.fh), ⟨ho.1, ?_⟩, hF, hx⟩
  rcases ho.2 with h0 | ⟨gl, cap, cur, rfl, h0, hc, h1, h2, h3, h4⟩
  · exact Or.inl h0
  · exact Or.inr ⟨gl, cap, cur, rfl, h0, Blk.upd hc hu (fun e => hd _ e (hF gl rfl)), h1, h2, h3, h4⟩
theorem HpO.below {w w' : World} {F : Nat → Prop} {g h n : Nat} {s : HS} (hp : HpO w F g h n s) (hb : Below w.heap.size w w') : HpO w' F g h n s := by
  obtain ⟨v, xs, hc, ho, hF, hx⟩ := hp.row
  refine ⟨hp.rk.below hb hp.rk.lt, hp.fh, v, xs, hc.below hb hc.lt, ⟨ho.1, ?_⟩, hF, hx⟩
  rcases ho.2 with h0 | ⟨gl, cap, cur, rfl, h0, hc, h1, h2, h3, h4⟩
  · exact Or.inl h0
  · exact Or.inr ⟨gl, cap, cur, rfl, h0, Blk.below hc hb (Blk.lt hc), h1, h2, h3, h4⟩
theorem HpO.mono {w : World} {F F' : Nat → Prop} {g h n : Nat} {s : HS} (hp : HpO w F g h n s) (hF : ∀ k, F k → F' k) : HpO w F' g h n s := by
  obtain ⟨v, xs, hb, ho, hf, hx⟩ := hp.row
  exact ⟨hp.rk, hF _ hp.fh, v, xs, hb, ho, fun b h => hF _ (hf b h), hx⟩

structure PutPost (w w' : World) (F : Nat → Prop) (g h n : Nat) (M : Nat → Option Int) (s : HS) : Prop where
  hp : HpO w' (growR F w w') g h n s
  rep : RepP n s M
  heap : HeapP n s
  u : Upd F w w'

theorem infoOne : (Try.prog.info? 69).map (fun i => (i.zero, i.size, i.bytes)) = some (some (.agg #[.int .i64 0, .int .i64 0]), 2, 16) := by kernel_rfl
theorem oneCells : (Value.agg #[.int .i64 0, .int .i64 0]).cells.size = 2 := by kernel_rfl
theorem layS_layS (n : Nat) (x k : Int) (s : HS) : layS n x k ⟨updP s.I n x, updP s.K n k, s.Pl⟩ = layS n x k s := by
  unfold layS
  have h : ∀ (f : Nat → Int) (u : Int), updP (updP f n u) n u = updP f n u := fun f u => by
    funext j; unfold updP; split <;> rfl
  simp only [h]

theorem put_mid {w2 : World} {v : Value} {xs : List Value} {gg cap n h : Nat} {s : HS} {id key : Int} (ho : w2.ownsRow 0 69 2 (.slice (some ⟨gg, 0, none⟩) (n + 1) cap) (n + 1) (xs ++ [.int .i64 id, .int .i64 key])) (hl : xs.length = n * 2)
    (hx : ∀ i, i < n → xs[i * 2]? = some (.int .i64 (s.I i)) ∧ xs[i * 2 + 1]? = some (.int .i64 (s.K i))) (hb : Blk w2 h 63 (hpA v s.Pl)) :
    HpS (w2.setCell ⟨h, 0, none⟩ (.slice (some ⟨gg, 0, none⟩) (n + 1) cap)) h gg (n + 1) cap ⟨updP s.I n id, updP s.K n key, s.Pl⟩ := by
  obtain ⟨_, h0 | ⟨gl, cap', cur, h0, _, hc, h1, h2, h3, h4⟩⟩ := ho
  · omega
  · cases h0
    have hne : h ≠ gg := hb.ne_ hc (by decide)
    refine ⟨⟨by rw [← hpA_set0]; exact hb.set_ 0 _, ⟨cur, Blk.far hc (p := ⟨h, 0, none⟩) (fun e => hne e.symm) _, fun i hi => ?_, h3⟩, h1, h2⟩⟩
    have e1 : i * 2 < (n + 1) * 2 := by omega
    have e2 : i * 2 + 1 < (n + 1) * 2 := by omega
    have k1 : cur[i * 2]? = (xs ++ [Value.int .i64 id, .int .i64 key])[i * 2]? := by rw [← h4, List.getElem?_take, if_pos e1, Array.getElem?_toList]
    have k2 : cur[i * 2 + 1]? = (xs ++ [Value.int .i64 id, .int .i64 key])[i * 2 + 1]? := by rw [← h4, List.getElem?_take, if_pos e2, Array.getElem?_toList]
    rw [k1, k2]
    show _ = some (Value.int .i64 (updP s.I n id i)) ∧ _ = some (Value.int .i64 (updP s.K n key i))
    unfold updP
    by_cases hin : i = n
    · subst hin
      rw [if_pos rfl, if_pos rfl, List.getElem?_append_right (by omega), List.getElem?_append_right (by omega), hl, Nat.sub_self, show i * 2 + 1 - i * 2 = 1 from by omega]
      exact ⟨rfl, rfl⟩
    · rw [if_neg hin, if_neg hin, List.getElem?_append_left (by omega), List.getElem?_append_left (by omega)]
      exact hx i (by omega)

structure PutMid (w y : World) (F : Nat → Prop) (g h gg n cap : Nat) (s : HS) : Prop where
  hp : HpS y h gg n cap s
  rk : RkAt y g h
  u : Upd F w y
  fg : F gg ∨ w.heap.size ≤ gg
  fh : F h

set_option maxRecDepth 100000 in
set_option maxHeartbeats 4000000 in
theorem put_any {w : World} {F : Nat → Prop} {g h n : Nat} {s : HS} {M : Nat → Option Int} (hp : HpO w F g h n s) (id : Nat) (key : Int) (hid : id < 64) (hn : n < 64) (hrep : RepP n s M) (hheap : HeapP n s) (hM : M id = none) :
    Calls Try.prog 29 #[.pointer (some ⟨g, 0, none⟩), .int .i64 id, .int .i64 key] w fun r w' => r = .returned (.int .i64 0) ∧ ∃ s', PutPost w w' F g h (n + 1) (fun z => if z = id then some key else M z) s' := by
  have HP := Lib.hid hp
  obtain ⟨v, xs, hb, ho, hF, hx⟩ := hp.row
  obtain ⟨i0, hi0, hz0, hz1, hz2⟩ := info_parts infoOne
  have hPl : s.Pl id = 0 := hrep.no_ id hid hM
  have HC := Lib.hid (And.intro hrep (And.intro hheap hM))
  have hge : w.cell? ⟨g, 0, none⟩ = some (.pointer (some ⟨h, 0, none⟩)) := by simpa using hp.rk.cell 0
  have hce : w.cell? ⟨h, 0, none⟩ = some v := by rw [hb.cell]; exact hpA_0 _ _
  have hfe := hb.frozen 0
  have hx2 : (0 : Int) ≤ id := by omega
  have hx3 : (id : Int) < 64 := by omega
  have ha : (if 0 ≤ (id : Int) ∧ (id : Int) < 64 then (0 : Int) else 9) = 0 := if_pos ⟨hx2, hx3⟩
  have HA := Lib.hid ha
  have HB := Lib.hid hb
  have HO := Lib.hid (And.intro ho (And.intro hF hx))
  have HPL := Lib.hid hPl
  clear hp hb ho hF hx hPl hrep hheap hM ha
  go_enter Try.func29, Try.ntmps29
  go_wp2_with (first
    | (go_at_call 39; refine (asked_any (id : Int) HP.out.rk).mono ?_; rintro r w1 ⟨rfl, rfl⟩; rw [HA.out])
    | (go_at_call 37; refine (at_any id HP.out.rk HB.out hid (by rw [HPL.out]; decide)).mono ?_; rintro r w1 ⟨rfl, hb1⟩; rw [HPL.out]; have HB1 := Lib.hid hb1; clear hb1))
  have HP1 := Lib.hid (HP.out.below HB1.out)
  clear hge hce hfe HB HO HP HA hx2 hx3
  obtain ⟨v, xs, hb, ho, hF, hx⟩ := HP1.out.row
  have hge : w1.cell? ⟨g, 0, none⟩ = some (.pointer (some ⟨h, 0, none⟩)) := by simpa using HP1.out.rk.cell 0
  have hce : w1.cell? ⟨h, 0, none⟩ = some v := by rw [hb.cell]; exact hpA_0 _ _
  have hfe := hb.frozen 0
  have hh := hb.lt
  have hg := HP1.out.rk.lt
  have HB := Lib.hid hb
  have HO := Lib.hid ho
  have HX := Lib.hid (And.intro hF hx)
  have hne' : some h ≠ v.ownBlock ∧ some g ≠ v.ownBlock := by
    have key : ∀ k, v.ownBlock = some k → ∃ cs, Blk w1 k 69 cs := fun k hk => by
      rcases ho.2 with ⟨h1, _⟩ | ⟨gl, cap, cur, rfl, _, hc, _⟩
      · rw [h1] at hk; simp [Value.ownBlock] at hk
      · have : some gl = some k := hk
        cases this
        exact ⟨cur, hc⟩
    constructor
    · intro e
      obtain ⟨cs, hc⟩ := key h e.symm
      exact hb.ne_ hc (by decide) rfl
    · intro e
      obtain ⟨cs, hc⟩ := key g e.symm
      exact HP1.out.rk.ne_ hc (by decide) rfl
  have hne := Lib.hid hne'
  have h63 := Lib.hid (show n + 1 ≤ maxLen by unfold maxLen; omega)
  clear hb ho hF hx hne'
  have H1 := HO.out
  go_cut [] from 23 to 40 (fun wx => ∃ gg cap, Hid (PutMid w wx F g h gg (n + 1) cap ⟨updP s.I n id, updP s.K n key, s.Pl⟩))
  case first =>
    go_region_law ((refine step_append_lies _ (by rfl) _ _ _ (by rfl) 0 69 i0 _ 2 16 Try.underlying61 hi0 hz0 hz1 hz2 oneCells (by omega) v n xs (by rfl) ((H1.alloc _).drew) ⟨w1.heap.size, 0, none⟩ 1 1 [.int .i64 id, .int .i64 key] (by rfl) (by rfl) (World.news_of_block (cs := #[.int .i64 id, .int .i64 key]) (t := 69) (fr := (0, 0)) (heap_alloc_new w1 _)) (by simp [Value.oneCell']) (by omega) h63.out (by omega) (by omega) (w1.heap.size + 1) (by simp) ?_; intro gg cap w2 hown1 hgrow hat hlt); have HB2 : Hid (Blk w2 h 63 (hpA v s.Pl)) := (hgrow.block h (by simp; omega) hne.out.1).trans ((HB.out.alloc _).drew); have s2 : w2.cell? ⟨h, 0, none⟩ = some v := (HB2.out.cell 0).trans (hpA_0 _ _); have f2 := HB2.out.frozen 0; have HG2 : Hid (RkAt w2 g h) := (hgrow.block g (by simp; omega) hne.out.2).trans ((HP1.out.rk.alloc _).drew); have s3 : w2.cell? ⟨g, 0, none⟩ = some (.pointer (some ⟨h, 0, none⟩)) := HG2.out.cell 0)
    all_goals
      have hM := put_mid hown1 HO.out.1 HX.out.2 HB2.out
      have hG3 : RkAt (w2.setCell ⟨h, 0, none⟩ (.slice (some ⟨gg, 0, none⟩) (n + 1) cap)) g h := HG2.out.far (p := ⟨h, 0, none⟩) (HG2.out.ne_ HB2.out (by decide)) _
      have hU : Upd F w (w2.setCell ⟨h, 0, none⟩ (.slice (some ⟨gg, 0, none⟩) (n + 1) cap)) := by
        have u1 : Upd F w w1 := (Upd.of_below HB1.out).mono_ge (Nat.le_refl _)
        have u2 : Upd F w1 w2 := ((Upd.refl F w1).alloc (.cells #[.int .i64 id, .int .i64 key] 69)).drew.trans ⟨hgrow.os, hgrow.tape, hgrow.output, hgrow.size, fun k hk hn => hgrow.block k hk (fun e => hn (HX.out.1 k e.symm))⟩
        exact (u1.trans u2).setCell (p := ⟨h, 0, none⟩) (fun _ => HP1.out.fh) _
      have hF : F gg ∨ w.heap.size ≤ gg := by
        rcases hat with h1 | h1
        · exact Or.inl (HX.out.1 _ h1)
        · exact Or.inr (by have := HB1.out.size; omega)
      go_wp2_with fail
      go_meet
      exact ⟨gg, cap, ⟨hM, hG3, hU, hF, HP1.out.fh⟩⟩
  case rest =>
    obtain ⟨gg, cap, HM⟩ := hcut
    clear hge hce hfe hh hg HB HO HX hne h63 H1 hi0 hz0 hz1 hz2
    have hge : wc.cell? ⟨g, 0, none⟩ = some (.pointer (some ⟨h, 0, none⟩)) := HM.out.rk.cell 0
    have hce : wc.cell? ⟨h, 0, none⟩ = some (.slice (some ⟨gg, 0, none⟩) (n + 1) cap) := (HM.out.hp.p.hb.cell 0).trans (hpA_0 _ _)
    have w1 : IntKind.i64.wrap ((n : Int) + 1 - 1) = (n : Int) := by rw [show (n : Int) + 1 - 1 = n from by omega]; exact IntWalk.i64_in _ (by omega)
    have HUP : Hid (RepP (n + 1) (layS n id key s) (fun z => if z = id then some key else M z) ∧ UpI True (n + 1) n (layS n id key s)) :=
      ⟨rep_put HC.out.1 hid HC.out.2.2, up_put _ _ HC.out.2.1⟩
    have HUP2 : Hid (RepP (n + 1) (layS n (updP s.I n id n) (updP s.K n key n) ⟨updP s.I n id, updP s.K n key, s.Pl⟩) (fun z => if z = id then some key else M z) ∧ UpI True (n + 1) n (layS n (updP s.I n id n) (updP s.K n key n) ⟨updP s.I n id, updP s.K n key, s.Pl⟩)) := by
      have e1 : updP s.I n id n = id := by unfold updP; rw [if_pos rfl]
      have e2 : updP s.K n key n = key := by unfold updP; rw [if_pos rfl]
      rw [e1, e2, layS_layS]
      exact HUP.out
    go_wp2_with fail
    go_still_tail 13, (by kernel_rfl)
    change wpList _ _ _ _ _ wc.drew
    have HMD : Hid (HpS wc.drew h gg (n + 1) cap ⟨updP s.I n id, updP s.K n key, s.Pl⟩) := ⟨HM.out.hp.p.drew⟩
    have HRD : Hid (RkAt wc.drew g h) := HM.out.rk.drew
    have HUD : Hid (Upd F w wc.drew) := HM.out.u.drew
    generalize wc.drew = wd at HMD HRD HUD ⊢
    have HT := Lib.hid (And.intro HM.out.fg HM.out.fh)
    have hn1 := Lib.hid (show n + 1 ≤ 64 by omega)
    clear hge hce HM HUP
    go_wp2_with (go_at_call 40; refine (up_any HMD.out n (by omega) hn1.out HUP2.out.1 HUP2.out.2).mono ?_; rintro r y ⟨rfl, s', hs'⟩; have HS := Lib.hid hs'; clear hs')
    go_ret
    obtain ⟨hp, hrep, _, hst, hu⟩ := HS.out
    have hne : RkAt y g h := HRD.out.upd hu (by
      rintro (e | e)
      · exact HRD.out.ne_ HMD.out.p.hb (by decide) e
      · obtain ⟨cur, hc, _⟩ := HMD.out.p.row
        exact HRD.out.ne_ hc (by decide) e)
    have hlt : gg < y.heap.size := by
      obtain ⟨cur, hc, _⟩ := hp.p.row
      exact hc.lt
    refine ⟨rfl, s', ⟨hp.toO hne (Or.inl HT.out.2) ?_, hrep, hst trivial, ?_⟩⟩
    · rcases HT.out.1 with h1 | h1
      · exact Or.inl h1
      · exact Or.inr ⟨h1, hlt⟩
    · refine HUD.out.transM hu fun k hk h1 => ?_
      rcases h1 with rfl | rfl
      · exact HT.out.2
      · rcases HT.out.1 with h1 | h1
        · exact h1
        · omega

set_option maxRecDepth 100000 in
set_option maxHeartbeats 4000000 in
theorem first_any {w : World} {F : Nat → Prop} {g h n : Nat} {s : HS} (hp : HpO w F g h n s) :
    Calls Try.prog 32 #[.pointer (some ⟨g, 0, none⟩)] w fun r w' => r = .returned (.tuple #[.int .i64 (if n = 0 then 0 else s.I 0), .int .i64 (if n = 0 then 0 else s.K 0), .bool (decide (n ≠ 0))]) ∧ Below w.heap.size w w' := by
  have HP := Lib.hid hp
  have hge : w.cell? ⟨g, 0, none⟩ = some (.pointer (some ⟨h, 0, none⟩)) := by simpa using hp.rk.cell 0
  by_cases hn : n = 0
  · subst hn
    obtain ⟨v, xs, hb, ho, hF, hx⟩ := hp.row
    have hv : ∃ A c, v = .slice A 0 c := by
      rcases ho.2 with ⟨h1, _⟩ | ⟨gl, cap, cur, rfl, _⟩
      · exact ⟨_, _, h1⟩
      · exact ⟨_, _, rfl⟩
    obtain ⟨A, c, rfl⟩ := hv
    have hce : w.cell? ⟨h, 0, none⟩ = some (.slice A 0 c) := (hb.cell 0).trans (hpA_0 _ _)
    clear hp hb ho hF hx
    go_enter Try.func32, Try.ntmps32
    go_wp2_with (go_at_call 41; refine (rknone_any HP.out.rk).mono ?_; rintro r w1 ⟨rfl, rfl⟩)
    go_ret3
    exact ⟨rfl, Below.refl _ _⟩
  · obtain ⟨gl, cap, _, hS⟩ := hp.toS (by omega)
    have hce : w.cell? ⟨h, 0, none⟩ = some (.slice (some ⟨gl, 0, none⟩) n cap) := (hS.p.hb.cell 0).trans (hpA_0 _ _)
    obtain ⟨c0, c1⟩ := hS.p.cells (i := 0) (by omega)
    simp only [Nat.zero_mul, Nat.zero_add] at c0 c1
    have hz : ((n : Int) == 0) = false := by simp; omega
    have hz2 : (0 : Int) < n := by omega
    have hd : decide (n ≠ 0) = true := by simp [hn]
    rw [if_neg hn, if_neg hn, hd]
    clear hp hS hd
    go_enter Try.func32, Try.ntmps32
    go_wp2_with (go_at_call 41; refine (rknone_any HP.out.rk).mono ?_; rintro r w1 ⟨rfl, rfl⟩)
    go_quiet (fail)
    go_wp2_with fail
    go_ret3
    exact ⟨rfl, belowN (Below.refl _ _) _⟩
end Go.Proofs.Ytbfbahedbfjcoaa
