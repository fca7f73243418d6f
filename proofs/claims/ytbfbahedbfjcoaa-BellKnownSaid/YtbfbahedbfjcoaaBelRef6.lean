/- The document's bells: Arm. -/
import Derived.Test.YtbfbahedbfjcoaaBelRef5
import Derived.Laws.AppendOwnNone
namespace Go.Proofs.Ytbfbahedbfjcoaa
set_option linter.all false
open Go.RowKit
attribute [local go_sem ↓] Go.wp_at_zero Go.wp_at_succ

set_option maxRecDepth 100000 in
set_option maxHeartbeats 2000000 in
theorem rbarm_no (kind id at_ : Int) (gm : Nat) (w : World) (hm : ¬ (MayB kind id ∧ TkB at_)) :
    Calls Try.prog 33 #[.pointer (some ⟨gm, 0, none⟩), .int .i64 kind, .int .i64 id, .int .i64 at_] w fun r w' => r = .returned (.int .i64 (armE kind id at_)) ∧ w = w' := by
  by_cases h1 : MayB kind id
  · have h2 : ¬ TkB at_ := fun h => hm ⟨h1, h⟩
    have he : armE kind id at_ = 2 := by unfold armE; rw [if_pos h1, if_neg h2]
    rw [he]
    have HD := Lib.hid (decide_eq_true h1)
    clear h1 he hm
    by_cases h3 : at_ < 0
    · have hd : decide (at_ < 0) = true := decide_eq_true h3
      clear h2 h3
      go_enter Try.func33, Try.ntmps33
      go_wp2_with (go_at_call 43; refine (there_any kind id _).mono ?_; rintro r w1 ⟨rfl, rfl⟩; rw [HD.out])
      go_ret
      exact ⟨rfl, rfl⟩
    · have hd : decide (at_ < 0) = false := decide_eq_false h3
      have hd2 : decide (at_ > 1099511627776) = true := decide_eq_true (by unfold TkB at h2; omega)
      clear h2 h3
      go_enter Try.func33, Try.ntmps33
      go_wp2_with (go_at_call 43; refine (there_any kind id _).mono ?_; rintro r w1 ⟨rfl, rfl⟩; rw [HD.out])
      go_ret
      exact ⟨rfl, rfl⟩
  · have he : armE kind id at_ = 9 := by unfold armE; rw [if_neg h1]
    rw [he]
    have HD := Lib.hid (decide_eq_false h1)
    clear h1 he hm
    go_enter Try.func33, Try.ntmps33
    go_wp2_with (go_at_call 43; refine (there_any kind id _).mono ?_; rintro r w1 ⟨rfl, rfl⟩; rw [HD.out])
    go_ret
    exact ⟨rfl, rfl⟩

theorem bellC_one (L : BL) : ∀ u, u ∈ bellC L → u.oneCell' = true := by
  induction L with
  | nil => intro u hu; cases hu
  | cons p t ih =>
    intro u hu
    rcases List.mem_cons.1 hu with rfl | hu
    · simp [Value.oneCell']
    rcases List.mem_cons.1 hu with rfl | hu
    · simp [Value.oneCell']
    rcases List.mem_cons.1 hu with rfl | hu
    · simp [Value.oneCell']
    exact ih u hu
theorem brow_news {w x : World} {F : Nat → Prop} {g off n c : Nat} {L : BL} (h : BRow w F (.slice (some ⟨g, off, none⟩) n c) L) (hb : Below w.heap.size w x) (i : Nat) : ∀ (j : Nat) (u : Value), (bellC (L.drop i))[j]? = some u → x.cell? ((⟨g, off + i * 3, none⟩ : Addr).add j) = some u := by
  intro j u hj
  rcases h with ⟨hv, _⟩ | ⟨g1, off1, cap, cur, hv, hFg, hblk, hle, hcap, hcells⟩
  · injection hv with e1 e2 e3; cases e1
  · injection hv with e1 e2 e3
    cases e1
    rw [bellC_drop, List.getElem?_drop] at hj
    have h1 := hcells _ u hj
    have h2 := (hblk.below hb hblk.lt).cell (off + (i * 3 + j))
    rw [h1] at h2
    have hadd : ∀ o q, (⟨g, o, none⟩ : Addr).add q = ⟨g, o + q, none⟩ := fun o q => by
      unfold Addr.add; split <;> simp_all
    rw [hadd, Nat.add_assoc]
    exact h2
theorem OutJ.more {w x3 x4 : World} {v v' : Value} {D R : BL} {k : Nat} (hd : OutJ w x3 v D) (hown : x4.ownsRow w.heap.size 36 3 v' k (bellC D ++ bellC R)) (hk : k = (D ++ R).length) (hu : Upd (fun q => some q = v.ownBlock) x3 x4) : OutJ w x4 v' (D ++ R) := by
  subst hk
  refine ⟨by rw [bellC_app]; exact hown, ?_⟩
  refine hd.b.trans (hu.below hd.b.size fun q hq => ?_)
  rcases hd.own.2 with ⟨h1, _⟩ | ⟨gl, cap, cur, h1, h0, _⟩
  · rw [h1] at hq; simp [Value.ownBlock] at hq
  · rw [h1] at hq
    have : some q = some gl := hq
    cases this
    exact h0
theorem arm_end {w wx x5 : World} {F : Nat → Prop} {gm : Nat} {L I : BL} {v V : Value} (h : RbJ w F gm L) (hu : Upd F w wx) (hb : Below wx.heap.size wx x5) (hw : Blk wx gm 58 #[v]) (hown : x5.ownsRow wx.heap.size 36 3 V I.length (bellC I)) (hok : OkL I) :
    RbJ (x5.setCell ⟨gm, 0, none⟩ V) (growR F w (x5.setCell ⟨gm, 0, none⟩ V)) gm I ∧ Upd F w (x5.setCell ⟨gm, 0, none⟩ V) := by
  have hb5 := hw.below hb hw.lt
  have hbr := brow_own hown
  have s1 := hu.size
  have s2 := hb.size
  refine ⟨⟨Or.inl h.fm, ⟨V, by simpa using hb5.set_ 0 V, (hbr.far hb5 0 V).mono fun k hk => Or.inr ⟨Nat.le_trans s1 hk.1, by simpa [World.setCell] using hk.2⟩⟩, fun k hk => ?_, hok⟩, (hu.transM (Upd.of_below hb) fun k hk hq => absurd hq (by omega)).setCell (p := ⟨gm, 0, none⟩) (fun _ => h.fm) _⟩
  · rcases hk with hk | hk
    · have := h.lt k hk; simp [World.setCell]; omega
    · exact hk.2
set_option maxRecDepth 100000 in
set_option maxHeartbeats 8000000 in
theorem rbarm_yes {w : World} {F : Nat → Prop} {gm : Nat} {L : BL} (h : RbJ w F gm L) (kind id at_ : Int) (hm : MayB kind id) (ht : TkB at_) :
    Calls Try.prog 33 #[.pointer (some ⟨gm, 0, none⟩), .int .i64 kind, .int .i64 id, .int .i64 at_] w fun r w' => r = .returned (.int .i64 0) ∧ RbJ w' (growR F w w') gm (insL (plB kind id, at_) (rmL (plB kind id) L)) ∧ Upd F w w' := by
  have hc := rbcancel h kind id
  have e2 : canL L kind id = rmL (plB kind id) L := by unfold canL; rw [if_pos hm]
  have hok := can_ok h.ok kind id
  rw [e2] at hc hok
  have hgone := rm_gone L (plB kind id)
  obtain ⟨L2, hL2⟩ : ∃ L2, rmL (plB kind id) L = L2 := ⟨_, rfl⟩
  rw [hL2] at hc hok hgone ⊢
  obtain ⟨p, hp⟩ : ∃ p : Nat × Int, (plB kind id, at_) = p := ⟨_, rfl⟩
  rw [hp]
  have HP : Hid (p.1 < 64 ∧ p.2 = at_ ∧ ((p.1 / 16 : Nat) : Int) = kind ∧ ((p.1 % 16 : Nat) : Int) = id ∧ OkL L2 ∧ OkL (insL p L2)) := by
    subst hp
    have h1 := plB_lt hm
    exact ⟨h1, rfl, by unfold plB MayB at *; omega, by unfold plB MayB at *; omega, hok, ins_ok hok h1 hgone⟩
  have HC := Lib.hid hc
  have HH := Lib.hid h
  have HD := Lib.hid (decide_eq_true hm)
  have hd1 : decide (at_ < 0) = false := decide_eq_false (by unfold TkB at ht; omega)
  have hd2 : decide (at_ > 1099511627776) = false := decide_eq_false (by unfold TkB at ht; omega)
  obtain ⟨i0, hi0, hz0, hz1, hz2⟩ := info_parts infoBell
  have HI := Lib.hid (And.intro hi0 (And.intro hz0 (And.intro hz1 hz2)))
  clear h hc e2 hok hgone hL2 hp hm ht hi0 hz0 hz1 hz2
  go_enter Try.func33, Try.ntmps33
  go_wp2_with (first
    | (go_at_call 43; refine (there_any kind id _).mono ?_; rintro r w1 ⟨rfl, rfl⟩; rw [HD.out])
    | (go_at_call 34; refine HC.out.mono ?_; rintro r x1 ⟨rfl, hj, hu⟩; have HJ1 := Lib.hid hj; have HU1 := Lib.hid hu; clear hj hu))
  have hblk := Blk.new x1 36 #[.int .i64 at_, .int .i64 kind, .int .i64 id]
  have hux : Upd (fun _ => False) x1 (x1.alloc (.cells #[.int .i64 at_, .int .i64 kind, .int .i64 id] 36)) := (Upd.refl _ _).alloc _
  have hjx := HJ1.out.upd hux (fun _ h => h.elim)
  have hUx := HU1.out.trans (hux.mono (fun _ h => h.elim))
  obtain ⟨gx, hgx⟩ : ∃ g, x1.heap.size = g := ⟨_, rfl⟩
  rw [hgx] at hblk ⊢
  have HX := Lib.hid (And.intro hjx (And.intro hUx hblk))
  clear hjx hUx hblk hux
  generalize (x1.alloc (.cells #[.int .i64 at_, .int .i64 kind, .int .i64 id] 36)) = wx at HX ⊢
  obtain ⟨v, hv1, hv2⟩ := HX.out.1.ex
  obtain ⟨A, c, rfl⟩ := hv2.sl
  obtain ⟨n, hn⟩ : ∃ n, L2.length = n := ⟨_, rfl⟩
  rw [hn] at hv1 hv2
  have HN := Lib.hid (And.intro hn (ok_len HP.out.2.2.2.2.1))
  have HV := Lib.hid (And.intro hv1 hv2)
  clear hn hv1 hv2
  go_wp2_with fail
  go_loopw [10, 11] (fun v vi wr => ∃ i : Nat, i ≤ n ∧ vi = .int .i64 (i : Int) ∧ Hid (OutJ wx wr v (L2.take i) ∧ ∀ q, q ∈ L2.take i → ltB q p)) (fun _ vi _ => n - (intOf vi).toNat)
  case atStart => exact ⟨0, by omega, rfl, ⟨World.ownsRow_nil _ _ _ _, Below.refl _ _⟩, fun p hp => (by cases hp)⟩
  case round =>
    obtain ⟨i, hi, rfl, HO⟩ := hrel
    have hx0 : (0 : Int) ≤ i := by omega
    have w1 : IntKind.i64.wrap ((i : Int) + 1) = (i : Int) + 1 := IntWalk.i64_in _ (by have := HN.out; omega)
    have c1 : wr.cell? ⟨gm, 0, none⟩ = some (.slice A n c) := (HO.out.1.b.cell (p := ⟨gm, 0, none⟩) HV.out.1.lt).trans (HV.out.1.cell 0)
    have HBr := Lib.hid (HV.out.1.below HO.out.1.b HV.out.1.lt)
    have HBX := Lib.hid (HX.out.2.2.below HO.out.1.b HX.out.2.2.lt)
    have t0 : wr.cell? ⟨gx, 0, none⟩ = some (.int .i64 at_) := HBX.out.cell 0
    have t1 : wr.cell? ⟨gx, 1, none⟩ = some (.int .i64 kind) := HBX.out.cell 1
    have t2 : wr.cell? ⟨gx, 2, none⟩ = some (.int .i64 id) := HBX.out.cell 2
    obtain ⟨m, hm⟩ : ∃ m, (L2.take i).length = m := ⟨_, rfl⟩
    have hmi : m = i := by rw [← hm, List.length_take]; have := HN.out; omega
    have HMI := Lib.hid (And.intro hm hmi)
    have H63 : Hid (m + 1 ≤ maxLen ∧ (m + 1) * 24 ≤ 140737488355328) := by
      have := HN.out
      exact ⟨by unfold maxLen; omega, by omega⟩
    clear hm hmi
    by_cases hin : i < n
    · have hx1 : (i : Int) < n := by omega
      obtain ⟨g, off, cap, q, hv, hFg, hp, y0, y1, y2, hcap⟩ := HV.out.2.at_ i (by have := HN.out; omega)
      injection hv with hA hnn hc
      subst hA hc
      clear hnn
      have hglt := HX.out.1.lt g hFg
      rw [← HO.out.1.b.cell (p := ⟨g, off + i * 3, none⟩) hglt] at y0
      rw [← HO.out.1.b.cell (p := ⟨g, off + i * 3 + 1, none⟩) hglt] at y1
      rw [← HO.out.1.b.cell (p := ⟨g, off + i * 3 + 2, none⟩) hglt] at y2
      have hah : decide (ahI q.2 ((q.1 / 16 : Nat) : Int) ((q.1 % 16 : Nat) : Int) at_ kind id) = decide (ltB q p) := by
        rw [decide_eq_decide, ← ahI_lt, HP.out.2.1, HP.out.2.2.1, HP.out.2.2.2.1]
      obtain ⟨a, ha⟩ : ∃ a : Int, ((q.1 / 16 : Nat) : Int) = a := ⟨_, rfl⟩
      obtain ⟨b, hb⟩ : ∃ a : Int, ((q.1 % 16 : Nat) : Int) = a := ⟨_, rfl⟩
      obtain ⟨k, hk⟩ : ∃ k, q.2 = k := ⟨_, rfl⟩
      rw [hk, ha, hb] at hah
      rw [hk] at y0
      rw [ha] at y1
      rw [hb] at y2
      have hdr : L2.drop i = q :: L2.drop (i + 1) := by
        rw [List.drop_eq_getElem_cons (by have := HN.out; omega)]
        rw [List.getElem?_eq_getElem (by have := HN.out; omega)] at hp
        injection hp with hp
        rw [hp]
      have HDR := Lib.hid hdr
      have htk : L2.take (i + 1) = L2.take i ++ [q] := by rw [List.take_add_one, hp]; rfl
      have HTK := Lib.hid htk
      have HAB := Lib.hid (And.intro hk (And.intro ha hb))
      have HGL := Lib.hid (And.intro hglt (And.intro hcap HBX.out.lt))
      have HY := Lib.hid (And.intro c1 (And.intro y0 (And.intro y1 (And.intro y2 (And.intro t0 (And.intro t1 t2))))))
      have hcells : ∀ w' : World, Below wr.heap.size wr w' → w'.cell? ⟨gm, 0, none⟩ = some (.slice (some ⟨g, off, none⟩) n c) ∧ w'.cell? ⟨g, off + i * 3, none⟩ = some (.int .i64 k) ∧ w'.cell? ⟨g, off + i * 3 + 1, none⟩ = some (.int .i64 a) ∧ w'.cell? ⟨g, off + i * 3 + 2, none⟩ = some (.int .i64 b) ∧ w'.cell? ⟨gx, 0, none⟩ = some (.int .i64 at_) ∧ w'.cell? ⟨gx, 1, none⟩ = some (.int .i64 kind) ∧ w'.cell? ⟨gx, 2, none⟩ = some (.int .i64 id) := fun w' hb => by
        have hgr : g < wr.heap.size := Nat.lt_of_lt_of_le HGL.out.1 HO.out.1.b.size
        have hgmr : gm < wr.heap.size := HBr.out.lt
        have hgxr : gx < wr.heap.size := HBX.out.lt
        obtain ⟨z0, z1, z2, z3, z4, z5, z6⟩ := HY.out
        exact ⟨(hb.cell (p := ⟨gm, 0, none⟩) hgmr).trans z0, (hb.cell (p := ⟨g, _, none⟩) hgr).trans z1, (hb.cell (p := ⟨g, _, none⟩) hgr).trans z2, (hb.cell (p := ⟨g, _, none⟩) hgr).trans z3, (hb.cell (p := ⟨gx, 0, none⟩) hgxr).trans z4, (hb.cell (p := ⟨gx, 1, none⟩) hgxr).trans z5, (hb.cell (p := ⟨gx, 2, none⟩) hgxr).trans z6⟩
      have HCE := Lib.hid hcells
      have hn1 : decide (i < n) = true := decide_eq_true hin
      have hn2 : decide ((i : Int) < (n : Int)) = true := decide_eq_true hx1
      clear hp htk ha hb hk hglt hFg hdr hcells hcap
      by_cases hlt : ltB q p
      · rw [decide_eq_true hlt] at hah
        have HAH := Lib.hid (And.intro hah hlt)
        clear hah hlt
        go_wp2_with fail
        go_region_held3 (fun w' => w'.cell? ⟨gm, 0, none⟩ = some (.slice (some ⟨g, off, none⟩) n c) ∧ w'.cell? ⟨g, off + i * 3, none⟩ = some (.int .i64 k) ∧ w'.cell? ⟨g, off + i * 3 + 1, none⟩ = some (.int .i64 a) ∧ w'.cell? ⟨g, off + i * 3 + 2, none⟩ = some (.int .i64 b) ∧ w'.cell? ⟨gx, 0, none⟩ = some (.int .i64 at_) ∧ w'.cell? ⟨gx, 1, none⟩ = some (.int .i64 kind) ∧ w'.cell? ⟨gx, 2, none⟩ = some (.int .i64 id)) (first | go_keep | (exact E1.out))
          (first | (go_at_call 44; refine (rahead_any _ _ _ _ _ _ _).mono ?_; rintro r x2 ⟨rfl, hb⟩; rw [HAH.out.1]
                    have HX2 : Hid (Below wr.heap.size wr x2) := (Below.refl wr.heap.size wr).drew.trans hb
                    have E1 := Lib.hid (HCE.out x2 HX2.out)
                    clear hb))
        obtain ⟨z0, z1, z2, z3, z4, z5, z6⟩ := E1.out
        clear c1 y0 y1 y2 t0 t1 t2
        have HOJ := Lib.hid (HO.out.1.keep HX2.out)
        have HOW := Lib.hid HOJ.out.own
        rw [HMI.out.1] at HOW
        have HOA := Lib.hid (own_belowB HOW.out ((Below.refl x2.heap.size x2).alloc (Nat.le_refl _) (.cells #[.int .i64 k, .int .i64 a, .int .i64 b] 36)))
        have HSZ := Lib.hid HOJ.out.b.size
        go_wp2_with (first
            | (at_builtin
               refine wpList_append_lies _ (by rfl) _ _ 33 (by rfl) wx.heap.size 36 i0 _ 3 24 Try.underlying33 HI.out.1 HI.out.2.1 HI.out.2.2.1 HI.out.2.2.2 bellCells (by decide) u10 m (bellC (L2.take i)) (by rfl) HOA.out ⟨x2.heap.size, 0, none⟩ 1 1 [.int .i64 k, .int .i64 a, .int .i64 b] (by rfl) (by rfl) (World.news_of_block (cs := #[.int .i64 k, .int .i64 a, .int .i64 b]) (t := 36) (fr := (0, 0)) (heap_alloc_new x2 _)) (by simp [Value.oneCell']) (by decide) H63.out.1 H63.out.2 (by have := HSZ.out; simp; omega) (x2.heap.size + 1) (by simp) ?_
               intro g3 cap3 x3 hown1 hgrow hat hlt1
               have hu3 : Upd (fun q => some q = u10.ownBlock) x2 x3 := ((Upd.refl _ x2).alloc (.cells #[.int .i64 k, .int .i64 a, .int .i64 b] 36)).trans ⟨hgrow.os, hgrow.tape, hgrow.output, hgrow.size, fun k hk hn => hgrow.block k hk (fun e => hn e)⟩
               rw [← HMI.out.1] at hown1
               have HO3 := Lib.hid (HOJ.out.snoc (p := q) HAB.out.1 HAB.out.2.1 HAB.out.2.2 hown1 hu3)
               clear hown1 hgrow hat hlt1 hu3))
        have HO4 := HO3
        rw [HMI.out.1] at HO4
        refine ⟨⟨i + 1, by omega, by go_num, (by rw [HTK.out]; exact HO4.out), fun q' hq => ?_⟩, by simp [intOf]; try omega⟩
        rw [HTK.out] at hq
        rcases List.mem_append.1 hq with h6 | h6
        · exact HO.out.2 q' h6
        · rcases List.mem_cons.1 h6 with rfl | h6
          · exact HAH.out.2
          · cases h6
      · rw [decide_eq_false hlt] at hah
        have HAH := Lib.hid (And.intro hah hlt)
        clear hah hlt
        go_wp2_with fail
        go_region_held3 (fun w' => w'.cell? ⟨gm, 0, none⟩ = some (.slice (some ⟨g, off, none⟩) n c) ∧ w'.cell? ⟨g, off + i * 3, none⟩ = some (.int .i64 k) ∧ w'.cell? ⟨g, off + i * 3 + 1, none⟩ = some (.int .i64 a) ∧ w'.cell? ⟨g, off + i * 3 + 2, none⟩ = some (.int .i64 b) ∧ w'.cell? ⟨gx, 0, none⟩ = some (.int .i64 at_) ∧ w'.cell? ⟨gx, 1, none⟩ = some (.int .i64 kind) ∧ w'.cell? ⟨gx, 2, none⟩ = some (.int .i64 id)) (first | go_keep | (exact E1.out))
          (first | (go_at_call 44; refine (rahead_any _ _ _ _ _ _ _).mono ?_; rintro r x2 ⟨rfl, hb⟩; rw [HAH.out.1]
                    have HX2 : Hid (Below wr.heap.size wr x2) := (Below.refl wr.heap.size wr).drew.trans hb
                    have E1 := Lib.hid (HCE.out x2 HX2.out)
                    clear hb))
        obtain ⟨z0, -, -, -, z4, z5, z6⟩ := E1.out
        clear c1 y0 y1 y2 t0 t1 t2
        have HOJ := Lib.hid (HO.out.1.keep HX2.out)
        have HOW := Lib.hid HOJ.out.own
        rw [HMI.out.1] at HOW
        have HOA := Lib.hid (own_belowB HOW.out ((Below.refl x2.heap.size x2).alloc (Nat.le_refl _) (.cells #[.int .i64 at_, .int .i64 kind, .int .i64 id] 36)))
        have HSZ := Lib.hid HOJ.out.b.size
        have T1 := Lib.hid True.intro
        have hnc : (n : Int) ≤ c := by have := HGL.out.2.1; have := HN.out; omega
        have hic : i < c := by have := HGL.out.2.1; have := HN.out; omega
        have hwn : (i : Int) ≤ n := by omega
        have HL2 := Lib.hid (And.intro hin hwn)
        go_wp2_with (first
            | (at_builtin
               have _tk := T1
               refine wpList_append_lies _ (by rfl) _ _ 33 (by rfl) wx.heap.size 36 i0 _ 3 24 Try.underlying33 HI.out.1 HI.out.2.1 HI.out.2.2.1 HI.out.2.2.2 bellCells (by decide) u10 m (bellC (L2.take i)) (by rfl) HOA.out ⟨x2.heap.size, 0, none⟩ 1 1 [.int .i64 at_, .int .i64 kind, .int .i64 id] (by rfl) (by rfl) (World.news_of_block (cs := #[.int .i64 at_, .int .i64 kind, .int .i64 id]) (t := 36) (fr := (0, 0)) (heap_alloc_new x2 _)) (by simp [Value.oneCell']) (by decide) H63.out.1 H63.out.2 (by have := HSZ.out; simp; omega) (x2.heap.size + 1) (by simp) ?_
               intro g3 cap3 x3 hown1 hgrow hat hlt1
               have hu3 : Upd (fun q => some q = u10.ownBlock) x2 x3 := ((Upd.refl _ x2).alloc (.cells #[.int .i64 at_, .int .i64 kind, .int .i64 id] 36)).trans ⟨hgrow.os, hgrow.tape, hgrow.output, hgrow.size, fun k hk hn => hgrow.block k hk (fun e => hn e)⟩
               rw [← HMI.out.1] at hown1
               have HO3 := Lib.hid (HOJ.out.snoc (p := p) HP.out.2.1 HP.out.2.2.1 HP.out.2.2.2.1 hown1 hu3)
               rw [HMI.out.1] at HO3
               have HOB := Lib.hid HO3.out.own
               rw [List.length_append, HMI.out.1] at HOB
               have HB3 := Lib.hid (HV.out.1.below HO3.out.b HV.out.1.lt)
               have z3 : x3.cell? ⟨gm, 0, none⟩ = some (.slice (some ⟨g, off, none⟩) n c) := HB3.out.cell 0
               have f3 : x3.frozen? ⟨gm, 0, none⟩ = false := HB3.out.frozen 0
               clear hown1 hgrow hat hlt1 hu3 T1 _tk z0 z4 z5 z6)
            | (at_builtin
               refine wpList_append_lies _ (by rfl) _ _ 33 (by rfl) wx.heap.size 36 i0 _ 3 24 Try.underlying33 HI.out.1 HI.out.2.1 HI.out.2.2.1 HI.out.2.2.2 bellCells (by decide) (.slice (some ⟨g3, 0, none⟩) (m + 1) cap3) (m + 1) (bellC (L2.take i ++ [p])) (by rfl) HOB.out ⟨g, off + i * 3, none⟩ (n - i) (c - i) (bellC (L2.drop i)) (by rfl) (by rw [bellC_len, List.length_drop, HN.out.1]) (brow_news HV.out.2 HO3.out.b i) (bellC_one _) (by have := HL2.out.1; omega) (by have := HMI.out; have := HN.out; unfold maxLen; omega) (by have := HMI.out; have := HN.out; omega) (by have := HO3.out.b.size; omega) x3.heap.size rfl ?_
               intro g4 cap4 x4 hown2 hgrow hat hlt1
               have hu4 : Upd (fun q => some q = (Value.slice (some ⟨g3, 0, none⟩) (m + 1) cap3).ownBlock) x3 x4 := ⟨hgrow.os, hgrow.tape, hgrow.output, hgrow.size, fun k hk hn => hgrow.block k hk (fun e => hn e)⟩
               have HO4 := Lib.hid (HO3.out.more hown2 (by rw [List.length_append, List.length_append, List.length_drop, HMI.out.1, HN.out.1]; rfl) hu4)
               have z7 : x4.cell? ⟨gm, 0, none⟩ = some (.slice (some ⟨g, off, none⟩) n c) := (HV.out.1.below HO4.out.b HV.out.1.lt).cell 0
               have f4 : x4.frozen? ⟨gm, 0, none⟩ = false := (HV.out.1.below HO4.out.b HV.out.1.lt).frozen 0
               clear hown2 hgrow hat hlt1 hu4 z3 f3))
        go_ret
        have hins : insL p L2 = L2.take i ++ [p] ++ L2.drop i := by
          have := ins_split (p := p) (D := L2.take i) (R := L2.drop i) HO.out.2 (fun q' t e => by rw [HDR.out] at e; injection e with e _; rw [← e]; exact HAH.out.2)
          rw [List.take_append_drop] at this
          rw [this, List.append_assoc]
          rfl
        have hfin := HO4.out.own
        rw [← hins] at hfin
        have hln : m + 1 + (n - i) = (insL p L2).length := by rw [hins, List.length_append, List.length_append, List.length_drop, HMI.out.1, HN.out.1]; rfl
        obtain ⟨k1, k2⟩ := arm_end HH.out HX.out.2.1 HO4.out.b HV.out.1 hfin HP.out.2.2.2.2.2
        exact ⟨rfl, k1, k2⟩
    · obtain rfl : i = n := by omega
      have hn1 : decide (i < i) = false := decide_eq_false (by omega)
      go_wp2_with fail
      go_quiet (fail)
      have HX2 : Hid (Below wr.heap.size wr (wr.drewN nq)) := belowN (Below.refl _ _) nq
      have E1 : Hid ((wr.drewN nq).cell? ⟨gm, 0, none⟩ = some (.slice A i c) ∧ (wr.drewN nq).cell? ⟨gx, 0, none⟩ = some (.int .i64 at_) ∧ (wr.drewN nq).cell? ⟨gx, 1, none⟩ = some (.int .i64 kind) ∧ (wr.drewN nq).cell? ⟨gx, 2, none⟩ = some (.int .i64 id)) := ⟨c1, t0, t1, t2⟩
      generalize (wr.drewN nq) = x2 at HX2 E1 ⊢
      obtain ⟨z0, z4, z5, z6⟩ := E1.out
      clear c1 t0 t1 t2
      have HOJ := Lib.hid (HO.out.1.keep HX2.out)
      have HOW := Lib.hid HOJ.out.own
      rw [HMI.out.1] at HOW
      have HOA := Lib.hid (own_belowB HOW.out ((Below.refl x2.heap.size x2).alloc (Nat.le_refl _) (.cells #[.int .i64 at_, .int .i64 kind, .int .i64 id] 36)))
      have HSZ := Lib.hid HOJ.out.b.size
      have T1 := Lib.hid True.intro
      have hins : insL p L2 = L2.take i ++ [p] := by
        have := ins_split (p := p) (D := L2.take i) (R := []) HO.out.2 (fun q' t e => by cases e)
        rw [List.append_nil, List.take_of_length_le (by have := HN.out; omega)] at this
        rw [List.take_of_length_le (by have := HN.out; omega)]
        exact this
      have HINS := Lib.hid hins
      clear hins
      rcases HV.out.2 with ⟨hv, hL0⟩ | ⟨g, off, cap, cur, hv, hFg, hblk, hle, hcap, hcells⟩
      · injection hv with e1 e2 e3
        subst e1 e2 e3
        clear hL0
        go_wp2_with (first
            | (at_builtin
               have _tk := T1
               refine wpList_append_lies _ (by rfl) _ _ 33 (by rfl) wx.heap.size 36 i0 _ 3 24 Try.underlying33 HI.out.1 HI.out.2.1 HI.out.2.2.1 HI.out.2.2.2 bellCells (by decide) u10 m (bellC (L2.take 0)) (by rfl) HOA.out ⟨x2.heap.size, 0, none⟩ 1 1 [.int .i64 at_, .int .i64 kind, .int .i64 id] (by rfl) (by rfl) (World.news_of_block (cs := #[.int .i64 at_, .int .i64 kind, .int .i64 id]) (t := 36) (fr := (0, 0)) (heap_alloc_new x2 _)) (by simp [Value.oneCell']) (by decide) H63.out.1 H63.out.2 (by have := HSZ.out; simp; omega) (x2.heap.size + 1) (by simp) ?_
               intro g3 cap3 x3 hown1 hgrow hat hlt1
               have hu3 : Upd (fun q => some q = u10.ownBlock) x2 x3 := ((Upd.refl _ x2).alloc (.cells #[.int .i64 at_, .int .i64 kind, .int .i64 id] 36)).trans ⟨hgrow.os, hgrow.tape, hgrow.output, hgrow.size, fun k hk hn => hgrow.block k hk (fun e => hn e)⟩
               rw [← HMI.out.1] at hown1
               have HO3 := Lib.hid (HOJ.out.snoc (p := p) HP.out.2.1 HP.out.2.2.1 HP.out.2.2.2.1 hown1 hu3)
               rw [HMI.out.1] at HO3
               have HOB := Lib.hid HO3.out.own
               rw [List.length_append, HMI.out.1] at HOB
               have HB3 := Lib.hid (HV.out.1.below HO3.out.b HV.out.1.lt)
               have z3 : x3.cell? ⟨gm, 0, none⟩ = some (.slice none 0 0) := HB3.out.cell 0
               have f3 : x3.frozen? ⟨gm, 0, none⟩ = false := HB3.out.frozen 0
               clear hown1 hgrow hat hlt1 hu3 T1 _tk z0 z4 z5 z6)
            | (at_builtin; refine wpList_append_own_zero (by rfl) _ _ 33 (by rfl) wx.heap.size 36 i0 3 Try.underlying33 HI.out.1 (.slice (some ⟨g3, 0, none⟩) (m + 1) cap3) (m + 1) (bellC (L2.take 0 ++ [p])) (by rfl) HOB.out none 0 (by rfl) ?_))
        go_ret
        have hfin := HO3.out.own
        rw [← HINS.out] at hfin
        obtain ⟨k1, k2⟩ := arm_end HH.out HX.out.2.1 HO3.out.b HV.out.1 hfin HP.out.2.2.2.2.2
        exact ⟨rfl, k1, k2⟩
      · injection hv with e1 e2 e3
        subst e1
        have hnc : (i : Int) ≤ c := by omega
        clear hFg hblk hle hcap hcells e2 e3
        by_cases hci : c ≤ i
        · obtain rfl : i = c := by omega
          clear hci hnc
          go_wp2_with (first
              | (at_builtin
                 have _tk := T1
                 refine wpList_append_lies _ (by rfl) _ _ 33 (by rfl) wx.heap.size 36 i0 _ 3 24 Try.underlying33 HI.out.1 HI.out.2.1 HI.out.2.2.1 HI.out.2.2.2 bellCells (by decide) u10 m (bellC (L2.take i)) (by rfl) HOA.out ⟨x2.heap.size, 0, none⟩ 1 1 [.int .i64 at_, .int .i64 kind, .int .i64 id] (by rfl) (by rfl) (World.news_of_block (cs := #[.int .i64 at_, .int .i64 kind, .int .i64 id]) (t := 36) (fr := (0, 0)) (heap_alloc_new x2 _)) (by simp [Value.oneCell']) (by decide) H63.out.1 H63.out.2 (by have := HSZ.out; simp; omega) (x2.heap.size + 1) (by simp) ?_
                 intro g3 cap3 x3 hown1 hgrow hat hlt1
                 have hu3 : Upd (fun q => some q = u10.ownBlock) x2 x3 := ((Upd.refl _ x2).alloc (.cells #[.int .i64 at_, .int .i64 kind, .int .i64 id] 36)).trans ⟨hgrow.os, hgrow.tape, hgrow.output, hgrow.size, fun k hk hn => hgrow.block k hk (fun e => hn e)⟩
                 rw [← HMI.out.1] at hown1
                 have HO3 := Lib.hid (HOJ.out.snoc (p := p) HP.out.2.1 HP.out.2.2.1 HP.out.2.2.2.1 hown1 hu3)
                 rw [HMI.out.1] at HO3
                 have HOB := Lib.hid HO3.out.own
                 rw [List.length_append, HMI.out.1] at HOB
                 have HB3 := Lib.hid (HV.out.1.below HO3.out.b HV.out.1.lt)
                 have z3 : x3.cell? ⟨gm, 0, none⟩ = some (.slice (some ⟨g, off, none⟩) i i) := HB3.out.cell 0
                 have f3 : x3.frozen? ⟨gm, 0, none⟩ = false := HB3.out.frozen 0
                 clear hown1 hgrow hat hlt1 hu3 T1 _tk z0 z4 z5 z6)
              | (at_builtin; refine wpList_append_own_zero (by rfl) _ _ 33 (by rfl) wx.heap.size 36 i0 3 Try.underlying33 HI.out.1 (.slice (some ⟨g3, 0, none⟩) (m + 1) cap3) (m + 1) (bellC (L2.take i ++ [p])) (by rfl) HOB.out (some ⟨g, off, none⟩) 0 (by rfl) ?_))
          go_ret
          have hfin := HO3.out.own
          rw [← HINS.out] at hfin
          obtain ⟨k1, k2⟩ := arm_end HH.out HX.out.2.1 HO3.out.b HV.out.1 hfin HP.out.2.2.2.2.2
          exact ⟨rfl, k1, k2⟩
        · have hic : i < c := by omega
          clear hci
          go_wp2_with (first
              | (at_builtin
                 have _tk := T1
                 refine wpList_append_lies _ (by rfl) _ _ 33 (by rfl) wx.heap.size 36 i0 _ 3 24 Try.underlying33 HI.out.1 HI.out.2.1 HI.out.2.2.1 HI.out.2.2.2 bellCells (by decide) u10 m (bellC (L2.take i)) (by rfl) HOA.out ⟨x2.heap.size, 0, none⟩ 1 1 [.int .i64 at_, .int .i64 kind, .int .i64 id] (by rfl) (by rfl) (World.news_of_block (cs := #[.int .i64 at_, .int .i64 kind, .int .i64 id]) (t := 36) (fr := (0, 0)) (heap_alloc_new x2 _)) (by simp [Value.oneCell']) (by decide) H63.out.1 H63.out.2 (by have := HSZ.out; simp; omega) (x2.heap.size + 1) (by simp) ?_
                 intro g3 cap3 x3 hown1 hgrow hat hlt1
                 have hu3 : Upd (fun q => some q = u10.ownBlock) x2 x3 := ((Upd.refl _ x2).alloc (.cells #[.int .i64 at_, .int .i64 kind, .int .i64 id] 36)).trans ⟨hgrow.os, hgrow.tape, hgrow.output, hgrow.size, fun k hk hn => hgrow.block k hk (fun e => hn e)⟩
                 rw [← HMI.out.1] at hown1
                 have HO3 := Lib.hid (HOJ.out.snoc (p := p) HP.out.2.1 HP.out.2.2.1 HP.out.2.2.2.1 hown1 hu3)
                 rw [HMI.out.1] at HO3
                 have HOB := Lib.hid HO3.out.own
                 rw [List.length_append, HMI.out.1] at HOB
                 have HB3 := Lib.hid (HV.out.1.below HO3.out.b HV.out.1.lt)
                 have z3 : x3.cell? ⟨gm, 0, none⟩ = some (.slice (some ⟨g, off, none⟩) i c) := HB3.out.cell 0
                 have f3 : x3.frozen? ⟨gm, 0, none⟩ = false := HB3.out.frozen 0
                 clear hown1 hgrow hat hlt1 hu3 T1 _tk z0 z4 z5 z6)
              | (at_builtin; refine wpList_append_own_zero (by rfl) _ _ 33 (by rfl) wx.heap.size 36 i0 3 Try.underlying33 HI.out.1 (.slice (some ⟨g3, 0, none⟩) (m + 1) cap3) (m + 1) (bellC (L2.take i ++ [p])) (by rfl) HOB.out (some ⟨g, off + i * 3, none⟩) (c - i) (by rfl) ?_))
          go_ret
          have hfin := HO3.out.own
          rw [← HINS.out] at hfin
          obtain ⟨k1, k2⟩ := arm_end HH.out HX.out.2.1 HO3.out.b HV.out.1 hfin HP.out.2.2.2.2.2
          exact ⟨rfl, k1, k2⟩
end Go.Proofs.Ytbfbahedbfjcoaa
