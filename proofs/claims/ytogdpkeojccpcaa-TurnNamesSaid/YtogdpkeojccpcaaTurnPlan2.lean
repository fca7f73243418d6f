/- The walk of the document's Plan. -/
import Derived.Test.YtogdpkeojccpcaaTurnPlan
import Derived.Test.YtogdpkeojccpcaaPurseRef2
namespace Go.Proofs.Ytogdpkeojccpcaa
set_option linter.all false
open Go.RowKit
attribute [local go_sem ↓] Go.wp_at_zero Go.wp_at_succ

theorem rwho_none {w : World} {A : Option Addr} {n c : Nat} {vs : Nat → Value} {f : Nat → SlotV} (h : RowR w A n vs f) (h4 : n ≤ 4) (hw : whoF f n = none) :
    Calls Try.prog 50 #[.slice A n c] w fun r w' => r = .returned (.tuple #[.int .i64 0, .bool false]) ∧ Below w.heap.size w w' := by
  have := rwho_any h (c := c)
  rw [show min n 4 = n from by omega, hw] at this
  exact this
theorem rwho_some {w : World} {A : Option Addr} {n c : Nat} {vs : Nat → Value} {f : Nat → SlotV} (j : Nat) (h : RowR w A n vs f) (h4 : n ≤ 4) (hw : whoF f n = some j) :
    Calls Try.prog 50 #[.slice A n c] w fun r w' => r = .returned (.tuple #[.int .i64 (j : Nat), .bool true]) ∧ Below w.heap.size w w' := by
  have := rwho_any h (c := c)
  rw [show min n 4 = n from by omega, hw] at this
  exact this
theorem rnew_put {w wr : World} {gp m : Nat} {σ : Nat → Option PS} {gs : Nat → Nat} {vo : Value} {kk : Nat} {l : List Int} {j : Nat} {cv : Value} {p b : Int} {k : Int} (h : PlO RfP 52 w wr gp m (k + 1) σ gs vo kk l) (hj : j < m) (hok : OkP p b) (hp : I64 p) (hk0 : 0 ≤ k) (hk : k ≤ 1000)
    (hc : wr.cell? ⟨gp, j, none⟩ = some cv) :
    Calls Try.prog 35 #[.int .i64 p, .int .i64 b, .int .i64 k] wr fun r x1 => ∃ g, r = .returned (.tuple #[.pointer (some ⟨g, 0, none⟩), .int .i64 0]) ∧ NewMid RfP 52 w x1 gp m (k + 1) σ gs vo kk l j g (newS p b k) cv ∧ Below wr.heap.size wr x1 := by
  refine (rnew_any p b k wr hp ⟨by omega, by omega⟩).mono ?_
  rintro r x1 ⟨a, rfl, hb, -, hq⟩
  have he := newE_at hok hk0 hk
  obtain ⟨g, hg, rfl, hq1⟩ := hq he
  have hn := h.put (i := j) rfp_lies (by decide) (by decide) hb hg hq1 ((GoodS.new hok hk0).mono (by omega))
  have hq2 := (hn.pl.q j hj _ (updO_at _ _ _)).1
  have hup : updN gs j g j = g := if_pos rfl
  rw [hup] at hq2
  exact ⟨g, by rw [he], ⟨hn, hq2, (hb.cell (p := ⟨gp, j, none⟩) h.pl.row.lt).trans hc, (hb.frozen (p := ⟨gp, j, none⟩) h.pl.row.lt).trans (h.pl.row.frozen j)⟩, hb⟩
/-- A purse has looked whether its period ends. -/
theorem rturn_pl {w wr : World} {gp m : Nat} {σ : Nat → Option PS} {gs : Nat → Nat} {vo : Value} {kk : Nat} {l : List Int} {j g : Nat} {s : PS} {k t : Int} (h : PlO RfP 52 w wr gp m t σ gs vo kk l) (hj : j < m) (hs : σ j = some s) (hg : gs j = g) (hgs : GoodS t (turnS s k)) (ht : t ≤ 2000) :
    Calls Try.prog 37 #[.pointer (some ⟨g, 0, none⟩), .int .i64 k] wr fun r x1 => r = .returned (.tuple #[.bool (turnB s k), .int .i64 (turnE s k)]) ∧ PlO RfP 52 w x1 gp m t (updO σ j (some (turnS s k))) gs vo kk l := by
  subst hg
  obtain ⟨h1, h2, _⟩ := h.pl.q j hj s hs
  refine (rturn_any k h1 (h2.pok ht) (by decide) (by decide)).mono ?_
  rintro r x1 ⟨rfl, hq, hu⟩
  exact ⟨rfl, h.turn rfp_lies (by decide) (by decide) hj hs hu hq hgs⟩

theorem rcharge_pl {w wr : World} {gp m : Nat} {σ : Nat → Option PS} {gs : Nat → Nat} {vo : Value} {kk : Nat} {l : List Int} {j : Nat} {s : PS} {t : Int} (h : PlO RfP 52 w wr gp m t σ gs vo kk l) (hj : j < m) (hs : σ j = some s) :
    Calls Try.prog 36 #[.pointer (some ⟨gs j, 0, none⟩)] wr fun r x1 => r = .returned (.int .i64 (chargeE s)) ∧ PlO RfP 52 w x1 gp m t (updO σ j (some (chargeS s))) gs vo kk l := by
  obtain ⟨h1, h2, _⟩ := h.pl.q j hj s hs
  refine (rcharge_any h1 h2.l).mono ?_
  rintro r x1 ⟨rfl, hq, hu⟩
  exact ⟨rfl, h.turn rfp_lies (by decide) (by decide) hj hs hu hq h2.charge⟩

set_option maxRecDepth 100000 in
set_option maxHeartbeats 16000000 in
theorem rplan_any {w : World} {A A2 : Option Addr} {m mb : Nat} {P B S : Nat → Int} (h : Pts w A m P B) (hI : ∀ i, i < m → I64 (P i) ∧ I64 (B i)) (h2 : IntsW w A2 mb S) (c c2 : Nat) (n : Int) :
    Calls Try.prog 46 #[.slice A m c, .slice A2 mb c2, .int .i64 n] w fun r w' => PlanPost P B S m mb n w r w' ∧ Below w.heap.size w w' := by
  have H1 := Lib.hid h
  have HI := Lib.hid hI
  have H2 := Lib.hid h2
  clear h hI h2
  by_cases hE : AskIs P B S m mb n 0
  · obtain ⟨hm4, hn0, hn1, hmb, hok⟩ : m ≤ 4 ∧ 0 ≤ n ∧ n ≤ 1000 ∧ mb = m ∧ AskOk P B S m := by
      rcases hE with ⟨h, _⟩ | ⟨h, ⟨h1, _⟩ | ⟨_, h1, h2⟩⟩
      · cases h
      · cases h1
      · exact ⟨h.1, h.2.1, h.2.2, h1, h2⟩
    subst hmb
    obtain ⟨N, rfl⟩ : ∃ N : Nat, n = N := ⟨n.toNat, by omega⟩
    have HE := Lib.hid hE
    have HOK := Lib.hid hok
    obtain ⟨Z, hrd⟩ := H1.out.rd
    have HRD := Lib.hid hrd
    clear hrd
    have hmk1 := run_make_row' (P := Try.prog) 73 52 (.pointer none) 8 Try.underlying73 infoRP rfl .i64 .i64 mb (by omega) (by omega)
    have hx : (N : Int) ≤ 1000 := hn1
    have hx' : (0 : Int) ≤ N := by omega
    clear hE hok hn0 hn1
    go_enter Try.func46, Try.ntmps46
    go_wp2_with (go_at_call 62; refine (rask_any H1.out HI.out H2.out c c2 N).mono ?_; rintro r w1 ⟨⟨E, rfl, hE⟩, hb⟩; obtain rfl := hE.fun_ HE.out; have HB := Lib.hid hb; clear hE hb)
    have HM1 := HB.out.size
    obtain ⟨gp, hgp⟩ : ∃ x, w1.heap.size = x := ⟨_, rfl⟩
    have HI0 : Hid (PlO RfP 52 w (w1.alloc (.cells (madeCells #[.pointer none] mb) 52)) gp mb 0 (fun _ => none) (fun _ => 0) (.slice none 0 0) 0 []) := by
      subst hgp
      have hsz : (w1.alloc (.cells (madeCells #[.pointer none] mb) 52)).heap.size = w1.heap.size + 1 := by simp
      refine ⟨⟨?_, (fun i hi s hs => by cases hs), (fun i j _ _ _ h => by cases h), ?_, (by omega)⟩, ?_⟩
      · rw [made_ptr (fun _ => 0)]
        exact Blk.new _ _ _
      · exact HB.out.alloc HM1 _
      · exact World.ownsRow_nil _ _ _ _
    rw [hgp]
    generalize (w1.alloc (.cells (madeCells #[.pointer none] mb) 52)) = y0 at HI0 ⊢
    clear hmk1 HM1 hgp HB
    obtain ⟨i0, hi0, hz0, hz1, hz2⟩ := info_parts infoInt
    go_loopw [10, 11] (fun vo vi wr => ∃ (k : Nat) (gs : Nat → Nat), k ≤ N ∧ vi = .int .i64 (k : Int) ∧ Hid (PlO RfP 52 w wr gp mb k (runT P B S mb k).1 gs vo k (runT P B S mb k).2)) (fun _ vi _ => N - (intOf vi).toNat)
    case atStart => exact ⟨0, fun _ => 0, by omega, rfl, HI0⟩
    case round =>
      obtain ⟨k, gs, hk, rfl, HR⟩ := hrel
      clear HI0
      by_cases hkN : k < N
      · have hx0 : (0 : Int) ≤ k := by omega
        have hx1 : (k : Int) < N := by omega
        have wk : IntKind.i64.wrap ((k : Int) + 1) = (k : Int) + 1 := IntWalk.i64_in _ (by omega)
        obtain ⟨σ, hσ⟩ : ∃ σ, (runT P B S mb k).1 = σ := ⟨_, rfl⟩
        obtain ⟨l, hl⟩ : ∃ l, (runT P B S mb k).2 = l := ⟨_, rfl⟩
        have HRK := Lib.hid (And.intro hσ hl)
        rw [hσ, hl] at HR
        clear hσ hl
        have HG : Hid (∀ i, i < mb → ∀ s, σ i = some s → GoodS k s) := fun i hi s hs => (HR.out.pl.q i hi s hs).2.1
        go_wp2_with fail
        go_loopw [12] (fun vi wr => ∃ (j : Nat) (gs : Nat → Nat), j ≤ mb ∧ vi = .int .i64 (j : Int) ∧ Hid (PlO RfP 52 w wr gp mb (k + 1 : Int) (stT P B S k σ j) gs u10 k l)) (fun vi _ => mb - (intOf vi).toNat)
        case atStart => exact ⟨0, gs, by omega, rfl, by rw [stT_zero]; exact HR.out.mono (by omega)⟩
        case round =>
          obtain ⟨j, gs, hj, rfl, HJ⟩ := hrel
          clear HR
          have hgpl := HJ.out.pl.row.lt
          by_cases hjm : j < mb
          · have hy0 : (0 : Int) ≤ j := by omega
            have hy1 : (j : Int) < mb := by omega
            have wj : IntKind.i64.wrap ((j : Int) + 1) = (j : Int) + 1 := IntWalk.i64_in _ (by omega)
            obtain ⟨gb, off, rfl, hlt, hcell⟩ := HRD.out.1 j hjm
            obtain ⟨p0, p1⟩ := HRD.out.2 j hjm
            obtain ⟨e0, _⟩ := hcell 0 _ rfl
            obtain ⟨e1, _⟩ := hcell 1 _ rfl
            rw [p0] at e0
            rw [p1] at e1
            have hsz := HJ.out.pl.b.size
            rw [← HJ.out.pl.b.cell (p := ⟨gb, _, none⟩) hlt] at e0 e1
            simp [← Nat.add_assoc] at e0 e1
            obtain ⟨gb2, off2, rfl, hlts, d0⟩ := H2.out.at_ j hjm
            rw [← HJ.out.pl.b.cell (p := ⟨gb2, _, none⟩) hlts] at d0
            obtain ⟨pk, hpk⟩ : ∃ x, P j = x := ⟨_, rfl⟩
            obtain ⟨bk, hbk⟩ : ∃ x, B j = x := ⟨_, rfl⟩
            obtain ⟨sk, hsk⟩ : ∃ x, S j = x := ⟨_, rfl⟩
            have hik := (HI.out j hjm).1
            have hok := (HOK.out j hjm).1
            rw [hpk] at e0 hik hok
            rw [hbk] at e1 hok
            rw [hsk] at d0
            have cg := HJ.out.pl.cell hjm
            have fg := HJ.out.pl.row.frozen j
            have HKE := Lib.hid (And.intro hpk (And.intro hbk hsk))
            have HIK := Lib.hid (And.intro hik hok)
            clear hpk hbk hsk p0 p1 hcell hik hok
            by_cases hs : sk = (k : Int)
            · subst hs
              have HK1 : Hid ((k : Int) ≤ 1000) := (by omega : (k : Int) ≤ 1000)
              have HJ1 : Hid (PlO RfP 52 w wr.drew gp mb (k + 1 : Int) (stT P B S k σ j) gs u10 k l) := HJ.out.below rfp_lies (Below.refl wr.heap.size wr).drew
              obtain ⟨cv, hcv⟩ : ∃ cv, ptrV (stT P B S (k : Int) σ j) gs j = cv := ⟨_, rfl⟩
              rw [hcv] at cg
              have cg' : wr.drew.cell? ⟨gp, j, none⟩ = some cv := cg
              have HCG := Lib.hid cg'
              clear hcv cg'
              go_wp2_with fail
              go_region_held3 (fun w' => w'.cell? ⟨gb, off + j * 3, none⟩ = some (.int .i64 pk) ∧ w'.cell? ⟨gb, off + j * 3 + 1, none⟩ = some (.int .i64 bk)) (first | go_keep | (exact E1.out))
                (first | (go_at_call 35; refine (rnew_put HJ1.out hjm HIK.out.2 HIK.out.1 hx0 HK1.out HCG.out).mono ?_; rintro r x1 ⟨g, rfl, hm, hb⟩
                          have E1 : Hid (x1.cell? ⟨gb, off + j * 3, none⟩ = some (.int .i64 pk) ∧ x1.cell? ⟨gb, off + j * 3 + 1, none⟩ = some (.int .i64 bk)) := ⟨(hb.cell (p := ⟨gb, off + j * 3, none⟩) (by simp; omega)).trans e0, (hb.cell (p := ⟨gb, off + j * 3 + 1, none⟩) (by simp; omega)).trans e1⟩
                          have HM := Lib.hid hm
                          clear hb hm))
              have cg2 := HM.out.cg
              have fg2 := HM.out.fg
              clear e0 e1 d0 cg fg
              go_wp2_with (go_at_call 37; refine (rturn_pl HM.out.hn hjm (updO_at _ _ _) (if_pos rfl) ((GoodS.new HIK.out.2 hx0).turn (Int.le_refl _) hx0) (by omega)).mono ?_; rintro r x3 ⟨rfl, hn⟩; have HN3 := Lib.hid hn; clear hn)
              refine ⟨⟨j + 1, updN gs j g, by omega, by go_num, ?_⟩, by simp [intOf]; try omega⟩
              rw [stT_succ, atT_new HKE.out.2.2, HKE.out.1, HKE.out.2.1, ← updO_updO _ j (some (newS pk bk k))]
              exact HN3.out
            · have hd : (sk == (k : Int)) = false := by simp [hs]
              cases hsj : σ j with
              | none =>
                have hcv : ptrV (stT P B S (k : Int) σ j) gs j = .pointer none := by unfold ptrV; rw [stT_at, hsj]; rfl
                rw [hcv] at cg
                have HSJ := Lib.hid (And.intro hsj hs)
                clear hcv hsj hs
                go_wp2_with fail
                refine ⟨⟨j + 1, gs, by omega, by go_num, ?_⟩, by simp [intOf]; try omega⟩
                rw [stT_succ, atT_none (by rw [HKE.out.2.2]; exact HSJ.out.2) HSJ.out.1, updO_same (by rw [stT_at]; exact HSJ.out.1)]
                exact HJ.out
              | some s =>
                have hcv : ptrV (stT P B S (k : Int) σ j) gs j = .pointer (some ⟨gs j, 0, none⟩) := by unfold ptrV; rw [stT_at, hsj]; rfl
                rw [hcv] at cg
                have HSJ := Lib.hid (And.intro hsj hs)
                have HJ1 := HJ
                have HS1 : Hid (stT P B S (k : Int) σ j j = some s ∧ GoodS ((k : Int) + 1) (turnS s k)) := by
                  have h0 : stT P B S (k : Int) σ j j = some s := by rw [stT_at]; exact hsj
                  exact ⟨h0, (HG.out j hjm s hsj).turn (Int.le_refl _) hx0⟩
                clear hcv hsj hs
                go_wp2_with (go_at_call 37; refine (rturn_pl HJ1.out hjm HS1.out.1 rfl HS1.out.2 (by omega)).mono ?_; rintro r x3 ⟨rfl, hn⟩; have HN3 := Lib.hid hn; clear hn)
                refine ⟨⟨j + 1, gs, by omega, by go_num, ?_⟩, by simp [intOf]; try omega⟩
                rw [stT_succ, atT_some (by rw [HKE.out.2.2]; exact HSJ.out.2) HSJ.out.1]
                exact HN3.out
          · obtain rfl : j = mb := by omega
            clear hi0 hz0 hz1 hz2
            obtain ⟨i0, hi0, hz0, hz1, hz2⟩ := info_parts infoInt
            have hcap : Hid (k + 1 ≤ maxLen ∧ (k + 1) * 8 ≤ 140737488355328) := ⟨by unfold maxLen; omega, by omega⟩
            cases hw : whoF (vOf (stT P B S (k : Int) σ j)) j with
            | none =>
              have HW := Lib.hid hw
              clear hw
              go_wp2_with (first
                | (go_at_call 50; refine (rwho_none HJ.out.pl.rowR hm4 HW.out).mono ?_; rintro r x1 ⟨rfl, hb⟩
                   have HX := Lib.hid (HJ.out.below rfp_lies hb)
                   have HX1 := Lib.hid (HX.out.below rfp_lies ((Below.refl x1.heap.size x1).alloc (Nat.le_refl _) (.cells #[.int .i64 (-1)] 3)))
                   clear hb)
                | (at_builtin
                   refine wpList_append_lies _ (by rfl) _ _ 29 (by rfl) w.heap.size 3 i0 _ 1 8 Try.underlying29 hi0 hz0 hz1 hz2 (by rfl) (by decide) u10 k (l.map (Value.int .i64)) (by rfl) HX1.out.own ⟨x1.heap.size, 0, none⟩ 1 1 [.int .i64 (-1)] (by rfl) (by rfl) (World.news_of_block (cs := #[.int .i64 (-1)]) (t := 3) (fr := (0, 0)) (heap_alloc_new x1 _)) (by simp [Value.oneCell']) (by decide) hcap.out.1 hcap.out.2 HX1.out.pl.b.size (x1.heap.size + 1) (by simp) ?_
                   intro g cap w2 hown1 hgrow hat hlt
                   have HF := Lib.hid (HX1.out.app rfp_lies (by decide) (by decide) hgrow hown1)
                   clear hown1 hgrow hat hlt))
              refine ⟨⟨k + 1, gs, by omega, by go_num, ?_⟩, by simp [intOf]; try omega⟩
              obtain ⟨r1, r2⟩ := runT_none HRK.out.1 HRK.out.2 HW.out
              rw [r1, r2]
              exact HF.out
            | some i =>
              obtain ⟨hij, hci, _⟩ := whoF_some hw
              obtain ⟨s, hs⟩ := cand_some hci
              have HW := Lib.hid (And.intro hw hs)
              have hz0' : (0 : Int) ≤ i := by omega
              have hz1' : (i : Int) < j := by omega
              clear hw hci hs
              go_wp2_with (first
                | (go_at_call 50; refine (rwho_some i HJ.out.pl.rowR hm4 HW.out.1).mono ?_; rintro r x1 ⟨rfl, hb⟩
                   have HX := Lib.hid (HJ.out.below rfp_lies hb)
                   have cg : x1.cell? ⟨gp, i, none⟩ = some (.pointer (some ⟨gs i, 0, none⟩)) := (HX.out.pl.cell hij).trans (by unfold ptrV; rw [HW.out.2]; rfl)
                   clear hb)
                | (go_at_call 36; refine (rcharge_pl HX.out hij HW.out.2).mono ?_; rintro r x2 ⟨rfl, hn⟩
                   have HX2 := Lib.hid hn
                   have HX1 := Lib.hid (HX2.out.below rfp_lies ((Below.refl x2.heap.size x2).alloc (Nat.le_refl _) (.cells #[.int .i64 i] 3)))
                   clear hn cg)
                | (at_builtin
                   refine wpList_append_lies _ (by rfl) _ _ 29 (by rfl) w.heap.size 3 i0 _ 1 8 Try.underlying29 hi0 hz0 hz1 hz2 (by rfl) (by decide) u10 k (l.map (Value.int .i64)) (by rfl) HX1.out.own ⟨x2.heap.size, 0, none⟩ 1 1 [.int .i64 i] (by rfl) (by rfl) (World.news_of_block (cs := #[.int .i64 i]) (t := 3) (fr := (0, 0)) (heap_alloc_new x2 _)) (by simp [Value.oneCell']) (by decide) hcap.out.1 hcap.out.2 HX1.out.pl.b.size (x2.heap.size + 1) (by simp) ?_
                   intro g cap w2 hown1 hgrow hat hlt
                   have HF := Lib.hid (HX1.out.app rfp_lies (by decide) (by decide) hgrow hown1)
                   clear hown1 hgrow hat hlt))
              refine ⟨⟨k + 1, gs, by omega, by go_num, ?_⟩, by simp [intOf]; try omega⟩
              obtain ⟨r1, r2⟩ := runT_some HRK.out.1 HRK.out.2 HW.out.1 HW.out.2
              rw [r1, r2]
              exact HF.out
      · obtain rfl : k = N := by omega
        go_wp2_with fail
        go_ret2
        refine ⟨⟨_, 0, rfl, HE.out, fun h => absurd rfl h, fun _ => ?_⟩, HR.out.pl.b⟩
        rw [Int.toNat_natCast]
        exact HR.out.own
  · have hE0 : ∃ E, AskIs P B S m mb n E ∧ (E = 2 ∨ E = 5) := by
      by_cases h4 : 4 < m ∨ n < 0 ∨ 1000 < n
      · exact ⟨5, Or.inl ⟨rfl, h4⟩, Or.inr rfl⟩
      · refine ⟨2, Or.inr ⟨⟨by omega, by omega, by omega⟩, Or.inl ⟨rfl, ?_⟩⟩, Or.inl rfl⟩
        by_cases hm : mb = m
        · right
          intro h
          exact hE (Or.inr ⟨⟨by omega, by omega, by omega⟩, Or.inr ⟨rfl, hm, h⟩⟩)
        · left; exact hm
    obtain ⟨E0, hE0, h25⟩ := hE0
    have HE := Lib.hid hE0
    clear hE0 hE
    rcases h25 with rfl | rfl
    · go_enter Try.func46, Try.ntmps46
      go_wp2_with (go_at_call 62; refine (rask_any H1.out HI.out H2.out c c2 n).mono ?_; rintro r w1 ⟨⟨E, rfl, hE⟩, hb⟩; obtain rfl := hE.fun_ HE.out; have HB := Lib.hid hb; clear hE hb)
      go_ret2
      exact ⟨⟨_, 2, rfl, HE.out, fun _ => rfl, fun h => absurd h (by decide)⟩, HB.out⟩
    · go_enter Try.func46, Try.ntmps46
      go_wp2_with (go_at_call 62; refine (rask_any H1.out HI.out H2.out c c2 n).mono ?_; rintro r w1 ⟨⟨E, rfl, hE⟩, hb⟩; obtain rfl := hE.fun_ HE.out; have HB := Lib.hid hb; clear hE hb)
      go_ret2
      exact ⟨⟨_, 5, rfl, HE.out, fun _ => rfl, fun h => absurd h (by decide)⟩, HB.out⟩
end Go.Proofs.Ytogdpkeojccpcaa
