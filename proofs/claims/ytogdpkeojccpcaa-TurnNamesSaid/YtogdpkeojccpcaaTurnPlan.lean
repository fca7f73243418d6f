/- The walk of Plan. -/
import Derived.Test.YtogdpkeojccpcaaTurnRun
import Derived.Deep.OwnRows
namespace Go.Proofs.Ytogdpkeojccpcaa
set_option linter.all false
open Go.RowKit
attribute [local go_sem ↓] Go.wp_at_zero Go.wp_at_succ

theorem infoInt : (Try.prog.info? 3).map (fun i => (i.zero, i.size, i.bytes)) = some (some (.int .i64 0), 1, 8) := by kernel_rfl
theorem infoPP : (Try.prog.info? 40).map (fun i => (i.zero, i.size, i.bytes)) = some (some (.pointer none), 1, 8) := by kernel_rfl
theorem infoRP : (Try.prog.info? 52).map (fun i => (i.zero, i.size, i.bytes)) = some (some (.pointer none), 1, 8) := by kernel_rfl
theorem made_ptr (gs : Nat → Nat) (m : Nat) : madeCells #[Value.pointer none] m = ptrA (fun _ => none) gs m := by
  apply Array.ext_getElem?
  intro j
  by_cases hj : j < m
  · rw [ptrA_at _ _ _ _ hj]
    simp [madeCells, hj, ptrV, Nat.mod_one]
  · have h1 : (ptrA (fun _ => none) gs m).size = m := by unfold ptrA; simp
    have h2 := size_madeCells #[Value.pointer none] m
    rw [Array.getElem?_eq_none (by omega), Array.getElem?_eq_none (by omega)]
theorem own_far {w wr w' : World} {e : TypeId} {v : Value} {n : Nat} {xs : List Value} {R : Nat → Prop} (h : wr.ownsRow w.heap.size e 1 v n xs) (hu : Upd R wr w') (hR : ∀ k cs, Blk wr k e cs → ¬ R k) : w'.ownsRow w.heap.size e 1 v n xs := by
  refine ⟨h.1, ?_⟩
  rcases h.2 with h0 | ⟨g, cap, cur, h1, h2, h3, h4⟩
  · exact Or.inl h0
  · exact Or.inr ⟨g, cap, cur, h1, h2, Blk.upd h3 hu (hR g cur h3), h4⟩
theorem own_below {w wr w' : World} {e : TypeId} {v : Value} {n : Nat} {xs : List Value} (h : wr.ownsRow w.heap.size e 1 v n xs) (hb : Below wr.heap.size wr w') : w'.ownsRow w.heap.size e 1 v n xs :=
  own_far h (Upd.of_below hb) (fun k cs hk => by have := Blk.lt hk; omega)

/-- The purses, their row, and the row of what has run. -/
structure PlO (Q : World → Nat → PS → Prop) (tp : TypeId) (w wr : World) (gp m : Nat) (t : Int) (σ : Nat → Option PS) (gs : Nat → Nat) (vo : Value) (k : Nat) (l : List Int) : Prop where
  pl : PlW Q tp w wr gp m t σ gs
  own : wr.ownsRow w.heap.size 3 1 vo k (l.map (Value.int .i64))
section
variable {Q : World → Nat → PS → Prop} {tp tq : TypeId} {w wr : World} {gp m : Nat} {t : Int} {σ : Nat → Option PS} {gs : Nat → Nat} {vo : Value} {k : Nat} {l : List Int}
theorem PlO.below (hl : Lies Q tq) (h : PlO Q tp w wr gp m t σ gs vo k l) {w' : World} (hb : Below wr.heap.size wr w') : PlO Q tp w w' gp m t σ gs vo k l :=
  ⟨h.pl.below hl hb, own_below h.own hb⟩
theorem PlO.put (hl : Lies Q tq) (hne : tq ≠ tp) (hti : 3 ≠ tp) (h : PlO Q tp w wr gp m t σ gs vo k l) {i g : Nat} {s : PS} {w' : World} (hb : Below wr.heap.size wr w') (hg : wr.heap.size ≤ g) (hq : Q w' g s) (hs : GoodS t s) :
    PlO Q tp w (w'.setCell ⟨gp, i, none⟩ (.pointer (some ⟨g, 0, none⟩))) gp m t (updO σ i (some s)) (updN gs i g) vo k l := by
  have h1 := h.below hl hb
  refine ⟨h1.pl.put hl hne hq hs (Nat.le_trans h.pl.b.size hg) fun j hj hsj e => ?_, own_far h1.own (Upd.set1 _ _ _) fun b cs hb e => (hb.ne_ h1.pl.row hti) e⟩
  cases hsj' : σ j with
  | none => rw [hsj'] at hsj; cases hsj
  | some s' =>
    obtain ⟨cs, hc⟩ := hl.blk (h.pl.q j hj s' hsj').1
    have := hc.lt
    omega
theorem PlO.turn (hl : Lies Q tq) (hne : tq ≠ tp) (hti : 3 ≠ tq) (h : PlO Q tp w wr gp m t σ gs vo k l) {i : Nat} {s s' : PS} (hi : i < m) (hs : σ i = some s) {w' : World} (hu : Upd (· = gs i) wr w') (hq : Q w' (gs i) s') (hs' : GoodS t s') :
    PlO Q tp w w' gp m t (updO σ i (some s')) gs vo k l := by
  obtain ⟨cs, hc⟩ := hl.blk (h.pl.q i hi s hs).1
  exact ⟨h.pl.turn hl hne hi hs hu hq hs', own_far h.own hu fun b cs' hb e => (hb.ne_ hc hti) e⟩
theorem PlO.mono (h : PlO Q tp w wr gp m t σ gs vo k l) {t' : Int} (ht : t ≤ t') : PlO Q tp w wr gp m t' σ gs vo k l := ⟨h.pl.mono ht, h.own⟩
/-- One more number. -/
theorem PlO.app (hl : Lies Q tq) (hti : 3 ≠ tp) (hti2 : 3 ≠ tq) (h : PlO Q tp w wr gp m t σ gs vo k l) {w' : World} {v' : Value} {x : Int} {k' : Nat} (hg : wr.grownBy w' vo.ownBlock) (ho : w'.ownsRow w.heap.size 3 1 v' k' (l.map (Value.int .i64) ++ [.int .i64 x])) :
    PlO Q tp w w' gp m t σ gs v' k' (l ++ [x]) := by
  have key : ∀ b, some b = vo.ownBlock → ∃ cs, Blk wr b 3 cs := fun b hb => by
    rcases h.own.2 with ⟨h1, _⟩ | ⟨gl, cap, cur, rfl, _, hc, _⟩
    · rw [h1] at hb; simp [Value.ownBlock] at hb
    · have : some gl = some b := hb.symm
      cases this
      exact ⟨cur, hc⟩
  have hu : Upd (fun b => some b = vo.ownBlock) wr w' := ⟨hg.os, hg.tape, hg.output, hg.size, fun b hb hn => hg.block b hb hn⟩
  refine ⟨h.pl.far hl hu (fun b hb => ?_) (fun e => ?_) (fun i hi hs e => ?_), by rw [List.map_append]; exact ho⟩
  · rcases h.own.2 with ⟨h1, _⟩ | ⟨gl, cap, cur, rfl, h2, _⟩
    · rw [h1] at hb; simp [Value.ownBlock] at hb
    · have : some gl = some b := hb.symm
      cases this
      exact h2
  · obtain ⟨cs, hc⟩ := key _ e
    exact (hc.ne_ h.pl.row hti) rfl
  · cases hsi : σ i with
    | none => rw [hsi] at hs; cases hs
    | some s =>
      obtain ⟨cs, hc⟩ := key _ e
      obtain ⟨cs', hc'⟩ := hl.blk (h.pl.q i hi s hsi).1
      exact (hc.ne_ hc' hti2) rfl
end
theorem who_none {w : World} {A : Option Addr} {n c : Nat} {vs : Nat → Value} {f : Nat → SlotV} (h : RowV w A n vs f) (hc : n ≤ c) (h4 : n ≤ 4) (hw : whoF f n = none) :
    Calls Try.prog 49 #[.slice A n c] w fun r w' => r = .returned (.tuple #[.int .i64 0, .bool false]) ∧ Below w.heap.size w w' := by
  have := who_any h hc
  rw [show min n 4 = n from by omega, hw] at this
  exact this
theorem who_some {w : World} {A : Option Addr} {n c : Nat} {vs : Nat → Value} {f : Nat → SlotV} (j : Nat) (h : RowV w A n vs f) (hc : n ≤ c) (h4 : n ≤ 4) (hw : whoF f n = some j) :
    Calls Try.prog 49 #[.slice A n c] w fun r w' => r = .returned (.tuple #[.int .i64 (j : Nat), .bool true]) ∧ Below w.heap.size w w' := by
  have := who_any h hc
  rw [show min n 4 = n from by omega, hw] at this
  exact this

def PlanPost (P B S : Nat → Int) (m mb : Nat) (n : Int) (w : World) (r : Ending) (w' : World) : Prop :=
  ∃ v E, r = .returned (.tuple #[v, .int .i64 E]) ∧ AskIs P B S m mb n E ∧ (E ≠ 0 → v = .slice none 0 0) ∧ (E = 0 → w'.ownsRow w.heap.size 3 1 v n.toNat ((runT P B S m n.toNat).2.map (Value.int .i64)))

/-- Behind the making of a purse that is laid into the row. -/
structure NewMid (Q : World → Nat → PS → Prop) (tp : TypeId) (w x1 : World) (gp m : Nat) (t : Int) (σ : Nat → Option PS) (gs : Nat → Nat) (vo : Value) (k : Nat) (l : List Int) (j g : Nat) (s : PS) (cv : Value) : Prop where
  hn : PlO Q tp w (x1.setCell ⟨gp, j, none⟩ (.pointer (some ⟨g, 0, none⟩))) gp m t (updO σ j (some s)) (updN gs j g) vo k l
  hq : Q (x1.setCell ⟨gp, j, none⟩ (.pointer (some ⟨g, 0, none⟩))) g s
  cg : x1.cell? ⟨gp, j, none⟩ = some cv
  fg : x1.frozen? ⟨gp, j, none⟩ = false
theorem new_put {w wr : World} {gp m : Nat} {σ : Nat → Option PS} {gs : Nat → Nat} {vo : Value} {kk : Nat} {l : List Int} {j : Nat} {cv : Value} {p b : Int} {k : Int} (h : PlO PrP 40 w wr gp m (k + 1) σ gs vo kk l) (hj : j < m) (hok : OkP p b) (hp : I64 p) (hk0 : 0 ≤ k) (hk : k ≤ 1000)
    (hc : wr.cell? ⟨gp, j, none⟩ = some cv) :
    Calls Try.prog 27 #[.int .i64 p, .int .i64 b, .int .i64 k] wr fun r x1 => ∃ g, r = .returned (.tuple #[.pointer (some ⟨g, 0, none⟩), .int .i64 0]) ∧ NewMid PrP 40 w x1 gp m (k + 1) σ gs vo kk l j g (newS p b k) cv := by
  refine (new_any p b k wr hp ⟨by omega, by omega⟩).mono ?_
  rintro r x1 ⟨a, rfl, hb, -, hq⟩
  have he := newE_at hok hk0 hk
  obtain ⟨g, hg, rfl, hq1⟩ := hq he
  have hn := h.put (i := j) prp_lies (by decide) (by decide) hb hg hq1 ((GoodS.new hok hk0).mono (by omega))
  have hq2 := (hn.pl.q j hj _ (updO_at _ _ _)).1
  have hup : updN gs j g j = g := if_pos rfl
  rw [hup] at hq2
  exact ⟨g, by rw [he], hn, hq2, (hb.cell (p := ⟨gp, j, none⟩) h.pl.row.lt).trans hc, (hb.frozen (p := ⟨gp, j, none⟩) h.pl.row.lt).trans (h.pl.row.frozen j)⟩
/-- A purse has looked whether its period ends. -/
theorem turn_pl {w wr : World} {gp m : Nat} {σ : Nat → Option PS} {gs : Nat → Nat} {vo : Value} {kk : Nat} {l : List Int} {j g : Nat} {s : PS} {k t : Int} (h : PlO PrP 40 w wr gp m t σ gs vo kk l) (hj : j < m) (hs : σ j = some s) (hg : gs j = g) (hgs : GoodS t (turnS s k)) (ht : t ≤ 2000) :
    Calls Try.prog 28 #[.pointer (some ⟨g, 0, none⟩), .int .i64 k] wr fun r x1 => r = .returned (.tuple #[.bool (turnB s k), .int .i64 (turnE s k)]) ∧ PlO PrP 40 w x1 gp m t (updO σ j (some (turnS s k))) gs vo kk l := by
  subst hg
  obtain ⟨h1, h2, _⟩ := h.pl.q j hj s hs
  refine (turn_any k h1 (h2.pok ht) (by decide) (by decide)).mono ?_
  rintro r x1 ⟨rfl, hq, hu⟩
  exact ⟨rfl, h.turn prp_lies (by decide) (by decide) hj hs hu hq hgs⟩

theorem charge_pl {w wr : World} {gp m : Nat} {σ : Nat → Option PS} {gs : Nat → Nat} {vo : Value} {kk : Nat} {l : List Int} {j : Nat} {s : PS} {t : Int} (h : PlO PrP 40 w wr gp m t σ gs vo kk l) (hj : j < m) (hs : σ j = some s) :
    Calls Try.prog 31 #[.pointer (some ⟨gs j, 0, none⟩)] wr fun r x1 => r = .returned (.int .i64 (chargeE s)) ∧ PlO PrP 40 w x1 gp m t (updO σ j (some (chargeS s))) gs vo kk l := by
  obtain ⟨h1, h2, _⟩ := h.pl.q j hj s hs
  refine (charge_any h1 h2.ok.1 h2.l).mono ?_
  rintro r x1 ⟨rfl, hq, hu⟩
  exact ⟨rfl, h.turn prp_lies (by decide) (by decide) hj hs hu hq h2.charge⟩

set_option maxRecDepth 100000 in
set_option maxHeartbeats 16000000 in
theorem plan_any {w : World} {A A2 : Option Addr} {m mb : Nat} {P B S : Nat → Int} (h : Pts w A m P B) (hI : ∀ i, i < m → I64 (P i) ∧ I64 (B i)) (h2 : IntsW w A2 mb S) (c c2 : Nat) (n : Int) :
    Calls Try.prog 45 #[.slice A m c, .slice A2 mb c2, .int .i64 n] w fun r w' => PlanPost P B S m mb n w r w' ∧ Below w.heap.size w w' := by
  have H1 := Lib.hid h
  have HI := Lib.hid hI
  have H2 := Lib.hid h2
  clear h hI h2
  by_cases hE : AskIs P B S m mb n 0
  · obtain ⟨hm4, hn0, hn1, hmb, hok⟩ : m ≤ 4 ∧ 0 ≤ n ∧ n ≤ 1000 ∧ mb = m ∧ AskOk P B S m := by
      rcases hE with ⟨h, _⟩ | ⟨h, ⟨h1, _⟩ | ⟨_, h1, h2⟩⟩
      · cases h
      · cases h1
      · exact ⟨h.1, h.2.1, h.2.2, h1, h2⟩
    subst hmb
    obtain ⟨N, rfl⟩ : ∃ N : Nat, n = N := ⟨n.toNat, by omega⟩
    have HE := Lib.hid hE
    have HOK := Lib.hid hok
    obtain ⟨Z, hrd⟩ := H1.out.rd
    have HRD := Lib.hid hrd
    clear hrd
    have hmk1 := run_make_row' (P := Try.prog) 72 40 (.pointer none) 8 Try.underlying72 infoPP rfl .i64 .i64 mb (by omega) (by omega)
    have hmk2 := run_make_row' (P := Try.prog) 29 3 (.int .i64 0) 8 Try.underlying29 infoInt rfl .i64 .i64 N (by omega) (by omega)
    have hx : (N : Int) ≤ 1000 := hn1
    have hx' : (0 : Int) ≤ N := by omega
    clear hE hok hn0 hn1
    go_enter Try.func45, Try.ntmps45
    go_wp2_with (go_at_call 61; refine (ask_any H1.out HI.out H2.out c c2 N).mono ?_; rintro r w1 ⟨⟨E, rfl, hE⟩, hb⟩; obtain rfl := hE.fun_ HE.out; have HB := Lib.hid hb; clear hE hb)
    have HM1 := HB.out.size
    obtain ⟨gp, hgp⟩ : ∃ x, w1.heap.size = x := ⟨_, rfl⟩
    have HI0 : Hid (PlO PrP 40 w ((w1.alloc (.cells (madeCells #[.pointer none] mb) 40)).alloc (.cells (madeCells #[.int .i64 0] N) 3)) gp mb 0 (fun _ => none) (fun _ => 0) (.slice (some ⟨gp + 1, 0, none⟩) 0 N) 0 []) := by
      subst hgp
      have hsz : (w1.alloc (.cells (madeCells #[.pointer none] mb) 40)).heap.size = w1.heap.size + 1 := by simp
      refine ⟨⟨?_, (fun i hi s hs => by cases hs), (fun i j _ _ _ h => by cases h), ?_, (by omega)⟩, ?_⟩
      · rw [made_ptr (fun _ => 0)]
        exact (Blk.new _ _ _).alloc _
      · exact (HB.out.alloc HM1 _).alloc (by rw [hsz]; omega) _
      · rw [← hsz]
        exact World.ownsRow_made _ _ N (by rw [hsz]; omega) (by unfold maxLen; omega) (by rw [size_madeCells]; simp)
    rw [hgp]
    generalize ((w1.alloc (.cells (madeCells #[.pointer none] mb) 40)).alloc (.cells (madeCells #[.int .i64 0] N) 3)) = y0 at HI0 ⊢
    clear hmk1 hmk2 HM1 hgp HB
    obtain ⟨i0, hi0, hz0, hz1, hz2⟩ := info_parts infoInt
    go_loopw [11, 33] (fun vo vi wr => ∃ (k : Nat) (gs : Nat → Nat), k ≤ N ∧ vi = .int .i64 (k : Int) ∧ Hid (PlO PrP 40 w wr gp mb k (runT P B S mb k).1 gs vo k (runT P B S mb k).2)) (fun _ vi _ => N - (intOf vi).toNat)
    case atStart => exact ⟨0, fun _ => 0, by omega, rfl, HI0⟩
    case round =>
      obtain ⟨k, gs, hk, rfl, HR⟩ := hrel
      clear HI0
      by_cases hkN : k < N
      · have hx0 : (0 : Int) ≤ k := by omega
        have hx1 : (k : Int) < N := by omega
        have wk : IntKind.i64.wrap ((k : Int) + 1) = (k : Int) + 1 := IntWalk.i64_in _ (by omega)
        obtain ⟨σ, hσ⟩ : ∃ σ, (runT P B S mb k).1 = σ := ⟨_, rfl⟩
        obtain ⟨l, hl⟩ : ∃ l, (runT P B S mb k).2 = l := ⟨_, rfl⟩
        have HRK := Lib.hid (And.intro hσ hl)
        rw [hσ, hl] at HR
        clear hσ hl
        have HG : Hid (∀ i, i < mb → ∀ s, σ i = some s → GoodS k s) := fun i hi s hs => (HR.out.pl.q i hi s hs).2.1
        go_wp2_with fail
        go_loopw [38] (fun vi wr => ∃ (j : Nat) (gs : Nat → Nat), j ≤ mb ∧ vi = .int .i64 (j : Int) ∧ Hid (PlO PrP 40 w wr gp mb (k + 1 : Int) (stT P B S k σ j) gs u11 k l)) (fun vi _ => mb - (intOf vi).toNat)
        case atStart => exact ⟨0, gs, by omega, rfl, by rw [stT_zero]; exact HR.out.mono (by omega)⟩
        case round =>
          obtain ⟨j, gs, hj, rfl, HJ⟩ := hrel
          clear HR
          have hgpl := HJ.out.pl.row.lt
          by_cases hjm : j < mb
          · have hy0 : (0 : Int) ≤ j := by omega
            have hy1 : (j : Int) < mb := by omega
            have wj : IntKind.i64.wrap ((j : Int) + 1) = (j : Int) + 1 := IntWalk.i64_in _ (by omega)
            obtain ⟨gb, off, rfl, hlt, hcell⟩ := HRD.out.1 j hjm
            obtain ⟨p0, p1⟩ := HRD.out.2 j hjm
            obtain ⟨e0, _⟩ := hcell 0 _ rfl
            obtain ⟨e1, _⟩ := hcell 1 _ rfl
            obtain ⟨e2, s0, s1, s2, hs⟩ := hcell 2 _ rfl
            rw [p0] at e0
            rw [p1] at e1
            rw [hs] at e2
            have hsz := HJ.out.pl.b.size
            rw [← HJ.out.pl.b.cell (p := ⟨gb, _, none⟩) hlt] at e0 e1 e2
            simp [← Nat.add_assoc] at e0 e1 e2
            obtain ⟨gb2, off2, rfl, hlts, d0⟩ := H2.out.at_ j hjm
            rw [← HJ.out.pl.b.cell (p := ⟨gb2, _, none⟩) hlts] at d0
            obtain ⟨pk, hpk⟩ : ∃ x, P j = x := ⟨_, rfl⟩
            obtain ⟨bk, hbk⟩ : ∃ x, B j = x := ⟨_, rfl⟩
            obtain ⟨sk, hsk⟩ : ∃ x, S j = x := ⟨_, rfl⟩
            have hik := (HI.out j hjm).1
            have hok := (HOK.out j hjm).1
            rw [hpk] at e0 hik hok
            rw [hbk] at e1 hok
            rw [hsk] at d0
            have cg := HJ.out.pl.cell hjm
            have fg := HJ.out.pl.row.frozen j
            have HKE := Lib.hid (And.intro hpk (And.intro hbk hsk))
            have HIK := Lib.hid (And.intro hik hok)
            clear hpk hbk hsk hs p0 p1 hcell hik hok
            have hal := (Below.refl wr.heap.size wr).alloc (Nat.le_refl _) (.cells #[.int .i64 pk, .int .i64 bk, .slice s0 s1 s2] 36)
            have d1 := (hal.cell (p := ⟨gb2, off2 + j, none⟩) (by show gb2 < _; omega)).trans d0
            have cg1 := (hal.cell (p := ⟨gp, j, none⟩) hgpl).trans cg
            have fg1 := (hal.frozen (p := ⟨gp, j, none⟩) hgpl).trans fg
            have HAL := Lib.hid hal
            clear hal d0 cg fg
            by_cases hs : sk = (k : Int)
            · subst hs
              have HK1 : Hid ((k : Int) ≤ 1000) := (by omega : (k : Int) ≤ 1000)
              have HJ1 := Lib.hid (HJ.out.below prp_lies ((Below.refl wr.heap.size wr).alloc (Nat.le_refl _) (.cells #[.int .i64 pk, .int .i64 bk, .slice s0 s1 s2] 36)))
              obtain ⟨cv, hcv⟩ : ∃ cv, ptrV (stT P B S (k : Int) σ j) gs j = cv := ⟨_, rfl⟩
              rw [hcv] at cg1
              clear hcv
              go_wp2_with (first
                | (go_at_call 27; refine (new_put HJ1.out hjm HIK.out.2 HIK.out.1 hx0 HK1.out cg1).mono ?_; rintro r x1 ⟨g, rfl, hm⟩; have cg2 := hm.cg; have fg2 := hm.fg; have HM := Lib.hid hm; clear hm e0 e1 e2 d1 cg1 fg1)
                | (go_at_call 28; refine (turn_pl HM.out.hn hjm (updO_at _ _ _) (if_pos rfl) ((GoodS.new HIK.out.2 hx0).turn (Int.le_refl _) hx0) (by omega)).mono ?_; rintro r x3 ⟨rfl, hn⟩; have HN3 := Lib.hid hn; clear hn))
              refine ⟨⟨j + 1, updN gs j g, by omega, by go_num, ?_⟩, by simp [intOf]; try omega⟩
              rw [stT_succ, atT_new HKE.out.2.2, HKE.out.1, HKE.out.2.1, ← updO_updO _ j (some (newS pk bk k))]
              exact HN3.out
            · have hd : (sk == (k : Int)) = false := by simp [hs]
              cases hsj : σ j with
              | none =>
                have hcv : ptrV (stT P B S (k : Int) σ j) gs j = .pointer none := by unfold ptrV; rw [stT_at, hsj]; rfl
                rw [hcv] at cg1
                have HSJ := Lib.hid (And.intro hsj hs)
                clear hcv hsj hs
                go_wp2_with (go_at_call 28; refine (nturn (k : Int) (none_nil _)).mono ?_; rintro r x1 ⟨rfl, rfl⟩)
                refine ⟨⟨j + 1, gs, by omega, by go_num, ?_⟩, by simp [intOf]; try omega⟩
                rw [stT_succ, atT_none (by rw [HKE.out.2.2]; exact HSJ.out.2) HSJ.out.1, updO_same (by rw [stT_at]; exact HSJ.out.1)]
                exact HJ.out.below prp_lies ((Below.refl wr.heap.size wr).alloc (Nat.le_refl _) _)
              | some s =>
                have hcv : ptrV (stT P B S (k : Int) σ j) gs j = .pointer (some ⟨gs j, 0, none⟩) := by unfold ptrV; rw [stT_at, hsj]; rfl
                rw [hcv] at cg1
                have HSJ := Lib.hid (And.intro hsj hs)
                have HJ1 := Lib.hid (HJ.out.below prp_lies ((Below.refl wr.heap.size wr).alloc (Nat.le_refl _) (.cells #[.int .i64 pk, .int .i64 bk, .slice s0 s1 s2] 36)))
                have HS1 : Hid (stT P B S (k : Int) σ j j = some s ∧ GoodS ((k : Int) + 1) (turnS s k)) := by
                  have h0 : stT P B S (k : Int) σ j j = some s := by rw [stT_at]; exact hsj
                  exact ⟨h0, (HG.out j hjm s hsj).turn (Int.le_refl _) hx0⟩
                clear hcv hsj hs
                go_wp2_with (go_at_call 28; refine (turn_pl HJ1.out hjm HS1.out.1 rfl HS1.out.2 (by omega)).mono ?_; rintro r x3 ⟨rfl, hn⟩; have HN3 := Lib.hid hn; clear hn)
                refine ⟨⟨j + 1, gs, by omega, by go_num, ?_⟩, by simp [intOf]; try omega⟩
                rw [stT_succ, atT_some (by rw [HKE.out.2.2]; exact HSJ.out.2) HSJ.out.1]
                exact HN3.out
          · obtain rfl : j = mb := by omega
            clear hi0 hz0 hz1 hz2
            obtain ⟨i0, hi0, hz0, hz1, hz2⟩ := info_parts infoInt
            have hcap : Hid (k + 1 ≤ maxLen ∧ (k + 1) * 8 ≤ 140737488355328) := ⟨by unfold maxLen; omega, by omega⟩
            cases hw : whoF (vOf (stT P B S (k : Int) σ j)) j with
            | none =>
              have HW := Lib.hid hw
              clear hw
              go_wp2_with (first
                | (go_at_call 49; refine (who_none HJ.out.pl.rowV (Nat.le_refl _) hm4 HW.out).mono ?_; rintro r x1 ⟨rfl, hb⟩
                   have HX := Lib.hid (HJ.out.below prp_lies hb)
                   have HX1 := Lib.hid (HX.out.below prp_lies ((Below.refl x1.heap.size x1).alloc (Nat.le_refl _) (.cells #[.int .i64 (-1)] 3)))
                   clear hb)
                | (at_builtin
                   refine wpList_append_lies _ (by rfl) _ _ 29 (by rfl) w.heap.size 3 i0 _ 1 8 Try.underlying29 hi0 hz0 hz1 hz2 (by rfl) (by decide) u11 k (l.map (Value.int .i64)) (by rfl) HX1.out.own ⟨x1.heap.size, 0, none⟩ 1 1 [.int .i64 (-1)] (by rfl) (by rfl) (World.news_of_block (cs := #[.int .i64 (-1)]) (t := 3) (fr := (0, 0)) (heap_alloc_new x1 _)) (by simp [Value.oneCell']) (by decide) hcap.out.1 hcap.out.2 HX1.out.pl.b.size (x1.heap.size + 1) (by simp) ?_
                   intro g cap w2 hown1 hgrow hat hlt
                   have HF := Lib.hid (HX1.out.app prp_lies (by decide) (by decide) hgrow hown1)
                   clear hown1 hgrow hat hlt))
              refine ⟨⟨k + 1, gs, by omega, by go_num, ?_⟩, by simp [intOf]; try omega⟩
              obtain ⟨r1, r2⟩ := runT_none HRK.out.1 HRK.out.2 HW.out
              rw [r1, r2]
              exact HF.out
            | some i =>
              obtain ⟨hij, hci, _⟩ := whoF_some hw
              obtain ⟨s, hs⟩ := cand_some hci
              have HW := Lib.hid (And.intro hw hs)
              have hz0' : (0 : Int) ≤ i := by omega
              have hz1' : (i : Int) < j := by omega
              clear hw hci hs
              go_wp2_with (first
                | (go_at_call 49; refine (who_some i HJ.out.pl.rowV (Nat.le_refl _) hm4 HW.out.1).mono ?_; rintro r x1 ⟨rfl, hb⟩
                   have HX := Lib.hid (HJ.out.below prp_lies hb)
                   have cg : x1.cell? ⟨gp, i, none⟩ = some (.pointer (some ⟨gs i, 0, none⟩)) := (HX.out.pl.cell hij).trans (by unfold ptrV; rw [HW.out.2]; rfl)
                   clear hb)
                | (go_at_call 31; refine (charge_pl HX.out hij HW.out.2).mono ?_; rintro r x2 ⟨rfl, hn⟩
                   have HX2 := Lib.hid hn
                   have HX1 := Lib.hid (HX2.out.below prp_lies ((Below.refl x2.heap.size x2).alloc (Nat.le_refl _) (.cells #[.int .i64 i] 3)))
                   clear hn cg)
                | (at_builtin
                   refine wpList_append_lies _ (by rfl) _ _ 29 (by rfl) w.heap.size 3 i0 _ 1 8 Try.underlying29 hi0 hz0 hz1 hz2 (by rfl) (by decide) u11 k (l.map (Value.int .i64)) (by rfl) HX1.out.own ⟨x2.heap.size, 0, none⟩ 1 1 [.int .i64 i] (by rfl) (by rfl) (World.news_of_block (cs := #[.int .i64 i]) (t := 3) (fr := (0, 0)) (heap_alloc_new x2 _)) (by simp [Value.oneCell']) (by decide) hcap.out.1 hcap.out.2 HX1.out.pl.b.size (x2.heap.size + 1) (by simp) ?_
                   intro g cap w2 hown1 hgrow hat hlt
                   have HF := Lib.hid (HX1.out.app prp_lies (by decide) (by decide) hgrow hown1)
                   clear hown1 hgrow hat hlt))
              refine ⟨⟨k + 1, gs, by omega, by go_num, ?_⟩, by simp [intOf]; try omega⟩
              obtain ⟨r1, r2⟩ := runT_some HRK.out.1 HRK.out.2 HW.out.1 HW.out.2
              rw [r1, r2]
              exact HF.out
      · obtain rfl : k = N := by omega
        go_wp2_with fail
        go_ret2
        refine ⟨⟨_, 0, rfl, HE.out, fun h => absurd rfl h, fun _ => ?_⟩, HR.out.pl.b⟩
        rw [Int.toNat_natCast]
        exact HR.out.own
  · have hE0 : ∃ E, AskIs P B S m mb n E ∧ (E = 2 ∨ E = 5) := by
      by_cases h4 : 4 < m ∨ n < 0 ∨ 1000 < n
      · exact ⟨5, Or.inl ⟨rfl, h4⟩, Or.inr rfl⟩
      · refine ⟨2, Or.inr ⟨⟨by omega, by omega, by omega⟩, Or.inl ⟨rfl, ?_⟩⟩, Or.inl rfl⟩
        by_cases hm : mb = m
        · right
          intro h
          exact hE (Or.inr ⟨⟨by omega, by omega, by omega⟩, Or.inr ⟨rfl, hm, h⟩⟩)
        · left; exact hm
    obtain ⟨E0, hE0, h25⟩ := hE0
    have HE := Lib.hid hE0
    clear hE0 hE
    rcases h25 with rfl | rfl
    · go_enter Try.func45, Try.ntmps45
      go_wp2_with (go_at_call 61; refine (ask_any H1.out HI.out H2.out c c2 n).mono ?_; rintro r w1 ⟨⟨E, rfl, hE⟩, hb⟩; obtain rfl := hE.fun_ HE.out; have HB := Lib.hid hb; clear hE hb)
      go_ret2
      exact ⟨⟨_, 2, rfl, HE.out, fun _ => rfl, fun h => absurd h (by decide)⟩, HB.out⟩
    · go_enter Try.func45, Try.ntmps45
      go_wp2_with (go_at_call 61; refine (ask_any H1.out HI.out H2.out c c2 n).mono ?_; rintro r w1 ⟨⟨E, rfl, hE⟩, hb⟩; obtain rfl := hE.fun_ HE.out; have HB := Lib.hid hb; clear hE hb)
      go_ret2
      exact ⟨⟨_, 5, rfl, HE.out, fun _ => rfl, fun h => absurd h (by decide)⟩, HB.out⟩
end Go.Proofs.Ytogdpkeojccpcaa
