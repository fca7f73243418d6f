/- TurnWho: the walk of the law. -/
import Derived.Test.YtogdpkeojccpcaaTurnServ
namespace Go.Proofs.Ytogdpkeojccpcaa
set_option linter.all false
open Go.RowKit

/-- The purses of both, and their rows. -/
structure WhJ (w wr : World) (n ka : Nat) (va : Value) (kb : Nat) (vb : Value) (σ : Nat → Option PS) (gs gr : Nat → Nat) : Prop where
  oa : wr.ownsRow w.heap.size 40 1 va ka ((List.range ka).map (ptrV σ gs))
  ob : wr.ownsRow w.heap.size 52 1 vb kb ((List.range kb).map (ptrV σ gr))
  qa : ∀ i, i < n → ∀ s, σ i = some s → PrP wr (gs i) s ∧ RfP wr (gr i) s ∧ s.n = none ∧ 1 ≤ s.p
  b : Below w.heap.size w wr
section
variable {w wr : World} {n ka kb : Nat} {va vb : Value} {σ : Nat → Option PS} {gs gr : Nat → Nat}
theorem WhJ.upd (h : WhJ w wr n ka va kb vb σ gs gr) {w' : World} {R : Nat → Prop} (hu : Upd R wr w') (hR : ∀ k, R k → w.heap.size ≤ k) (h1 : ∀ k cs, Blk wr k 40 cs → ¬ R k) (h2 : ∀ k cs, Blk wr k 52 cs → ¬ R k)
    (h3 : ∀ i, i < n → (σ i).isSome → ¬ R (gs i) ∧ ¬ R (gr i)) : WhJ w w' n ka va kb vb σ gs gr :=
  ⟨own_far h.oa hu h1, own_far h.ob hu h2, fun i hi s hs => by
    obtain ⟨k1, k2, k3, k4⟩ := h.qa i hi s hs
    obtain ⟨k5, k6⟩ := h3 i hi (by rw [hs]; rfl)
    exact ⟨prp_lies.upd k1 k3 hu k5, rfp_lies.upd k2 k3 hu k6, k3, k4⟩, h.b.trans (hu.below h.b.size hR)⟩
theorem WhJ.below (h : WhJ w wr n ka va kb vb σ gs gr) {w' : World} (hb : Below wr.heap.size wr w') : WhJ w w' n ka va kb vb σ gs gr := by
  refine h.upd (Upd.of_below hb) (fun k hk => Nat.le_trans h.b.size hk) (fun k cs hc => by have := Blk.lt hc; omega) (fun k cs hc => by have := Blk.lt hc; omega) fun i hi hs => ?_
  cases hsi : σ i with
  | none => rw [hsi] at hs; cases hs
  | some s =>
    obtain ⟨k1, k2, _⟩ := h.qa i hi s hsi
    have := k1.lt
    have := k2.lt
    omega
theorem ptr_congr {σ σ' : Nat → Option PS} {gs gs' : Nat → Nat} {k : Nat} (h : ∀ i, i < k → σ i = σ' i ∧ gs i = gs' i) : (List.range k).map (ptrV σ gs) = (List.range k).map (ptrV σ' gs') := by
  apply List.map_congr_left
  intro i hi
  have := h i (by simpa using hi)
  unfold ptrV
  rw [this.1, this.2]
/-- One more of both, not yet appended. -/
theorem WhJ.more (h : WhJ w wr n n va n vb σ gs gr) {g g' : Nat} {o : Option PS} (ho : ∀ s, o = some s → PrP wr g s ∧ RfP wr g' s ∧ s.n = none ∧ 1 ≤ s.p) : WhJ w wr (n + 1) n va n vb (updO σ n o) (updN gs n g) (updN gr n g') := by
  have e1 : ∀ i, i < n → σ i = updO σ n o i ∧ gs i = updN gs n g i := fun i hi => ⟨by rw [updO_ne (by omega)], by unfold updN; rw [if_neg (by omega)]⟩
  have e2 : ∀ i, i < n → σ i = updO σ n o i ∧ gr i = updN gr n g' i := fun i hi => ⟨by rw [updO_ne (by omega)], by unfold updN; rw [if_neg (by omega)]⟩
  refine ⟨by rw [← ptr_congr e1]; exact h.oa, by rw [← ptr_congr e2]; exact h.ob, fun i hi s hs => ?_, h.b⟩
  by_cases hin : i = n
  · subst hin
    rw [updO_at] at hs
    unfold updN
    rw [if_pos rfl, if_pos rfl]
    exact ho s hs
  · rw [updO_ne hin] at hs
    unfold updN
    rw [if_neg hin, if_neg hin]
    exact h.qa i (by omega) s hs
theorem own_key {w wr : World} {e : TypeId} {v : Value} {k : Nat} {xs : List Value} (h : wr.ownsRow w.heap.size e 1 v k xs) : ∀ b, some b = v.ownBlock → w.heap.size ≤ b ∧ ∃ cs, Blk wr b e cs := fun b hb => by
  rcases h.2 with ⟨h1, _⟩ | ⟨gl, cap, cur, rfl, h0, hc, _⟩
  · rw [h1] at hb; simp [Value.ownBlock] at hb
  · have : some gl = some b := hb.symm
    cases this
    exact ⟨h0, cur, hc⟩
theorem WhJ.appA (h : WhJ w wr n ka va kb vb σ gs gr) {w' : World} {v' x : Value} {k' : Nat} (hk : k' = ka + 1) (hx : ptrV σ gs ka = x) (hg : wr.grownBy w' va.ownBlock) (ho : w'.ownsRow w.heap.size 40 1 v' k' ((List.range ka).map (ptrV σ gs) ++ [x])) : WhJ w w' n k' v' kb vb σ gs gr := by
  have hu : Upd (fun b => some b = va.ownBlock) wr w' := ⟨hg.os, hg.tape, hg.output, hg.size, fun b hb hn => hg.block b hb hn⟩
  have hkey := own_key h.oa
  refine ⟨by rw [hk, List.range_succ, List.map_append, ← hk, ← hx] at *; exact ho, own_far h.ob hu fun b cs hb e => ?_, fun i hi s hs => ?_, h.b.trans (hu.below h.b.size fun b e => (hkey b e).1)⟩
  · obtain ⟨_, cs', hc⟩ := hkey b e
    exact (hc.ne_ hb (by decide)) rfl
  · obtain ⟨k1, k2, k3, k4⟩ := h.qa i hi s hs
    refine ⟨prp_lies.upd k1 k3 hu fun e => ?_, rfp_lies.upd k2 k3 hu fun e => ?_, k3, k4⟩
    · obtain ⟨_, cs', hc⟩ := hkey _ e
      obtain ⟨cs2, hc2⟩ := prp_lies.blk k1
      exact (hc.ne_ hc2 (by decide)) rfl
    · obtain ⟨_, cs', hc⟩ := hkey _ e
      obtain ⟨cs2, hc2⟩ := rfp_lies.blk k2
      exact (hc.ne_ hc2 (by decide)) rfl
theorem WhJ.appB (h : WhJ w wr n ka va kb vb σ gs gr) {w' : World} {v' x : Value} {k' : Nat} (hk : k' = kb + 1) (hx : ptrV σ gr kb = x) (hg : wr.grownBy w' vb.ownBlock) (ho : w'.ownsRow w.heap.size 52 1 v' k' ((List.range kb).map (ptrV σ gr) ++ [x])) : WhJ w w' n ka va k' v' σ gs gr := by
  have hu : Upd (fun b => some b = vb.ownBlock) wr w' := ⟨hg.os, hg.tape, hg.output, hg.size, fun b hb hn => hg.block b hb hn⟩
  have hkey := own_key h.ob
  refine ⟨own_far h.oa hu fun b cs hb e => ?_, by rw [hk, List.range_succ, List.map_append, ← hk, ← hx] at *; exact ho, fun i hi s hs => ?_, h.b.trans (hu.below h.b.size fun b e => (hkey b e).1)⟩
  · obtain ⟨_, cs', hc⟩ := hkey b e
    exact (hc.ne_ hb (by decide)) rfl
  · obtain ⟨k1, k2, k3, k4⟩ := h.qa i hi s hs
    refine ⟨prp_lies.upd k1 k3 hu fun e => ?_, rfp_lies.upd k2 k3 hu fun e => ?_, k3, k4⟩
    · obtain ⟨_, cs', hc⟩ := hkey _ e
      obtain ⟨cs2, hc2⟩ := prp_lies.blk k1
      exact (hc.ne_ hc2 (by decide)) rfl
    · obtain ⟨_, cs', hc⟩ := hkey _ e
      obtain ⟨cs2, hc2⟩ := rfp_lies.blk k2
      exact (hc.ne_ hc2 (by decide)) rfl
end
theorem own_at {w wr : World} {e : TypeId} {A : Option Addr} {n c : Nat} {vs : Nat → Value} (h : wr.ownsRow w.heap.size e 1 (.slice A n c) n ((List.range n).map vs)) : n ≤ c ∨ n = 0 := by
  rcases h.2 with ⟨_, h0⟩ | ⟨g, cap, cur, hv, _, _, h1, _⟩
  · exact Or.inr h0
  · cases hv; exact Or.inl h1
theorem own_rows {w wr : World} {e : TypeId} {A : Option Addr} {n c : Nat} {vs : Nat → Value} (h : wr.ownsRow w.heap.size e 1 (.slice A n c) n ((List.range n).map vs)) : ∀ i, i < n → ∃ g, A = some ⟨g, 0, none⟩ ∧ g < wr.heap.size ∧ wr.cell? ⟨g, i, none⟩ = some (vs i) := by
  intro i hi
  rcases h.2 with ⟨_, h0⟩ | ⟨g, cap, cur, hv, _, hb, h1, h2, h3, h4⟩
  · omega
  · injection hv with hA
    refine ⟨g, hA, Blk.lt hb, ?_⟩
    rw [Blk.cell hb]
    have e : cur[i]? = (cur.toList.take (n * 1))[i]? := by rw [List.getElem?_take, if_pos (by omega), Array.getElem?_toList]
    rw [e, h4]
    simp [hi]
theorem WhJ.rowV {w wr : World} {n kb : Nat} {A : Option Addr} {c : Nat} {vb : Value} {σ : Nat → Option PS} {gs gr : Nat → Nat} (h : WhJ w wr n n (.slice A n c) kb vb σ gs gr) : RowV wr A n (ptrV σ gs) (vOf σ) :=
  ⟨own_rows h.oa, fun i hi _ => by
    unfold ptrV vOf
    cases hs : σ i with
    | none => exact Or.inl ⟨Or.inl rfl, rfl⟩
    | some s => exact Or.inr ⟨gs i, s, rfl, (h.qa i hi s hs).1, (h.qa i hi s hs).2.2.2, rfl⟩⟩
theorem WhJ.rowR {w wr : World} {n ka : Nat} {A : Option Addr} {c : Nat} {va : Value} {σ : Nat → Option PS} {gs gr : Nat → Nat} (h : WhJ w wr n ka va n (.slice A n c) σ gs gr) : RowR wr A n (ptrV σ gr) (vOf σ) :=
  ⟨own_rows h.ob, fun i hi _ => by
    unfold ptrV vOf
    cases hs : σ i with
    | none => exact Or.inl ⟨rfl, rfl⟩
    | some s => exact Or.inr ⟨gr i, s, rfl, (h.qa i hi s hs).2.1, rfl⟩⟩
theorem newE_or (p b t : Int) : newE p b t = 0 ∨ newE p b t = 2 ∨ newE p b t = 10 := by
  unfold newE; split
  · split
    · exact Or.inl rfl
    · exact Or.inr (Or.inr rfl)
  · exact Or.inr (Or.inl rfl)
theorem newE_zero {p b t : Int} (h : newE p b t = 0) : OkP p b ∧ 0 ≤ t ∧ t ≤ 1099511627776 := by
  unfold newE at h; split at h
  · rename_i h1
    split at h
    · rename_i h2; exact ⟨h1.1, h1.2, h2⟩
    · cases h
  · cases h
def iterC : Nat → PS → PS
  | 0, s => s
  | c + 1, s => chargeS (iterC c s)
theorem GoodS.iter {t : Int} {s : PS} (h : GoodS t s) (c : Nat) : GoodS t (iterC c s) := by
  induction c with
  | zero => exact h
  | succ c ih => exact ih.charge
/-- While a purse is charged. -/
structure ChJ (wr y : World) (g g' : Nat) (t : Int) (s : PS) : Prop where
  a : PrP y g s
  r : RfP y g' s
  good : GoodS t s
  b : Below wr.heap.size wr y
  hg : wr.heap.size ≤ g
  hr : wr.heap.size ≤ g'
theorem ChJ.chargeA {wr y : World} {g g' : Nat} {t : Int} {s : PS} (h : ChJ wr y g g' t s) : Calls Try.prog 31 #[.pointer (some ⟨g, 0, none⟩)] y fun r y' => r = .returned (.int .i64 (chargeE s)) ∧ PrP y' g (chargeS s) ∧ RfP y' g' s ∧ Below wr.heap.size wr y' := by
  refine (charge_any h.a h.good.ok.1 h.good.l).mono ?_
  rintro r y' ⟨rfl, hq, hu⟩
  exact ⟨rfl, hq, h.r.updP h.a (hu.mono fun k hk => Or.inl hk), h.b.trans (hu.below h.b.size fun k hk => by rw [hk]; exact h.hg)⟩
theorem ChJ.chargeR {wr y : World} {g g' : Nat} {t : Int} {s : PS} (h1 : PrP y g (chargeS s)) (h2 : RfP y g' s) (h3 : GoodS t s) (h4 : Below wr.heap.size wr y) (h5 : wr.heap.size ≤ g) (h6 : wr.heap.size ≤ g') : Calls Try.prog 36 #[.pointer (some ⟨g', 0, none⟩)] y fun r y' => r = .returned (.int .i64 (chargeE s)) ∧ ChJ wr y' g g' t (chargeS s) := by
  refine (rcharge_any h2 h3.l).mono ?_
  rintro r y' ⟨rfl, hq, hu⟩
  exact ⟨rfl, h1.updR h2 hu, hq, h3.charge, h4.trans (hu.below h4.size fun k hk => by rw [hk]; exact h6), h5, h6⟩

theorem PrP.below_ {w w' : World} {g : Nat} {s : PS} (h : PrP w g s) (hb : Below w.heap.size w w') : PrP w' g s := h.below hb
theorem who_any2 {w : World} {A : Option Addr} {n c : Nat} {vs : Nat → Value} {f : Nat → SlotV} {X : Int} {Y : Bool} (h : RowV w A n vs f) (hc : n ≤ c ∨ n = 0) (hX : (((whoF f (min n 4)).getD 0 : Nat) : Int) = X) (hY : (whoF f (min n 4)).isSome = Y) :
    Calls Try.prog 49 #[.slice A n c] w fun r w' => r = .returned (.tuple #[.int .i64 X, .bool Y]) ∧ Below w.heap.size w w' := by
  subst hX hY
  rcases hc with hc | rfl
  · exact who_any h hc
  · exact who_any h (Nat.zero_le _)
theorem rwho_any2 {w : World} {A : Option Addr} {n c : Nat} {vs : Nat → Value} {f : Nat → SlotV} {X : Int} {Y : Bool} (h : RowR w A n vs f) (hX : (((whoF f (min n 4)).getD 0 : Nat) : Int) = X) (hY : (whoF f (min n 4)).isSome = Y) :
    Calls Try.prog 50 #[.slice A n c] w fun r w' => r = .returned (.tuple #[.int .i64 X, .bool Y]) ∧ Below w.heap.size w w' := by
  subst hX hY
  exact rwho_any h

set_option maxRecDepth 100000 in
set_option maxHeartbeats 16000000 in
theorem turnWho_core (w : World) (A0 : Option Addr) (n0 c0 : Nat) (Z0 : Nat → Nat → Value) (m0 : n0 ≤ maxLen) (r0 : Rd w A0 n0 [.int .i64, .int .i64, .int .i64, .int .i64, .bool] Z0) :
    Calls Try.prog 12 #[.slice A0 n0 c0] w (Holds w) := by
  obtain ⟨K, hK⟩ : ∃ K, min n0 6 = K := ⟨_, rfl⟩
  have HK := Lib.hid hK
  have HR := Lib.hid r0
  clear hK m0 r0
  obtain ⟨ia, hia, ya0, ya1, ya2⟩ := info_parts infoPP
  obtain ⟨ib, hib, yb0, yb1, yb2⟩ := info_parts infoRP
  have HIA := Lib.hid (And.intro hia (And.intro ya0 (And.intro ya1 ya2)))
  have HIB := Lib.hid (And.intro hib (And.intro yb0 (And.intro yb1 yb2)))
  clear hia ya0 ya1 ya2 hib yb0 yb1 yb2
  go_enter Try.func12, Try.ntmps12
  go_wp2_with fail
  go_loopw [3, 4, 5] (fun va vb vi wr => ∃ (k : Nat) (σ : Nat → Option PS) (gs gr : Nat → Nat), k ≤ K ∧ vi = .int .i64 (k : Int) ∧ Hid (WhJ w wr k k va k vb σ gs gr)) (fun _ _ vi _ => K - (intOf vi).toNat)
  case atStart => exact ⟨0, fun _ => none, fun _ => 0, fun _ => 0, by omega, rfl, ⟨World.ownsRow_nil _ _ _ _, World.ownsRow_nil _ _ _ _, fun i hi => by omega, Below.refl _ _⟩⟩
  case round =>
    obtain ⟨k, σ, gs, gr, hk, rfl, HJ⟩ := hrel
    by_cases hkK : k < K
    · have hkn : k < n0 ∧ k < 6 := by have := HK.out; omega
      have hx0 : (0 : Int) ≤ k := by omega
      have hx1 : (k : Int) < n0 := by omega
      have hx2 : (k : Int) < 6 := by omega
      have w1 : IntKind.i64.wrap ((k : Int) + 1) = (k : Int) + 1 := IntWalk.i64_in _ (by omega)
      obtain ⟨gb, off, rfl, hlt, hcell⟩ := HR.out k hkn.1
      obtain ⟨c0', pk, hp, hpw⟩ := hcell 0 _ rfl
      obtain ⟨c1', bk, hb', hbw⟩ := hcell 1 _ rfl
      obtain ⟨c2', nk, hn', hnw⟩ := hcell 2 _ rfl
      obtain ⟨c3', ck, hc', hcw⟩ := hcell 3 _ rfl
      obtain ⟨c4', hk', hh'⟩ := hcell 4 _ rfl
      rw [hp] at c0'
      rw [hb'] at c1'
      rw [hn'] at c2'
      rw [hc'] at c3'
      rw [hh'] at c4'
      have hsz := HJ.out.b.size
      rw [← HJ.out.b.cell (p := ⟨gb, _, none⟩) hlt] at c0' c1' c2' c3' c4'
      simp [← Nat.add_assoc] at c0' c1' c2' c3' c4'
      have HI := Lib.hid (And.intro (wf_bounds hpw) (And.intro (wf_bounds hnw) (wf_bounds hcw)))
      have h63 : Hid (k + 1 ≤ maxLen ∧ (k + 1) * 8 ≤ 140737488355328) := ⟨by unfold maxLen; omega, by omega⟩
      have HC := Lib.hid (And.intro c0' (And.intro c1' (And.intro c2' (And.intro c3' c4'))))
      have hltr : gb < wr.heap.size := by omega
      clear hp hpw hb' hbw hn' hnw hc' hcw hh' hcell
      have hem0 := Int.emod_nonneg ck (b := 8) (by decide)
      have hem1 := Int.emod_lt_of_pos ck (b := 8) (by decide)
      obtain ⟨M, hM⟩ : ∃ M : Nat, ck % 8 = M := ⟨(ck % 8).toNat, by omega⟩
      have HM := Lib.hid hM
      have hM8 : M < 8 := by omega
      clear hem0 hem1 hM
      have hcase : (newE pk bk nk = 2 ∨ newE pk bk nk = 10 ∨ (newE pk bk nk = 0 ∧ hk' = true)) ∨ (newE pk bk nk = 0 ∧ hk' = false) := by
        rcases newE_or pk bk nk with h | h | h
        · cases hk' with
          | true => exact Or.inl (Or.inr (Or.inr ⟨h, rfl⟩))
          | false => exact Or.inr ⟨h, rfl⟩
        · exact Or.inl (Or.inl h)
        · exact Or.inl (Or.inr (Or.inl h))
      rcases hcase with hE | ⟨hE, rfl⟩
      · rcases hE with hE | hE | ⟨hE, rfl⟩
        · have HE := Lib.hid hE
          clear hE
          go_wp2_with fail
          go_region_held3 (fun w' => w'.cell? ⟨gb, off + k * 5, none⟩ = some (.int .i64 pk) ∧ w'.cell? ⟨gb, off + k * 5 + 1, none⟩ = some (.int .i64 bk) ∧ w'.cell? ⟨gb, off + k * 5 + 2, none⟩ = some (.int .i64 nk)) (first | go_keep | (exact E1.out))
            (first | (go_at_call 27; refine (new_any pk bk nk _ HI.out.1 HI.out.2.1).mono ?_; rintro r x1 ⟨a, rfl, hb, -, ha⟩; rw [HE.out] at ha ⊢
                      have hbw : Below wr.heap.size wr x1 := (Below.refl wr.heap.size wr).drew.trans hb
                      have E1 : Hid (x1.cell? ⟨gb, off + k * 5, none⟩ = some (.int .i64 pk) ∧ x1.cell? ⟨gb, off + k * 5 + 1, none⟩ = some (.int .i64 bk) ∧ x1.cell? ⟨gb, off + k * 5 + 2, none⟩ = some (.int .i64 nk)) := ⟨(hbw.cell (p := ⟨gb, off + k * 5, none⟩) hltr).trans HC.out.1, (hbw.cell (p := ⟨gb, off + k * 5 + 1, none⟩) hltr).trans HC.out.2.1, (hbw.cell (p := ⟨gb, off + k * 5 + 2, none⟩) hltr).trans HC.out.2.2.1⟩
                      have HB1 := Lib.hid hbw
                      clear hb ha hbw))
          clear c0' c1' c2' c3' c4'
          have c0' := (HB1.out.cell (p := ⟨gb, off + k * 5, none⟩) hltr).trans HC.out.1
          have c1' := (HB1.out.cell (p := ⟨gb, off + k * 5 + 1, none⟩) hltr).trans HC.out.2.1
          have c2' := (HB1.out.cell (p := ⟨gb, off + k * 5 + 2, none⟩) hltr).trans HC.out.2.2.1
          have T1 := Lib.hid True.intro
          go_wp2_with fail
          go_region_held3 (fun w' => w'.cell? ⟨gb, off + k * 5, none⟩ = some (.int .i64 pk) ∧ w'.cell? ⟨gb, off + k * 5 + 1, none⟩ = some (.int .i64 bk) ∧ w'.cell? ⟨gb, off + k * 5 + 2, none⟩ = some (.int .i64 nk)) (first | go_keep | (exact E2.out))
            (first | (go_at_call 35; refine (rnew_any pk bk nk _ HI.out.1 HI.out.2.1).mono ?_; rintro r x2 ⟨a', rfl, hb, -, ha⟩; rw [HE.out] at ha ⊢
                      have hbw : Below wr.heap.size wr x2 := HB1.out.drew.trans (hb.mono HB1.out.size)
                      have E2 : Hid (x2.cell? ⟨gb, off + k * 5, none⟩ = some (.int .i64 pk) ∧ x2.cell? ⟨gb, off + k * 5 + 1, none⟩ = some (.int .i64 bk) ∧ x2.cell? ⟨gb, off + k * 5 + 2, none⟩ = some (.int .i64 nk)) := ⟨(hbw.cell (p := ⟨gb, off + k * 5, none⟩) hltr).trans HC.out.1, (hbw.cell (p := ⟨gb, off + k * 5 + 1, none⟩) hltr).trans HC.out.2.1, (hbw.cell (p := ⟨gb, off + k * 5 + 2, none⟩) hltr).trans HC.out.2.2.1⟩
                      have HB2 := Lib.hid hbw
                      clear hb ha hbw))
          clear c0' c1' c2'
          have c3' := (HB2.out.cell (p := ⟨gb, off + k * 5 + 3, none⟩) hltr).trans HC.out.2.2.2.1
          have c4' := (HB2.out.cell (p := ⟨gb, off + k * 5 + 4, none⟩) hltr).trans HC.out.2.2.2.2
          go_wp2_with fail
          have HJ2 := Lib.hid ((HJ.out.below HB2.out).more (g := 0) (g' := 0) (o := none) (fun s hs => by cases hs))
          go_loopw [10] (fun vc y => vc = .int .i64 0 ∧ Hid (y = x2)) (fun _ _ => 0)
          case atStart => exact ⟨rfl, rfl⟩
          case round =>
            obtain ⟨rfl, hy⟩ := hrel
            obtain rfl := hy.out
            have hpx : ptrV (updO σ k none) (updN gs k 0) k = .pointer none := by unfold ptrV; rw [updO_at]; rfl
            have hpx2 : ptrV (updO σ k none) (updN gr k 0) k = .pointer none := by unfold ptrV; rw [updO_at]; rfl
            have HPX := Lib.hid (And.intro hpx hpx2)
            clear hpx hpx2
            have HJ3 := Lib.hid (HJ2.out.below ((Below.refl wr.heap.size wr).alloc (Nat.le_refl _) (.cells #[.pointer none] 40)))
            go_wp2_with (first
              | (go_at_call 22; refine (bring_any ck 8 _ HI.out.2.2 ⟨by decide, by decide⟩).mono ?_; rintro r x3 ⟨rfl, -, rfl⟩; rw [HM.out])
              | (at_builtin
                 refine wpList_append_lies _ (by rfl) _ _ 72 (by rfl) w.heap.size 40 _ _ 1 8 Try.underlying72 HIA.out.1 HIA.out.2.1 HIA.out.2.2.1 HIA.out.2.2.2 (by rfl) (by decide) u3 k ((List.range k).map (ptrV (updO σ k none) (updN gs k 0))) (by rfl) HJ3.out.oa ⟨wr.heap.size, 0, none⟩ 1 1 [.pointer none] (by rfl) (by rfl) (World.news_of_block (cs := #[.pointer none]) (t := 40) (fr := (0, 0)) (heap_alloc_new wr _)) (by simp [Value.oneCell']) (by decide) h63.out.1 h63.out.2 HJ3.out.b.size (wr.heap.size + 1) (by simp) ?_
                 intro g3 cap3 x4 hown1 hgrow hat hlt1
                 have HJ4 := Lib.hid (HJ3.out.appA rfl HPX.out.1 hgrow hown1)
                 have HJ5 := Lib.hid (HJ4.out.below ((Below.refl x4.heap.size x4).alloc (Nat.le_refl _) (.cells #[.pointer none] 52)))
                 clear hown1 hgrow hat hlt1)
              | (at_builtin
                 refine wpList_append_lies _ (by rfl) _ _ 73 (by rfl) w.heap.size 52 _ _ 1 8 Try.underlying73 HIB.out.1 HIB.out.2.1 HIB.out.2.2.1 HIB.out.2.2.2 (by rfl) (by decide) u4 k ((List.range k).map (ptrV (updO σ k none) (updN gr k 0))) (by rfl) HJ5.out.ob ⟨x4.heap.size, 0, none⟩ 1 1 [.pointer none] (by rfl) (by rfl) (World.news_of_block (cs := #[.pointer none]) (t := 52) (fr := (0, 0)) (heap_alloc_new x4 _)) (by simp [Value.oneCell']) (by decide) h63.out.1 h63.out.2 HJ5.out.b.size (x4.heap.size + 1) (by simp) ?_
                 intro g3 cap3 x5 hown1 hgrow hat hlt1
                 have HJ6 := Lib.hid (HJ5.out.appB rfl HPX.out.2 hgrow hown1)
                 clear hown1 hgrow hat hlt1))
            all_goals
              refine ⟨⟨k + 1, updO σ k none, updN gs k 0, updN gr k 0, by omega, by go_num, ?_⟩, by simp [intOf]; try omega⟩
              exact HJ6.out
        · have HE := Lib.hid hE
          clear hE
          go_wp2_with fail
          go_region_held3 (fun w' => w'.cell? ⟨gb, off + k * 5, none⟩ = some (.int .i64 pk) ∧ w'.cell? ⟨gb, off + k * 5 + 1, none⟩ = some (.int .i64 bk) ∧ w'.cell? ⟨gb, off + k * 5 + 2, none⟩ = some (.int .i64 nk)) (first | go_keep | (exact E1.out))
            (first | (go_at_call 27; refine (new_any pk bk nk _ HI.out.1 HI.out.2.1).mono ?_; rintro r x1 ⟨a, rfl, hb, -, ha⟩; rw [HE.out] at ha ⊢
                      have hbw : Below wr.heap.size wr x1 := (Below.refl wr.heap.size wr).drew.trans hb
                      have E1 : Hid (x1.cell? ⟨gb, off + k * 5, none⟩ = some (.int .i64 pk) ∧ x1.cell? ⟨gb, off + k * 5 + 1, none⟩ = some (.int .i64 bk) ∧ x1.cell? ⟨gb, off + k * 5 + 2, none⟩ = some (.int .i64 nk)) := ⟨(hbw.cell (p := ⟨gb, off + k * 5, none⟩) hltr).trans HC.out.1, (hbw.cell (p := ⟨gb, off + k * 5 + 1, none⟩) hltr).trans HC.out.2.1, (hbw.cell (p := ⟨gb, off + k * 5 + 2, none⟩) hltr).trans HC.out.2.2.1⟩
                      have HB1 := Lib.hid hbw
                      clear hb ha hbw))
          clear c0' c1' c2' c3' c4'
          have c0' := (HB1.out.cell (p := ⟨gb, off + k * 5, none⟩) hltr).trans HC.out.1
          have c1' := (HB1.out.cell (p := ⟨gb, off + k * 5 + 1, none⟩) hltr).trans HC.out.2.1
          have c2' := (HB1.out.cell (p := ⟨gb, off + k * 5 + 2, none⟩) hltr).trans HC.out.2.2.1
          have T1 := Lib.hid True.intro
          go_wp2_with fail
          go_region_held3 (fun w' => w'.cell? ⟨gb, off + k * 5, none⟩ = some (.int .i64 pk) ∧ w'.cell? ⟨gb, off + k * 5 + 1, none⟩ = some (.int .i64 bk) ∧ w'.cell? ⟨gb, off + k * 5 + 2, none⟩ = some (.int .i64 nk)) (first | go_keep | (exact E2.out))
            (first | (go_at_call 35; refine (rnew_any pk bk nk _ HI.out.1 HI.out.2.1).mono ?_; rintro r x2 ⟨a', rfl, hb, -, ha⟩; rw [HE.out] at ha ⊢
                      have hbw : Below wr.heap.size wr x2 := HB1.out.drew.trans (hb.mono HB1.out.size)
                      have E2 : Hid (x2.cell? ⟨gb, off + k * 5, none⟩ = some (.int .i64 pk) ∧ x2.cell? ⟨gb, off + k * 5 + 1, none⟩ = some (.int .i64 bk) ∧ x2.cell? ⟨gb, off + k * 5 + 2, none⟩ = some (.int .i64 nk)) := ⟨(hbw.cell (p := ⟨gb, off + k * 5, none⟩) hltr).trans HC.out.1, (hbw.cell (p := ⟨gb, off + k * 5 + 1, none⟩) hltr).trans HC.out.2.1, (hbw.cell (p := ⟨gb, off + k * 5 + 2, none⟩) hltr).trans HC.out.2.2.1⟩
                      have HB2 := Lib.hid hbw
                      clear hb ha hbw))
          clear c0' c1' c2'
          have c3' := (HB2.out.cell (p := ⟨gb, off + k * 5 + 3, none⟩) hltr).trans HC.out.2.2.2.1
          have c4' := (HB2.out.cell (p := ⟨gb, off + k * 5 + 4, none⟩) hltr).trans HC.out.2.2.2.2
          go_wp2_with fail
          have HJ2 := Lib.hid ((HJ.out.below HB2.out).more (g := 0) (g' := 0) (o := none) (fun s hs => by cases hs))
          go_loopw [10] (fun vc y => vc = .int .i64 0 ∧ Hid (y = x2)) (fun _ _ => 0)
          case atStart => exact ⟨rfl, rfl⟩
          case round =>
            obtain ⟨rfl, hy⟩ := hrel
            obtain rfl := hy.out
            have hpx : ptrV (updO σ k none) (updN gs k 0) k = .pointer none := by unfold ptrV; rw [updO_at]; rfl
            have hpx2 : ptrV (updO σ k none) (updN gr k 0) k = .pointer none := by unfold ptrV; rw [updO_at]; rfl
            have HPX := Lib.hid (And.intro hpx hpx2)
            clear hpx hpx2
            have HJ3 := Lib.hid (HJ2.out.below ((Below.refl wr.heap.size wr).alloc (Nat.le_refl _) (.cells #[.pointer none] 40)))
            go_wp2_with (first
              | (go_at_call 22; refine (bring_any ck 8 _ HI.out.2.2 ⟨by decide, by decide⟩).mono ?_; rintro r x3 ⟨rfl, -, rfl⟩; rw [HM.out])
              | (at_builtin
                 refine wpList_append_lies _ (by rfl) _ _ 72 (by rfl) w.heap.size 40 _ _ 1 8 Try.underlying72 HIA.out.1 HIA.out.2.1 HIA.out.2.2.1 HIA.out.2.2.2 (by rfl) (by decide) u3 k ((List.range k).map (ptrV (updO σ k none) (updN gs k 0))) (by rfl) HJ3.out.oa ⟨wr.heap.size, 0, none⟩ 1 1 [.pointer none] (by rfl) (by rfl) (World.news_of_block (cs := #[.pointer none]) (t := 40) (fr := (0, 0)) (heap_alloc_new wr _)) (by simp [Value.oneCell']) (by decide) h63.out.1 h63.out.2 HJ3.out.b.size (wr.heap.size + 1) (by simp) ?_
                 intro g3 cap3 x4 hown1 hgrow hat hlt1
                 have HJ4 := Lib.hid (HJ3.out.appA rfl HPX.out.1 hgrow hown1)
                 have HJ5 := Lib.hid (HJ4.out.below ((Below.refl x4.heap.size x4).alloc (Nat.le_refl _) (.cells #[.pointer none] 52)))
                 clear hown1 hgrow hat hlt1)
              | (at_builtin
                 refine wpList_append_lies _ (by rfl) _ _ 73 (by rfl) w.heap.size 52 _ _ 1 8 Try.underlying73 HIB.out.1 HIB.out.2.1 HIB.out.2.2.1 HIB.out.2.2.2 (by rfl) (by decide) u4 k ((List.range k).map (ptrV (updO σ k none) (updN gr k 0))) (by rfl) HJ5.out.ob ⟨x4.heap.size, 0, none⟩ 1 1 [.pointer none] (by rfl) (by rfl) (World.news_of_block (cs := #[.pointer none]) (t := 52) (fr := (0, 0)) (heap_alloc_new x4 _)) (by simp [Value.oneCell']) (by decide) h63.out.1 h63.out.2 HJ5.out.b.size (x4.heap.size + 1) (by simp) ?_
                 intro g3 cap3 x5 hown1 hgrow hat hlt1
                 have HJ6 := Lib.hid (HJ5.out.appB rfl HPX.out.2 hgrow hown1)
                 clear hown1 hgrow hat hlt1))
            all_goals
              refine ⟨⟨k + 1, updO σ k none, updN gs k 0, updN gr k 0, by omega, by go_num, ?_⟩, by simp [intOf]; try omega⟩
              exact HJ6.out
        · have HE := Lib.hid hE
          clear hE
          go_wp2_with fail
          go_region_held3 (fun w' => w'.cell? ⟨gb, off + k * 5, none⟩ = some (.int .i64 pk) ∧ w'.cell? ⟨gb, off + k * 5 + 1, none⟩ = some (.int .i64 bk) ∧ w'.cell? ⟨gb, off + k * 5 + 2, none⟩ = some (.int .i64 nk)) (first | go_keep | (exact E1.out))
            (first | (go_at_call 27; refine (new_any pk bk nk _ HI.out.1 HI.out.2.1).mono ?_; rintro r x1 ⟨a, rfl, hb, -, ha⟩; rw [HE.out] at ha ⊢
                      have hbw : Below wr.heap.size wr x1 := (Below.refl wr.heap.size wr).drew.trans hb
                      have E1 : Hid (x1.cell? ⟨gb, off + k * 5, none⟩ = some (.int .i64 pk) ∧ x1.cell? ⟨gb, off + k * 5 + 1, none⟩ = some (.int .i64 bk) ∧ x1.cell? ⟨gb, off + k * 5 + 2, none⟩ = some (.int .i64 nk)) := ⟨(hbw.cell (p := ⟨gb, off + k * 5, none⟩) hltr).trans HC.out.1, (hbw.cell (p := ⟨gb, off + k * 5 + 1, none⟩) hltr).trans HC.out.2.1, (hbw.cell (p := ⟨gb, off + k * 5 + 2, none⟩) hltr).trans HC.out.2.2.1⟩
                      have HB1 := Lib.hid hbw
                      clear hb ha hbw))
          clear c0' c1' c2' c3' c4'
          have c0' := (HB1.out.cell (p := ⟨gb, off + k * 5, none⟩) hltr).trans HC.out.1
          have c1' := (HB1.out.cell (p := ⟨gb, off + k * 5 + 1, none⟩) hltr).trans HC.out.2.1
          have c2' := (HB1.out.cell (p := ⟨gb, off + k * 5 + 2, none⟩) hltr).trans HC.out.2.2.1
          have T1 := Lib.hid True.intro
          go_wp2_with fail
          go_region_held3 (fun w' => w'.cell? ⟨gb, off + k * 5, none⟩ = some (.int .i64 pk) ∧ w'.cell? ⟨gb, off + k * 5 + 1, none⟩ = some (.int .i64 bk) ∧ w'.cell? ⟨gb, off + k * 5 + 2, none⟩ = some (.int .i64 nk)) (first | go_keep | (exact E2.out))
            (first | (go_at_call 35; refine (rnew_any pk bk nk _ HI.out.1 HI.out.2.1).mono ?_; rintro r x2 ⟨a', rfl, hb, -, ha⟩; rw [HE.out] at ha ⊢
                      have hbw : Below wr.heap.size wr x2 := HB1.out.drew.trans (hb.mono HB1.out.size)
                      have E2 : Hid (x2.cell? ⟨gb, off + k * 5, none⟩ = some (.int .i64 pk) ∧ x2.cell? ⟨gb, off + k * 5 + 1, none⟩ = some (.int .i64 bk) ∧ x2.cell? ⟨gb, off + k * 5 + 2, none⟩ = some (.int .i64 nk)) := ⟨(hbw.cell (p := ⟨gb, off + k * 5, none⟩) hltr).trans HC.out.1, (hbw.cell (p := ⟨gb, off + k * 5 + 1, none⟩) hltr).trans HC.out.2.1, (hbw.cell (p := ⟨gb, off + k * 5 + 2, none⟩) hltr).trans HC.out.2.2.1⟩
                      have HB2 := Lib.hid hbw
                      clear hb ha hbw))
          clear c0' c1' c2'
          have c3' := (HB2.out.cell (p := ⟨gb, off + k * 5 + 3, none⟩) hltr).trans HC.out.2.2.2.1
          have c4' := (HB2.out.cell (p := ⟨gb, off + k * 5 + 4, none⟩) hltr).trans HC.out.2.2.2.2
          go_wp2_with fail
          have HJ2 := Lib.hid ((HJ.out.below HB2.out).more (g := 0) (g' := 0) (o := none) (fun s hs => by cases hs))
          go_loopw [10] (fun vc y => vc = .int .i64 0 ∧ Hid (y = x2)) (fun _ _ => 0)
          case atStart => exact ⟨rfl, rfl⟩
          case round =>
            obtain ⟨rfl, hy⟩ := hrel
            obtain rfl := hy.out
            have hpx : ptrV (updO σ k none) (updN gs k 0) k = .pointer none := by unfold ptrV; rw [updO_at]; rfl
            have hpx2 : ptrV (updO σ k none) (updN gr k 0) k = .pointer none := by unfold ptrV; rw [updO_at]; rfl
            have HPX := Lib.hid (And.intro hpx hpx2)
            clear hpx hpx2
            have HJ3 := Lib.hid (HJ2.out.below ((Below.refl wr.heap.size wr).alloc (Nat.le_refl _) (.cells #[.pointer none] 40)))
            go_wp2_with (first
              | (go_at_call 22; refine (bring_any ck 8 _ HI.out.2.2 ⟨by decide, by decide⟩).mono ?_; rintro r x3 ⟨rfl, -, rfl⟩; rw [HM.out])
              | (at_builtin
                 refine wpList_append_lies _ (by rfl) _ _ 72 (by rfl) w.heap.size 40 _ _ 1 8 Try.underlying72 HIA.out.1 HIA.out.2.1 HIA.out.2.2.1 HIA.out.2.2.2 (by rfl) (by decide) u3 k ((List.range k).map (ptrV (updO σ k none) (updN gs k 0))) (by rfl) HJ3.out.oa ⟨wr.heap.size, 0, none⟩ 1 1 [.pointer none] (by rfl) (by rfl) (World.news_of_block (cs := #[.pointer none]) (t := 40) (fr := (0, 0)) (heap_alloc_new wr _)) (by simp [Value.oneCell']) (by decide) h63.out.1 h63.out.2 HJ3.out.b.size (wr.heap.size + 1) (by simp) ?_
                 intro g3 cap3 x4 hown1 hgrow hat hlt1
                 have HJ4 := Lib.hid (HJ3.out.appA rfl HPX.out.1 hgrow hown1)
                 have HJ5 := Lib.hid (HJ4.out.below ((Below.refl x4.heap.size x4).alloc (Nat.le_refl _) (.cells #[.pointer none] 52)))
                 clear hown1 hgrow hat hlt1)
              | (at_builtin
                 refine wpList_append_lies _ (by rfl) _ _ 73 (by rfl) w.heap.size 52 _ _ 1 8 Try.underlying73 HIB.out.1 HIB.out.2.1 HIB.out.2.2.1 HIB.out.2.2.2 (by rfl) (by decide) u4 k ((List.range k).map (ptrV (updO σ k none) (updN gr k 0))) (by rfl) HJ5.out.ob ⟨x4.heap.size, 0, none⟩ 1 1 [.pointer none] (by rfl) (by rfl) (World.news_of_block (cs := #[.pointer none]) (t := 52) (fr := (0, 0)) (heap_alloc_new x4 _)) (by simp [Value.oneCell']) (by decide) h63.out.1 h63.out.2 HJ5.out.b.size (x4.heap.size + 1) (by simp) ?_
                 intro g3 cap3 x5 hown1 hgrow hat hlt1
                 have HJ6 := Lib.hid (HJ5.out.appB rfl HPX.out.2 hgrow hown1)
                 clear hown1 hgrow hat hlt1))
            all_goals
              refine ⟨⟨k + 1, updO σ k none, updN gs k 0, updN gr k 0, by omega, by go_num, ?_⟩, by simp [intOf]; try omega⟩
              exact HJ6.out
      · have HE := Lib.hid hE
        have hz := newE_zero hE
        have HZ := Lib.hid hz
        clear hE hz
        go_wp2_with fail
        go_region_held3 (fun w' => w'.cell? ⟨gb, off + k * 5, none⟩ = some (.int .i64 pk) ∧ w'.cell? ⟨gb, off + k * 5 + 1, none⟩ = some (.int .i64 bk) ∧ w'.cell? ⟨gb, off + k * 5 + 2, none⟩ = some (.int .i64 nk)) (first | go_keep | (exact E1.out))
          (first | (go_at_call 27; refine (new_any pk bk nk _ HI.out.1 HI.out.2.1).mono ?_; rintro r x1 ⟨a, rfl, hb, -, ha⟩; rw [HE.out] at ha ⊢
                    have hbw : Below wr.heap.size wr x1 := (Below.refl wr.heap.size wr).drew.trans hb
                    have E1 : Hid (x1.cell? ⟨gb, off + k * 5, none⟩ = some (.int .i64 pk) ∧ x1.cell? ⟨gb, off + k * 5 + 1, none⟩ = some (.int .i64 bk) ∧ x1.cell? ⟨gb, off + k * 5 + 2, none⟩ = some (.int .i64 nk)) := ⟨(hbw.cell (p := ⟨gb, off + k * 5, none⟩) hltr).trans HC.out.1, (hbw.cell (p := ⟨gb, off + k * 5 + 1, none⟩) hltr).trans HC.out.2.1, (hbw.cell (p := ⟨gb, off + k * 5 + 2, none⟩) hltr).trans HC.out.2.2.1⟩
                    obtain ⟨g, hg, rfl, hq⟩ := ha rfl
                    have HQ1 := Lib.hid (And.intro hq (show wr.heap.size ≤ g from hg))
                    have ha := True.intro
                    have HB1 := Lib.hid hbw
                    clear hb ha hbw))
        clear c0' c1' c2' c3' c4'
        have c0' := (HB1.out.cell (p := ⟨gb, off + k * 5, none⟩) hltr).trans HC.out.1
        have c1' := (HB1.out.cell (p := ⟨gb, off + k * 5 + 1, none⟩) hltr).trans HC.out.2.1
        have c2' := (HB1.out.cell (p := ⟨gb, off + k * 5 + 2, none⟩) hltr).trans HC.out.2.2.1
        have T1 := Lib.hid True.intro
        go_wp2_with fail
        go_region_held3 (fun w' => w'.cell? ⟨gb, off + k * 5, none⟩ = some (.int .i64 pk) ∧ w'.cell? ⟨gb, off + k * 5 + 1, none⟩ = some (.int .i64 bk) ∧ w'.cell? ⟨gb, off + k * 5 + 2, none⟩ = some (.int .i64 nk)) (first | go_keep | (exact E2.out))
          (first | (go_at_call 35; refine (rnew_any pk bk nk _ HI.out.1 HI.out.2.1).mono ?_; rintro r x2 ⟨a', rfl, hb, -, ha⟩; rw [HE.out] at ha ⊢
                    have hbw : Below wr.heap.size wr x2 := HB1.out.drew.trans (hb.mono HB1.out.size)
                    have E2 : Hid (x2.cell? ⟨gb, off + k * 5, none⟩ = some (.int .i64 pk) ∧ x2.cell? ⟨gb, off + k * 5 + 1, none⟩ = some (.int .i64 bk) ∧ x2.cell? ⟨gb, off + k * 5 + 2, none⟩ = some (.int .i64 nk)) := ⟨(hbw.cell (p := ⟨gb, off + k * 5, none⟩) hltr).trans HC.out.1, (hbw.cell (p := ⟨gb, off + k * 5 + 1, none⟩) hltr).trans HC.out.2.1, (hbw.cell (p := ⟨gb, off + k * 5 + 2, none⟩) hltr).trans HC.out.2.2.1⟩
                    obtain ⟨g', hg', rfl, hq'⟩ := ha rfl
                    have HQ2 := Lib.hid (And.intro hq' (show wr.heap.size ≤ g' from Nat.le_trans HB1.out.size hg'))
                    have HB12 : Hid (Below x1.heap.size x1 x2) := (Below.refl x1.heap.size x1).drew.trans hb
                    have ha := True.intro
                    have HB2 := Lib.hid hbw
                    clear hb ha hbw))
        clear c0' c1' c2'
        have c3' := (HB2.out.cell (p := ⟨gb, off + k * 5 + 3, none⟩) hltr).trans HC.out.2.2.2.1
        have c4' := (HB2.out.cell (p := ⟨gb, off + k * 5 + 4, none⟩) hltr).trans HC.out.2.2.2.2
        go_wp2_with fail
        have HC0 : Hid (ChJ wr x2 g g' nk (newS pk bk nk)) := ⟨HQ1.out.1.below_ HB12.out, HQ2.out.1, GoodS.new HZ.out.1 HZ.out.2.1, HB2.out, HQ1.out.2, HQ2.out.2⟩
        go_loopw [10] (fun vc y => ∃ c : Nat, c ≤ M ∧ vc = .int .i64 (c : Int) ∧ Hid (ChJ wr y g g' nk (iterC c (newS pk bk nk)))) (fun vc _ => M - (intOf vc).toNat)
        case atStart => exact ⟨0, by omega, rfl, HC0.out⟩
        case round =>
          obtain ⟨c, hcM, rfl, HCJ⟩ := hrel
          clear HC0
          clear c3' c4'
          have c3' := (HCJ.out.b.cell (p := ⟨gb, off + k * 5 + 3, none⟩) hltr).trans HC.out.2.2.2.1
          have wc : IntKind.i64.wrap ((c : Int) + 1) = (c : Int) + 1 := IntWalk.i64_in _ (by omega)
          by_cases hcm : c < M
          · have hcm' : (c : Int) < M := by omega
            have hcm2 : decide ((c : Int) < (M : Int)) = true := decide_eq_true hcm'
            go_wp2_with (first
              | (go_at_call 22; refine (bring_any ck 8 _ HI.out.2.2 ⟨by decide, by decide⟩).mono ?_; rintro r x3 ⟨rfl, -, rfl⟩; rw [HM.out])
              | (go_at_call 31; refine HCJ.out.chargeA.mono ?_; rintro r x4 ⟨rfl, ha, hr, hb⟩; have HCA := Lib.hid (And.intro ha (And.intro hr hb)); clear ha hr hb)
              | (go_at_call 36; refine (ChJ.chargeR HCA.out.1 HCA.out.2.1 HCJ.out.good HCA.out.2.2 HCJ.out.hg HCJ.out.hr).mono ?_; rintro r x5 ⟨rfl, hc⟩; have HC5 := Lib.hid hc; clear hc))
            exact ⟨⟨c + 1, by omega, by go_num, HC5.out⟩, by simp [intOf]; try omega⟩
          · obtain rfl : c = M := by omega
            obtain ⟨s, hs⟩ : ∃ s, iterC c (newS pk bk nk) = s := ⟨_, rfl⟩
            rw [hs] at HCJ
            clear hs
            have HJ2 := Lib.hid ((HJ.out.below HCJ.out.b).more (g := g) (g' := g') (o := some s) (fun s' hs' => by cases hs'; exact ⟨HCJ.out.a, HCJ.out.r, HCJ.out.good.n, HCJ.out.good.ok.1⟩))
            have hpx : ptrV (updO σ k (some s)) (updN gs k g) k = .pointer (some ⟨g, 0, none⟩) := by unfold ptrV updN; rw [updO_at, if_pos rfl]; rfl
            have hpx2 : ptrV (updO σ k (some s)) (updN gr k g') k = .pointer (some ⟨g', 0, none⟩) := by unfold ptrV updN; rw [updO_at, if_pos rfl]; rfl
            have HPX := Lib.hid (And.intro hpx hpx2)
            clear hpx hpx2
            have HJ3 := Lib.hid (HJ2.out.below ((Below.refl _ _).alloc (Nat.le_refl _) (.cells #[.pointer (some ⟨g, 0, none⟩)] 40)))
            go_wp2_with (first
              | (go_at_call 22; refine (bring_any ck 8 _ HI.out.2.2 ⟨by decide, by decide⟩).mono ?_; rintro r x3 ⟨rfl, -, rfl⟩; rw [HM.out])
              | (at_builtin
                 refine wpList_append_lies _ (by rfl) _ _ 72 (by rfl) w.heap.size 40 _ _ 1 8 Try.underlying72 HIA.out.1 HIA.out.2.1 HIA.out.2.2.1 HIA.out.2.2.2 (by rfl) (by decide) u3 k ((List.range k).map (ptrV (updO σ k (some s)) (updN gs k g))) (by rfl) HJ3.out.oa ⟨wr.heap.size, 0, none⟩ 1 1 [.pointer (some ⟨g, 0, none⟩)] (by rfl) (by rfl) (World.news_of_block (cs := #[.pointer (some ⟨g, 0, none⟩)]) (t := 40) (fr := (0, 0)) (heap_alloc_new wr _)) (by simp [Value.oneCell']) (by decide) h63.out.1 h63.out.2 HJ3.out.b.size (wr.heap.size + 1) (by simp) ?_
                 intro g3 cap3 x4 hown1 hgrow hat hlt1
                 have HJ4 := Lib.hid (HJ3.out.appA rfl HPX.out.1 hgrow hown1)
                 have HJ5 := Lib.hid (HJ4.out.below ((Below.refl x4.heap.size x4).alloc (Nat.le_refl _) (.cells #[.pointer (some ⟨g', 0, none⟩)] 52)))
                 clear hown1 hgrow hat hlt1)
              | (at_builtin
                 refine wpList_append_lies _ (by rfl) _ _ 73 (by rfl) w.heap.size 52 _ _ 1 8 Try.underlying73 HIB.out.1 HIB.out.2.1 HIB.out.2.2.1 HIB.out.2.2.2 (by rfl) (by decide) u4 k ((List.range k).map (ptrV (updO σ k (some s)) (updN gr k g'))) (by rfl) HJ5.out.ob ⟨x4.heap.size, 0, none⟩ 1 1 [.pointer (some ⟨g', 0, none⟩)] (by rfl) (by rfl) (World.news_of_block (cs := #[.pointer (some ⟨g', 0, none⟩)]) (t := 52) (fr := (0, 0)) (heap_alloc_new x4 _)) (by simp [Value.oneCell']) (by decide) h63.out.1 h63.out.2 HJ5.out.b.size (x4.heap.size + 1) (by simp) ?_
                 intro g3 cap3 x5 hown1 hgrow hat hlt1
                 have HJ6 := Lib.hid (HJ5.out.appB rfl HPX.out.2 hgrow hown1)
                 clear hown1 hgrow hat hlt1))
            refine ⟨⟨k + 1, updO σ k (some s), updN gs k g, updN gr k g', by omega, by go_num, ?_⟩, by simp [intOf]; try omega⟩
            exact HJ6.out
    · obtain rfl : k = K := by omega
      have hend : ¬ ((k : Int) < n0 ∧ (k : Int) < 6) := by have := HK.out; omega
      obtain ⟨Aa, ca, rfl⟩ := own_form HJ.out.oa
      obtain ⟨Ab, cb, rfl⟩ := own_form HJ.out.ob
      have hca := own_at HJ.out.oa
      have HW : Hid (k ≤ ca ∨ k = 0) := hca
      clear hca
      by_cases hkn : (k : Int) < n0
      · have hk6 : ¬ (k : Int) < 6 := fun h => hend ⟨hkn, h⟩
        clear hend
        obtain ⟨X, hX⟩ : ∃ X : Int, (((whoF (vOf σ) (min k 4)).getD 0 : Nat) : Int) = X := ⟨_, rfl⟩
        obtain ⟨Y, hY⟩ : ∃ Y, (whoF (vOf σ) (min k 4)).isSome = Y := ⟨_, rfl⟩
        have HXY := Lib.hid (And.intro hX hY)
        clear hX hY
        go_wp2_with (first
          | (go_at_call 49; refine (who_any2 HJ.out.rowV HW.out HXY.out.1 HXY.out.2).mono ?_; rintro r x1 ⟨rfl, hb⟩; have HX := Lib.hid (HJ.out.below hb); clear hb)
          | (go_at_call 50; refine (rwho_any2 HX.out.rowR HXY.out.1 HXY.out.2).mono ?_; rintro r x2 ⟨rfl, hb⟩; have HX2 := Lib.hid (HX.out.below hb); clear hb)
          | (go_at_call 48; refine (turn_works _).mono ?_; rintro r x3 ⟨rfl, hb⟩; have HX3 := Lib.hid (HX2.out.below hb); clear hb))
        go_ret
        exact ⟨ret_bool (by simp), HX3.out.b⟩
      · clear hend
        obtain ⟨X, hX⟩ : ∃ X : Int, (((whoF (vOf σ) (min k 4)).getD 0 : Nat) : Int) = X := ⟨_, rfl⟩
        obtain ⟨Y, hY⟩ : ∃ Y, (whoF (vOf σ) (min k 4)).isSome = Y := ⟨_, rfl⟩
        have HXY := Lib.hid (And.intro hX hY)
        clear hX hY
        go_wp2_with (first
          | (go_at_call 49; refine (who_any2 HJ.out.rowV HW.out HXY.out.1 HXY.out.2).mono ?_; rintro r x1 ⟨rfl, hb⟩; have HX := Lib.hid (HJ.out.below hb); clear hb)
          | (go_at_call 50; refine (rwho_any2 HX.out.rowR HXY.out.1 HXY.out.2).mono ?_; rintro r x2 ⟨rfl, hb⟩; have HX2 := Lib.hid (HX.out.below hb); clear hb)
          | (go_at_call 48; refine (turn_works _).mono ?_; rintro r x3 ⟨rfl, hb⟩; have HX3 := Lib.hid (HX2.out.below hb); clear hb))
        go_ret
        exact ⟨ret_bool (by simp), HX3.out.b⟩
end Go.Proofs.Ytogdpkeojccpcaa
